/- Texts of the proof, joined: The book's Same at texts. The walk of DiskRuns. Chapter 22 as plain law: any calls, Marks and Backs among them: how many files, how many raw writes, and of what names. Both disks side by side: a call on one of them. The walk of the law's 'call': one call on both disks. The book's functions at bytes. The walk of the law's 'alike': both disks have the same files. The walk of the law DiskPlays. -/
import Derived.Test.YtmhdhnipljonlaaRows
import Derived.Test.YtmhdhnipljonlaaMp1
import Derived.Test.YtmhdhnipljonlaaMp5
import Derived.Test.YtmhdhnipljonlaaMp3
import Derived.Deep.RegionHeld3
namespace Go.Proofs.Ytmhdhnipljonlaa
open Go.RowKit
set_option linter.unusedSimpArgs false
set_option linter.unusedVariables false
set_option maxHeartbeats 400000 in
theorem sameStr_any (v u : Value) (l m : List ByteArray) (w : World) (h : Rd sv w v l) (h2 : Rd sv w u m) :
    Calls Try.prog 34 #[v, u] w fun e w' => e = .returned (.bool (decide (l = m))) ∧ ∃ n, w' = w.drewN n := by
  obtain ⟨a, cap, rfl, hlc, hm, hc⟩ := h
  obtain ⟨a2, cap2, rfl, hlc2, hm2, hc2⟩ := h2
  have hm' : l.length ≤ 9223372036854775807 := by unfold maxLen at hm; omega
  have hm2' : m.length ≤ 9223372036854775807 := by unfold maxLen at hm2; omega
  clear hm hlc hm2 hlc2
  by_cases hlen : l.length = m.length
  · have HL := Lib.hid hlen
    have t1 : ((l.length : Int) != (m.length : Int)) = false := by rw [bne_eq_false_iff_eq]; omega
    have H1 := Lib.hid hc
    have H2 := Lib.hid hc2
    clear hlen hc hc2
    go_enter Try.func34, Try.ntmps34
    go_wp2
    go_loopw [5] (fun i wr => ∃ k n : Nat, wr = w.drewN n ∧ k ≤ l.length ∧ i = .int .i64 k ∧ Hid (∀ j, j < k → nth l j = nth m j)) (fun i _ => l.length - (intOf i).toNat)
    case atStart => exact ⟨0, 0, rfl, Nat.zero_le _, rfl, fun j hj => absurd hj (by omega)⟩
    case round =>
      obtain ⟨k, n, rfl, hk, rfl, hs⟩ := hrel
      by_cases hlt : k < l.length
      · obtain ⟨b, off, rfl, hc'⟩ := H1.out (by intro h; simp [h] at hlt)
        have hlt2 : k < m.length := by rw [← HL.out]; exact hlt
        obtain ⟨b2, off2, rfl, hc2'⟩ := H2.out (by intro h; simp [h] at hlt2)
        have hck := hc' k hlt
        have hck2 := hc2' k hlt2
        clear hc' hc2'
        have q1 : (k : Int) < (l.length : Int) := by omega
        have q2 : (k : Int) < (m.length : Int) := by omega
        go_wp2
        go_quiet (fail)
        go_wp2
        · have hne : nth l k ≠ nth m k := str_ne (by assumption)
          go_ret
          exact ⟨congrArg (fun b => Ending.returned (.bool b)) (decide_eq_false (fun e => by rw [e] at hne; exact hne rfl)).symm, _, World.drewN_drewN ..⟩
        · have heq : nth l k = nth m k := str_eq (by assumption)
          have HEQ := Lib.hid heq
          clear heq
          go_roundw
          case rel => exact ⟨k + 1, _, rfl, by omega, by go_num, fun j hj => by
            by_cases e : j = k
            · rw [e]; exact HEQ.out
            · exact hs.out j (by omega)⟩
          case measure => simp [intOf]; omega
      · obtain rfl : k = l.length := by omega
        go_wp2
        go_ret
        exact ⟨congrArg (fun b => Ending.returned (.bool b)) (decide_eq_true (same_ext HL.out hs.out)).symm, _, rfl⟩
  · have t1 : ((l.length : Int) != (m.length : Int)) = true := by rw [bne_iff_ne]; omega
    have t2 : decide (l = m) = false := by simp; intro h; exact hlen (by rw [h])
    have T2 := Lib.hid t2
    clear hlen t2
    go_enter Try.func34, Try.ntmps34
    go_wp2
    go_ret
    exact ⟨congrArg (fun b => Ending.returned (.bool b)) T2.out.symm, 0, rfl⟩

theorem sameStr_ok (v u : Value) (l : List ByteArray) (w : World) (h : Rd sv w v l) (h2 : Rd sv w u l) :
    Calls Try.prog 34 #[v, u] w fun e w' => e = .returned (.bool true) ∧ ∃ n, w' = w.drewN n := by
  have h := sameStr_any v u l l w h h2
  rw [decide_eq_true rfl] at h; exact h
end Go.Proofs.Ytmhdhnipljonlaa
namespace Go.Proofs.Ytmhdhnipljonlaa
open Go.RowKit
set_option linter.unusedSimpArgs false
set_option linter.unusedVariables false
abbrev nA : ByteArray := ⟨#[97]⟩
abbrev nB : ByteArray := ⟨#[98]⟩
abbrev nC : ByteArray := ⟨#[99]⟩
abbrev nQ : ByteArray := ⟨#[113]⟩
def z33 : List UInt8 := List.replicate 33 0
def qs1 : DS := (dAppend ⟨[], [], []⟩ nA z33).2
def qs2 : DS := (dRename qs1 nA nB).2
def qs3 : DS := dBack qs2 2
def qs4 : DS := dMark qs3
def qs5 : DS := (dAppend qs4 nA []).2
def qs6 : DS := (dAppend qs5 nC []).2
theorem i64_d (x : Int) (h1 : -9223372036854775808 ≤ x) (h2 : x ≤ 9223372036854775807) : I64 x := ⟨h1, h2⟩
theorem sameStr_yes (v u : Value) (l : List ByteArray) (w : World) (h : Rd sv w v l) (h2 : Rd sv w u l) :
    Calls Try.prog 34 #[v, u] w fun e w' => e = .returned (.bool true) ∧ Upd [] w w' :=
  (sameStr_ok v u l w h h2).mono fun e w' ⟨h1, n, h2⟩ => ⟨h1, by rw [h2]; exact (Upd.refl [] w).drewN n⟩
theorem DOut.dd {w0 w w' : World} {gd : Nat} {G : List Nat} {s : DS} (h : DOut w0 w gd G s w') : ∃ G', DD w0 w' gd G' s ∧ Upd G w w' ∧ (∀ x ∈ G', x ∈ G ∨ w.heap.size ≤ x) := h
set_option maxRecDepth 100000 in
set_option maxHeartbeats 4000000 in
theorem diskRuns_any (w : World) : Calls Try.prog 6 #[] w fun e w' => e = .returned (.bool true) ∧ Upd [] w w' := by
  go_enter Try.func6, Try.ntmps6
  go_wp2_with fail
  (with_reducible refine (dNew_any w w (Upd.refl [] w)).mono ?_)
  rintro e w1 ⟨gd, G1, rfl, h1, hu1, hf1⟩
  have H1 := Lib.hid h1
  have HU1 := Lib.hid hu1
  clear h1 hu1 hf1
  have hmk : ∀ u : World, (Instr.makeSlice 27 (.int .i64 33) (.int .i64 33)).run Try.prog u = .ok (.slice (some ⟨u.heap.size, 0, none⟩) 33 33) (u.alloc (.cells (List.replicate 33 (.int .u8 0)).toArray 5)) := fun u => run_mk (P := Try.prog) Try.underlying27 infoB8 rfl u 33 33 _ _ rfl rfl (by omega) (by omega) (by omega)
  go_wp2_with fail
  have hua : Upd [] w1 (w1.alloc (.cells #[.int .u8 0, .int .u8 0, .int .u8 0, .int .u8 0, .int .u8 0, .int .u8 0, .int .u8 0, .int .u8 0, .int .u8 0, .int .u8 0, .int .u8 0, .int .u8 0, .int .u8 0, .int .u8 0, .int .u8 0, .int .u8 0, .int .u8 0, .int .u8 0, .int .u8 0, .int .u8 0, .int .u8 0, .int .u8 0, .int .u8 0, .int .u8 0, .int .u8 0, .int .u8 0, .int .u8 0, .int .u8 0, .int .u8 0, .int .u8 0, .int .u8 0, .int .u8 0, .int .u8 0] 5)) := (Upd.refl [] w1).alloc _
  have HB : Hid (Bytes (w1.alloc (.cells #[.int .u8 0, .int .u8 0, .int .u8 0, .int .u8 0, .int .u8 0, .int .u8 0, .int .u8 0, .int .u8 0, .int .u8 0, .int .u8 0, .int .u8 0, .int .u8 0, .int .u8 0, .int .u8 0, .int .u8 0, .int .u8 0, .int .u8 0, .int .u8 0, .int .u8 0, .int .u8 0, .int .u8 0, .int .u8 0, .int .u8 0, .int .u8 0, .int .u8 0, .int .u8 0, .int .u8 0, .int .u8 0, .int .u8 0, .int .u8 0, .int .u8 0, .int .u8 0, .int .u8 0] 5)) (.slice (some ⟨w1.heap.size, 0, none⟩) 33 33) z33) := Rd.lit z33 rfl rfl rfl (Nat.le_refl _) (by decide)
  have HD := Lib.hid (H1.out.upd0 hua)
  have HNG : Hid (∀ x ∈ blk (.slice (some ⟨w1.heap.size, 0, none⟩) 33 33), x ∉ G1) := fun x hx hg => by simp [blk] at hx; have := (H1.out.ge x hg).2; omega
  clear hua hmk
  generalize w1.alloc (.cells #[.int .u8 0, .int .u8 0, .int .u8 0, .int .u8 0, .int .u8 0, .int .u8 0, .int .u8 0, .int .u8 0, .int .u8 0, .int .u8 0, .int .u8 0, .int .u8 0, .int .u8 0, .int .u8 0, .int .u8 0, .int .u8 0, .int .u8 0, .int .u8 0, .int .u8 0, .int .u8 0, .int .u8 0, .int .u8 0, .int .u8 0, .int .u8 0, .int .u8 0, .int .u8 0, .int .u8 0, .int .u8 0, .int .u8 0, .int .u8 0, .int .u8 0, .int .u8 0, .int .u8 0] 5) = w2 at *
  (with_reducible refine (dAppend_any nA _ z33 HB.out (fun _ => HNG.out) HD.out (by decide) (by decide) (by decide)).mono ?_)
  rintro e w3 ⟨rfl, ho⟩
  rw [show (dAppend ⟨[], [], []⟩ nA z33).1 = 0 by kernel_rfl]
  obtain ⟨G3, h3, -, -⟩ := DOut.dd (s := qs1) ho
  have H3 := Lib.hid h3
  clear ho h3 HB HNG HD H1
  go_wp2_with fail
  (with_reducible refine (dCount_any H3.out).mono ?_)
  rw [show (qs1.log.length : Int) = 3 by kernel_rfl]
  rintro e w4 ⟨rfl, rfl⟩
  go_wp2_with fail
  (with_reducible refine (dRename_any nA nB H3.out (Nat.le_of_ble_eq_true (by kernel_rfl)) (Nat.le_of_ble_eq_true (by kernel_rfl))).mono ?_)
  rintro e w4 ⟨rfl, ho⟩
  rw [show (dRename qs1 nA nB).1 = 0 by kernel_rfl]
  obtain ⟨G4, h4, -, -⟩ := DOut.dd (s := qs2) ho
  have H4 := Lib.hid h4
  clear ho h4 H3
  go_wp2_with fail
  (with_reducible refine (dBack_any 2 (i64_d _ (by omega) (by omega)) H4.out (Nat.le_of_ble_eq_true (by kernel_rfl))).mono ?_)
  rintro e w5 ⟨rfl, ho⟩
  obtain ⟨G5, h5, -, -⟩ := DOut.dd (s := qs3) ho
  have H5 := Lib.hid h5
  clear ho h5 H4
  go_wp2_with fail
  (with_reducible refine (dkRead_any nA H5.out (Nat.le_of_ble_eq_true (by kernel_rfl))).mono ?_)
  rw [show dGet qs3.now nA = (List.replicate 32 0, true) by kernel_rfl]
  rintro e w6 ⟨v6, rfl, ho6, hu6⟩
  obtain ⟨a6, k6, rfl, -⟩ := ho6.rd
  have H6 := Lib.hid (H5.out.upd0 hu6)
  clear ho6 hu6 H5
  rw [show (List.replicate 32 (0 : UInt8)).length = 32 by rfl]
  go_wp2_with fail
  (with_reducible refine (dNames_any H6.out (Nat.le_of_ble_eq_true (by kernel_rfl))).mono ?_)
  rw [show qs3.now.map (·.1) = [nA] by kernel_rfl]
  rintro e w7 ⟨v7, rfl, ho7, hu7⟩
  have hua : Upd [] w7 (w7.alloc (.cells #[.string ⟨#[97]⟩] 9)) := (Upd.refl [] w7).alloc _
  have H7 := Lib.hid ((H6.out.upd0 hu7).upd0 hua)
  have HA7 := Lib.hid ((ho7.upd hua (by simp)).rd)
  have HB7 : Hid (Rd sv (w7.alloc (.cells #[.string ⟨#[97]⟩] 9)) (.slice (some ⟨w7.heap.size, 0, none⟩) 1 1) [nA]) := Rd.lit [nA] rfl rfl rfl (Nat.le_refl _) (by decide)
  obtain ⟨a7, k7, rfl, -⟩ := ho7.rd
  rw [show [nA].length = 1 by rfl] at HA7
  clear ho7 hu7 H6 hua
  go_wp2_with fail
  (with_reducible refine (sameStr_yes _ _ [nA] _ HA7.out HB7.out).mono ?_)
  rintro e w8 ⟨rfl, hu8⟩
  have H8 := Lib.hid (H7.out.upd0 hu8)
  clear HA7 HB7 H7 hu8
  go_wp2_with fail
  (with_reducible refine (dCount_any H8.out).mono ?_)
  rw [show (qs3.log.length : Int) = 0 by kernel_rfl]
  rintro e w9 ⟨rfl, rfl⟩
  go_wp2_with fail
  (with_reducible refine (dMark_any H8.out (Nat.le_of_ble_eq_true (by kernel_rfl))).mono ?_)
  rintro e w9 ⟨rfl, ho⟩
  obtain ⟨G9, h9, -, -⟩ := DOut.dd (s := qs4) ho
  have H9 := Lib.hid h9
  clear ho h9 H8
  go_wp2_with fail
  (with_reducible refine (dAppend_any nA _ [] (Rd.nil _) (fun h => absurd rfl h) H9.out (by decide) (Nat.le_of_ble_eq_true (by kernel_rfl)) (Nat.le_of_ble_eq_true (by kernel_rfl))).mono ?_)
  rintro e w10 ⟨rfl, ho⟩
  rw [show (dAppend qs4 nA []).1 = 0 by kernel_rfl]
  obtain ⟨G10, h10, -, -⟩ := DOut.dd (s := qs5) ho
  have H10 := Lib.hid h10
  clear ho h10 H9
  go_wp2_with fail
  (with_reducible refine (dAppend_any nC _ [] (Rd.nil _) (fun h => absurd rfl h) H10.out (by decide) (Nat.le_of_ble_eq_true (by kernel_rfl)) (Nat.le_of_ble_eq_true (by kernel_rfl))).mono ?_)
  rintro e w11 ⟨rfl, ho⟩
  rw [show (dAppend qs5 nC []).1 = 0 by kernel_rfl]
  obtain ⟨G11, h11, -, -⟩ := DOut.dd (s := qs6) ho
  have H11 := Lib.hid h11
  clear ho h11 H10
  go_wp2_with fail
  (with_reducible refine (dCount_any H11.out).mono ?_)
  rw [show (qs6.log.length : Int) = 1 by kernel_rfl]
  rintro e w12 ⟨rfl, rfl⟩
  go_wp2_with fail
  (with_reducible refine (dCut_any nA 99 (i64_d _ (by omega) (by omega)) H11.out (Nat.le_of_ble_eq_true (by kernel_rfl)) (Nat.le_of_ble_eq_true (by kernel_rfl))).mono ?_)
  rintro e w12 ⟨rfl, ho⟩
  rw [show (dCut qs6 nA 99).1 = 1 by kernel_rfl]
  rw [show (dCut qs6 nA 99).2 = qs6 by kernel_rfl] at ho
  obtain ⟨G12, h12, -, -⟩ := DOut.dd ho
  have H12 := Lib.hid h12
  clear ho h12 H11
  go_wp2_with fail
  (with_reducible refine (dRemove_any nQ H12.out (Nat.le_of_ble_eq_true (by kernel_rfl)) (Nat.le_of_ble_eq_true (by kernel_rfl))).mono ?_)
  rintro e w13 ⟨rfl, ho⟩
  rw [show (dRemove qs6 nQ).1 = 7 by kernel_rfl]
  obtain ⟨G13, h13, -, -⟩ := DOut.dd ho
  have HO := Lib.hid h13.old
  clear ho h13 H12
  go_wp2_with fail
  go_ret
  exact ⟨rfl, HO.out⟩
end Go.Proofs.Ytmhdhnipljonlaa
namespace Go.Proofs.Ytmhdhnipljonlaa
open Go.RowKit
set_option linter.unusedSimpArgs false
set_option linter.unusedVariables false
def dAny (x : Ask22) (s : DS) : DS :=
  if x.kd = 5 then dMark s else if x.kd = 6 then dBack s x.n else dStep x s
/-- The names of a raw write. -/
def WrNm (x : Wr) : Prop := nameOk x.nm = true ∧ (x.kd = 3 → nameOk x.tn = true)
def FsNm (fs : DF) : Prop := ∀ p ∈ fs, nameOk p.1 = true
theorem FsNm.set_ {fs : DF} (h : FsNm fs) (k : ByteArray) (v : List UInt8) (hk : nameOk k = true) : FsNm (tSet strLt fs k v) := by
  intro p hp
  unfold tSet at hp
  rcases List.mem_append.1 hp with q | q
  · exact h p (List.mem_of_mem_take q)
  · rcases List.mem_cons.1 q with rfl | q
    · exact hk
    · exact h p (List.mem_of_mem_drop q)
theorem FsNm.del {fs : DF} (h : FsNm fs) (k : ByteArray) : FsNm (tDel strLt fs k) := by
  intro p hp
  unfold tDel at hp
  split at hp
  · rcases List.mem_append.1 hp with q | q
    · exact h p (List.mem_of_mem_take q)
    · exact h p (List.mem_of_mem_drop q)
  · exact h p hp
theorem FsNm.has {fs : DF} (h : FsNm fs) {k : ByteArray} (hin : inD fs k = true) : nameOk k = true := by
  obtain ⟨h1, h2⟩ := in_at hin
  rw [← h2]
  exact h _ (by rw [nth_get _ _ h1]; exact List.getElem_mem _)
theorem FsNm.apply {fs : DF} (h : FsNm fs) {x : Wr} (hx : WrNm x) : FsNm (wApply x fs) := by
  unfold wApply
  split
  · exact h.set_ _ _ hx.1
  split
  · exact h.set_ _ _ hx.1
  split
  · rename_i h3
    split
    · exact (h.del _).set_ _ _ (hx.2 h3)
    · exact h
  split
  · exact h.set_ _ _ hx.1
  split
  · exact h.del _
  · exact h
theorem FsNm.all : ∀ {l : List Wr} {fs : DF}, FsNm fs → (∀ x ∈ l, WrNm x) → FsNm (wAll fs l)
  | [], fs, h, _ => h
  | x :: l, fs, h, hl => FsNm.all (fs := wApply x fs) (h.apply (hl x (by simp))) (fun y hy => hl y (by simp [hy]))
theorem aApply_len (x : Wr) (fs : DF) : (wApply x fs).length ≤ fs.length + 1 := (grows_do x ⟨fs, [], []⟩ 0).now
theorem aAll_len : ∀ (l : List Wr) (fs : DF), (wAll fs l).length ≤ fs.length + l.length
  | [], fs => by simp [wAll]
  | x :: l, fs => by
    have h1 := aAll_len l (wApply x fs)
    have h2 := aApply_len x fs
    have h3 : wAll fs (x :: l) = wAll (wApply x fs) l := rfl
    rw [h3, List.length_cons]; omega
/-- Behind k calls. -/
structure Any (k : Nat) (s : DS) : Prop where
  ok : DOk s
  sum : s.mark.length + s.log.length ≤ 18 * k
  mnm : FsNm s.mark
  lnm : ∀ x ∈ s.log, WrNm x
theorem Any.zero : Any 0 ⟨[], [], []⟩ := ⟨DOk.zero, by simp, fun p h => by simp at h, fun p h => by simp at h⟩
theorem Any.nnm {k : Nat} {s : DS} (h : Any k s) : FsNm s.now := by rw [h.ok.eq]; exact h.mnm.all h.lnm
theorem Any.nlen {k : Nat} {s : DS} (h : Any k s) : s.now.length ≤ 18 * k := by
  have := aAll_len s.log s.mark
  rw [← h.ok.eq] at this
  have := h.sum; omega
theorem Any.up {k : Nat} {s : DS} (h : Any k s) : Any (k + 1) s := ⟨h.ok, by have := h.sum; omega, h.mnm, h.lnm⟩
theorem Any.do_ {k : Nat} {s : DS} (h : Any k s) {x : Wr} (hx : WrOk x s.now) (hn : WrNm x) : Any (k + 1) (dDo x s) :=
  ⟨h.ok.do_ hx, by have := h.sum; unfold dDo; simp; omega, h.mnm, fun y hy => by
    rcases List.mem_append.1 hy with q | q
    · exact h.lnm y q
    · simp at q; subst q; exact hn⟩
theorem dPut_log (nm : ByteArray) : ∀ (l : List (List UInt8)) (s : DS), (dPut nm s l).log = s.log ++ l.map (wPut nm)
  | [], s => by simp [dPut]
  | c :: l, s => by
    have h : dPut nm s (c :: l) = dPut nm (dDo (wPut nm c) s) l := rfl
    rw [h, dPut_log nm l]; unfold dDo; simp
theorem dPut_mark (nm : ByteArray) : ∀ (l : List (List UInt8)) (s : DS), (dPut nm s l).mark = s.mark
  | [], s => rfl
  | c :: l, s => by
    have h : dPut nm s (c :: l) = dPut nm (dDo (wPut nm c) s) l := rfl
    rw [h, dPut_mark nm l]; rfl
theorem puts_nm {nm : ByteArray} (h : nameOk nm = true) (l : List (List UInt8)) : ∀ x ∈ l.map (wPut nm), WrNm x := by
  intro x hx
  obtain ⟨c, _, rfl⟩ := List.mem_map.1 hx
  exact ⟨h, fun q => absurd q (show ¬ (2 : Int) = 3 by decide)⟩
theorem Any.append {k : Nat} {s : DS} (h : Any k s) (nm : ByteArray) (p : List UInt8) (hp : p.length ≤ 500) (hk : k ≤ 100) : Any (k + 1) (dAppend s nm p).2 := by
  have hl := h.nlen
  have hok := h.ok.append nm p (by omega)
  have hcl := chunks_len p
  have hs := h.sum
  revert hok
  unfold dAppend
  cases hn : nameOk nm with
  | false => intro _; exact h.up
  | true =>
    rw [if_pos rfl]
    split
    · intro _; exact h.up
    · cases hin : inD s.now nm with
      | true =>
        rw [if_pos rfl]
        intro hok
        refine ⟨hok, ?_, by dsimp only; rw [dPut_mark]; exact h.mnm, ?_⟩
        · dsimp only; rw [dPut_mark, dPut_log, List.length_append, List.length_map]; omega
        · intro x hx
          dsimp only at hx
          rw [dPut_log] at hx
          rcases List.mem_append.1 hx with q | q
          · exact h.lnm x q
          · exact puts_nm hn _ x q
      | false =>
        rw [if_neg (by simp)]
        intro hok
        refine ⟨hok, ?_, by dsimp only; rw [dPut_mark]; exact h.mnm, ?_⟩
        · dsimp only; rw [dPut_mark, dPut_log, List.length_append, List.length_map]; unfold dDo; dsimp only; rw [List.length_append]; simp; omega
        · intro x hx
          dsimp only at hx
          rw [dPut_log] at hx
          rcases List.mem_append.1 hx with q | q
          · rcases List.mem_append.1 (show x ∈ s.log ++ [wMake nm] from q) with q | q
            · exact h.lnm x q
            · simp at q; subst q; exact ⟨hn, fun q => absurd q (show ¬ (1 : Int) = 3 by decide)⟩
          · exact puts_nm hn _ x q
theorem Any.rename {k : Nat} {s : DS} (h : Any k s) (nm tn : ByteArray) (hk : k ≤ 100) : Any (k + 1) (dRename s nm tn).2 := by
  have hl := h.nlen
  unfold dRename
  cases hn : nameOk tn with
  | false => exact h.up
  | true =>
    cases hin : inD s.now nm with
    | false => exact h.up
    | true => exact h.do_ (h.ok.ren nm tn hin (by omega)).1 ⟨h.nnm.has hin, fun _ => hn⟩
theorem Any.cut {k : Nat} {s : DS} (h : Any k s) (nm : ByteArray) (n : Int) (hk : k ≤ 100) : Any (k + 1) (dCut s nm n).2 := by
  have hl := h.nlen
  unfold dCut
  cases hin : inD s.now nm with
  | false => exact h.up
  | true =>
    rw [if_pos rfl]
    split
    · exact h.up
    · rename_i hb
      exact h.do_ (h.ok.cut nm n hin (by omega) (by omega) (by omega)).1 ⟨h.nnm.has hin, fun q => absurd q (show ¬ (4 : Int) = 3 by decide)⟩
theorem Any.remove {k : Nat} {s : DS} (h : Any k s) (nm : ByteArray) (hk : k ≤ 100) : Any (k + 1) (dRemove s nm).2 := by
  have hl := h.nlen
  unfold dRemove
  cases hin : inD s.now nm with
  | false => exact h.up
  | true => exact h.do_ (h.ok.rem nm hin (by omega)).1 ⟨h.nnm.has hin, fun q => absurd q (show ¬ (5 : Int) = 3 by decide)⟩
theorem Any.mark {k : Nat} {s : DS} (h : Any k s) : Any (k + 1) (dMark s) :=
  ⟨h.ok.mark, by have := h.nlen; show s.now.length + 0 ≤ _; omega, h.nnm, fun x hx => by simp [dMark] at hx⟩
theorem Any.back {k : Nat} {s : DS} (h : Any k s) (n : Int) : Any (k + 1) (dBack s n) := by
  refine ⟨h.ok.back n, ?_, h.mnm.all fun x hx => h.lnm x (List.mem_of_mem_take hx), fun x hx => by simp [dBack] at hx⟩
  have h1 := aAll_len (s.log.take n.toNat) s.mark
  have h2 := h.sum
  rw [List.length_take] at h1
  show (wAll s.mark (s.log.take n.toNat)).length + 0 ≤ _
  omega
theorem Any.step {k : Nat} {s : DS} (h : Any k s) (x : Ask22) (hx : x.d.length ≤ 500) (hk : k ≤ 100) : Any (k + 1) (dAny x s) := by
  unfold dAny dStep
  split
  · exact h.mark
  split
  · exact h.back _
  split
  · exact h.append _ _ hx hk
  split
  · exact h.rename _ _ hk
  split
  · exact h.cut _ _ hk
  split
  · exact h.remove _ hk
  · exact h.up
theorem Any.no {k : Nat} {s : DS} (h : Any k s) (nm : ByteArray) (hn : nameOk nm = false) : inD s.now nm = false := by
  cases hin : inD s.now nm with
  | false => rfl
  | true => rw [h.nnm.has hin] at hn; exact absurd hn (by simp)
theorem dAny_1 (s : DS) (n : Int) (nm tn : ByteArray) (dv : Sl) (d : List UInt8) : dAny ⟨1, n, nm, tn, dv, d⟩ s = (dAppend s nm d).2 := by unfold dAny; simp [dStep_1]
theorem dAny_2 (s : DS) (n : Int) (nm tn : ByteArray) (dv : Sl) (d : List UInt8) : dAny ⟨2, n, nm, tn, dv, d⟩ s = (dRename s nm tn).2 := by unfold dAny; simp [dStep_2]
theorem dAny_3 (s : DS) (n : Int) (nm tn : ByteArray) (dv : Sl) (d : List UInt8) : dAny ⟨3, n, nm, tn, dv, d⟩ s = (dCut s nm n).2 := by unfold dAny; simp [dStep_3]
theorem dAny_4 (s : DS) (n : Int) (nm tn : ByteArray) (dv : Sl) (d : List UInt8) : dAny ⟨4, n, nm, tn, dv, d⟩ s = (dRemove s nm).2 := by unfold dAny; simp [dStep_4]
theorem dAny_5 (s : DS) (n : Int) (nm tn : ByteArray) (dv : Sl) (d : List UInt8) : dAny ⟨5, n, nm, tn, dv, d⟩ s = dMark s := by unfold dAny; simp
theorem dAny_6 (s : DS) (n : Int) (nm tn : ByteArray) (dv : Sl) (d : List UInt8) : dAny ⟨6, n, nm, tn, dv, d⟩ s = dBack s n := by unfold dAny; simp
theorem dAny_no (s : DS) (kd n : Int) (nm tn : ByteArray) (dv : Sl) (d : List UInt8) (h1 : kd ≠ 1) (h2 : kd ≠ 2) (h3 : kd ≠ 3) (h4 : kd ≠ 4) (h5 : kd ≠ 5) (h6 : kd ≠ 6) : dAny ⟨kd, n, nm, tn, dv, d⟩ s = s := by unfold dAny; simp [h5, h6, dStep_no _ _ _ _ _ _ _ h1 h2 h3 h4]
end Go.Proofs.Ytmhdhnipljonlaa
namespace Go.Proofs.Ytmhdhnipljonlaa
open Go.RowKit
set_option linter.unusedSimpArgs false
set_option linter.unusedVariables false
/-- The program's disk and the document's; a block beside them. -/
structure PG (w0 W : World) (gd gr gb : Nat) (xs : List Value) (sd sr : DS) (G1 G2 : List Nat) : Prop where
  d : DD w0 W gd G1 sd
  r : RD w0 W gr G2 sr
  ap : Ap G1 G2
  bk : Blk W gb 65 xs
  n1 : gb ∉ G1
  n2 : gb ∉ G2
def PT (w0 W : World) (gd gr gb : Nat) (xs : List Value) (sd sr : DS) : Prop := ∃ G1 G2, PG w0 W gd gr gb xs sd sr G1 G2
/-- The two disks. -/
structure Bo (w0 W : World) (gd gr : Nat) (s : DS) (G1 G2 : List Nat) : Prop where
  d : DD w0 W gd G1 s
  r : RD w0 W gr G2 s
  ap : Ap G1 G2
section
variable {w0 W W' : World} {gd gr gb : Nat} {xs : List Value} {sd sr s s' : DS} {G1 G2 : List Nat}
theorem Bo.upd0 (h : Bo w0 W gd gr s G1 G2) (hu : Upd [] W W') : Bo w0 W' gd gr s G1 G2 := ⟨h.d.upd0 hu, h.r.upd0 hu, h.ap⟩
theorem PT.old (h : PT w0 W gd gr gb xs sd sr) : Upd [] w0 W := by
  obtain ⟨G1, G2, h⟩ := h
  exact h.d.old
theorem PT.bk (h : PT w0 W gd gr gb xs sd sr) : Blk W gb 65 xs := by
  obtain ⟨G1, G2, h⟩ := h
  exact h.bk
theorem PT.upd0 (h : PT w0 W gd gr gb xs sd sr) (hu : Upd [] W W') : PT w0 W' gd gr gb xs sd sr := by
  obtain ⟨G1, G2, h⟩ := h
  exact ⟨G1, G2, h.d.upd0 hu, h.r.upd0 hu, h.ap, h.bk.upd hu (by simp), h.n1, h.n2⟩
theorem PT.box (h : Bo w0 W gd gr s G1 G2) : PT w0 (W.alloc (.cells xs.toArray 65)) gd gr W.heap.size xs s s := by
  have hu : Upd [] W (W.alloc (.cells xs.toArray 65)) := (Upd.refl [] W).alloc _
  exact ⟨G1, G2, h.d.upd0 hu, h.r.upd0 hu, h.ap, Blk.new W _ xs, fun hx => by have := (h.d.ge _ hx).2; omega, fun hx => by have := (h.r.ge _ hx).2; omega⟩
theorem PG.ofD (h : PG w0 W gd gr gb xs sd sr G1 G2) (ho : DOut w0 W gd G1 s' W') : PT w0 W' gd gr gb xs s' sr := by
  obtain ⟨G', k1, k2, k3⟩ := ho
  have hb := h.bk.lt
  exact ⟨G', G2, k1, h.r.upd k2 h.ap.symm (fun x hx => (h.d.ge x hx).1), h.ap.next k3 (fun x hx => (h.r.ge x hx).2), h.bk.upd k2 h.n1, fun hx => by
    rcases k3 _ hx with q | q
    · exact h.n1 q
    · omega, h.n2⟩
theorem PG.ofR (h : PG w0 W gd gr gb xs sd sr G1 G2) (ho : ROut w0 W gr G2 s' W') : PT w0 W' gd gr gb xs sd s' := by
  obtain ⟨G', k1, k2, k3⟩ := ho
  have hb := h.bk.lt
  exact ⟨G1, G', h.d.upd k2 h.ap (fun x hx => (h.r.ge x hx).1), k1, (h.ap.symm.next k3 (fun x hx => (h.d.ge x hx).2)).symm, h.bk.upd k2 h.n2, h.n1, fun hx => by
    rcases k3 _ hx with q | q
    · exact h.n2 q
    · omega⟩
theorem PT.done (h : PT w0 W gd gr gb xs s s) : ∃ G1 G2, Bo w0 W gd gr s G1 G2 := by
  obtain ⟨G1, G2, h⟩ := h
  exact ⟨G1, G2, h.d, h.r, h.ap⟩
theorem PG.data (h : PG w0 W gd gr gb xs sd sr G1 G2) {v : Value} {p : List UInt8} (hp : Bytes w0 v p) : Bytes W v p ∧ (p ≠ [] → ∀ x ∈ blk v, x ∉ G1) ∧ (p ≠ [] → ∀ x ∈ blk v, x ∉ G2) :=
  ⟨hp.upd0 h.d.old, fun hne x hx hg => by have := hp.lt hne x hx; have := (h.d.ge x hg).1; omega, fun hne x hx hg => by have := hp.lt hne x hx; have := (h.r.ge x hg).1; omega⟩
theorem ptDAppend (nm : ByteArray) (v : Value) (p : List UInt8) (hp : Bytes w0 v p) (hpl : p.length ≤ 100000000) (h : PT w0 W gd gr gb xs sd sr) (hn : sd.now.length ≤ 4999) (hl : sd.log.length ≤ 500000000) {r : Int} (he : dAppend sd nm p = (r, s')) :
    Calls Try.prog 29 #[.pointer (some ⟨gd, 0, none⟩), sv nm, v] W fun e w' => e = .returned (.int .i64 r) ∧ PT w0 w' gd gr gb xs s' sr := by
  obtain ⟨G1, G2, h⟩ := h
  refine (dAppend_any nm v p (h.data hp).1 (h.data hp).2.1 h.d hpl (by omega) (by omega)).mono ?_
  rintro e w' ⟨rfl, ho⟩
  rw [he] at ho ⊢
  exact ⟨rfl, h.ofD ho⟩
theorem ptRAppend (nm : ByteArray) (v : Value) (p : List UInt8) (hp : Bytes w0 v p) (hpl : p.length ≤ 100000000) (h : PT w0 W gd gr gb xs sd sr) (hn : sr.now.length ≤ 4999) (hl : sr.log.length ≤ 500000000) {r : Int} (he : dAppend sr nm p = (r, s')) :
    Calls Try.prog 65 #[.pointer (some ⟨gr, 0, none⟩), sv nm, v] W fun e w' => e = .returned (.int .i64 r) ∧ PT w0 w' gd gr gb xs sd s' := by
  obtain ⟨G1, G2, h⟩ := h
  refine (rAppend_any nm v p (h.data hp).1 (h.data hp).2.2 h.r hpl (by omega) (by omega)).mono ?_
  rintro e w' ⟨rfl, ho⟩
  rw [he] at ho ⊢
  exact ⟨rfl, h.ofR ho⟩
theorem ptDRename (nm tn : ByteArray) (h : PT w0 W gd gr gb xs sd sr) (hn : sd.now.length ≤ 4999) (hl : sd.log.length ≤ 500000000) {r : Int} (he : dRename sd nm tn = (r, s')) :
    Calls Try.prog 31 #[.pointer (some ⟨gd, 0, none⟩), sv nm, sv tn] W fun e w' => e = .returned (.int .i64 r) ∧ PT w0 w' gd gr gb xs s' sr := by
  obtain ⟨G1, G2, h⟩ := h
  refine (dRename_any nm tn h.d (by omega) (by omega)).mono ?_
  rintro e w' ⟨rfl, ho⟩
  rw [he] at ho ⊢
  exact ⟨rfl, h.ofD ho⟩
theorem ptRRename (nm tn : ByteArray) (h : PT w0 W gd gr gb xs sd sr) (hn : sr.now.length ≤ 4999) (hl : sr.log.length ≤ 500000000) {r : Int} (he : dRename sr nm tn = (r, s')) :
    Calls Try.prog 66 #[.pointer (some ⟨gr, 0, none⟩), sv nm, sv tn] W fun e w' => e = .returned (.int .i64 r) ∧ PT w0 w' gd gr gb xs sd s' := by
  obtain ⟨G1, G2, h⟩ := h
  refine (rRename_any nm tn h.r (by omega) (by omega)).mono ?_
  rintro e w' ⟨rfl, ho⟩
  rw [he] at ho ⊢
  exact ⟨rfl, h.ofR ho⟩
theorem ptDCut (nm : ByteArray) (n : Int) (hi : I64 n) (h : PT w0 W gd gr gb xs sd sr) (hn : sd.now.length ≤ 4999) (hl : sd.log.length ≤ 500000000) {r : Int} (he : dCut sd nm n = (r, s')) :
    Calls Try.prog 37 #[.pointer (some ⟨gd, 0, none⟩), sv nm, .int .i64 n] W fun e w' => e = .returned (.int .i64 r) ∧ PT w0 w' gd gr gb xs s' sr := by
  obtain ⟨G1, G2, h⟩ := h
  refine (dCut_any nm n hi h.d (by omega) (by omega)).mono ?_
  rintro e w' ⟨rfl, ho⟩
  rw [he] at ho ⊢
  exact ⟨rfl, h.ofD ho⟩
theorem ptRCut (nm : ByteArray) (n : Int) (hi : I64 n) (h : PT w0 W gd gr gb xs sd sr) (hn : sr.now.length ≤ 4999) (hl : sr.log.length ≤ 500000000) {r : Int} (he : dCut sr nm n = (r, s')) :
    Calls Try.prog 67 #[.pointer (some ⟨gr, 0, none⟩), sv nm, .int .i64 n] W fun e w' => e = .returned (.int .i64 r) ∧ PT w0 w' gd gr gb xs sd s' := by
  obtain ⟨G1, G2, h⟩ := h
  refine (rCut_any nm n hi h.r (by omega) (by omega)).mono ?_
  rintro e w' ⟨rfl, ho⟩
  rw [he] at ho ⊢
  exact ⟨rfl, h.ofR ho⟩
theorem ptDRemove (nm : ByteArray) (h : PT w0 W gd gr gb xs sd sr) (hn : sd.now.length ≤ 4999) (hl : sd.log.length ≤ 500000000) {r : Int} (he : dRemove sd nm = (r, s')) :
    Calls Try.prog 38 #[.pointer (some ⟨gd, 0, none⟩), sv nm] W fun e w' => e = .returned (.int .i64 r) ∧ PT w0 w' gd gr gb xs s' sr := by
  obtain ⟨G1, G2, h⟩ := h
  refine (dRemove_any nm h.d (by omega) (by omega)).mono ?_
  rintro e w' ⟨rfl, ho⟩
  rw [he] at ho ⊢
  exact ⟨rfl, h.ofD ho⟩
theorem ptRRemove (nm : ByteArray) (h : PT w0 W gd gr gb xs sd sr) (hn : sr.now.length ≤ 4999) (hl : sr.log.length ≤ 500000000) {r : Int} (he : dRemove sr nm = (r, s')) :
    Calls Try.prog 68 #[.pointer (some ⟨gr, 0, none⟩), sv nm] W fun e w' => e = .returned (.int .i64 r) ∧ PT w0 w' gd gr gb xs sd s' := by
  obtain ⟨G1, G2, h⟩ := h
  refine (rRemove_any nm h.r (by omega) (by omega)).mono ?_
  rintro e w' ⟨rfl, ho⟩
  rw [he] at ho ⊢
  exact ⟨rfl, h.ofR ho⟩
theorem ptDMark (h : PT w0 W gd gr gb xs sd sr) (hn : sd.now.length ≤ 100000) :
    Calls Try.prog 36 #[.pointer (some ⟨gd, 0, none⟩)] W fun e w' => e = .returned (.tuple #[]) ∧ PT w0 w' gd gr gb xs (dMark sd) sr := by
  obtain ⟨G1, G2, h⟩ := h
  refine (dMark_any h.d hn).mono ?_
  rintro e w' ⟨rfl, ho⟩
  exact ⟨rfl, h.ofD ho⟩
theorem ptRMark (h : PT w0 W gd gr gb xs sd sr) :
    Calls Try.prog 69 #[.pointer (some ⟨gr, 0, none⟩)] W fun e w' => e = .returned (.tuple #[]) ∧ PT w0 w' gd gr gb xs sd (dMark sr) := by
  obtain ⟨G1, G2, h⟩ := h
  refine (rSetMark_any h.r).mono ?_
  rintro e w' ⟨rfl, ho⟩
  exact ⟨rfl, h.ofR ho⟩
theorem ptDBack (n : Int) (hi : I64 n) (h : PT w0 W gd gr gb xs sd sr) (hm : sd.mark.length ≤ 100000) :
    Calls Try.prog 32 #[.pointer (some ⟨gd, 0, none⟩), .int .i64 n] W fun e w' => e = .returned (.tuple #[]) ∧ PT w0 w' gd gr gb xs (dBack sd n) sr := by
  obtain ⟨G1, G2, h⟩ := h
  refine (dBack_any n hi h.d hm).mono ?_
  rintro e w' ⟨rfl, ho⟩
  exact ⟨rfl, h.ofD ho⟩
theorem ptRBack (n : Int) (hi : I64 n) (h : PT w0 W gd gr gb xs sd sr) (hl : sr.log.length ≤ 1000000000) :
    Calls Try.prog 70 #[.pointer (some ⟨gr, 0, none⟩), .int .i64 n] W fun e w' => e = .returned (.tuple #[]) ∧ PT w0 w' gd gr gb xs sd (dBack sr n) := by
  obtain ⟨G1, G2, h⟩ := h
  refine (rBack_any n hi h.r hl).mono ?_
  rintro e w' ⟨rfl, ho⟩
  exact ⟨rfl, h.ofR ho⟩
theorem RD.new (w0 w : World) (hu : Upd [] w0 w) : ∃ G, RD w0 (w.alloc (.cells #[.slice none 0 0, .slice none 0 0, .slice none 0 0] 63)) w.heap.size G ⟨[], [], []⟩ ∧ ∀ x ∈ G, w.heap.size ≤ x := by
  have hua : Upd [] w (w.alloc (.cells #[.slice none 0 0, .slice none 0 0, .slice none 0 0] 63)) := (Upd.refl [] w).alloc _
  have hrl : ∀ W, RL W [] (slv ⟨none, 0, 0⟩) [] := fun W => ⟨⟨none, 0, rfl, Nat.le_refl _, Nat.zero_le _, fun h => absurd rfl h⟩, fun x hx => by simp [blk] at hx, fun c hc => by simp at hc, fun c hc => by simp at hc, Rising.nil⟩
  refine ⟨_, ⟨[], ⟨none, 0, 0⟩, ⟨none, 0, 0⟩, [], [], .slice none 0 0, [], ⟨Blk.new w _ [.slice none 0 0, .slice none 0 0, .slice none 0 0], hu.size, by simp, hrl _, hrl _, OwnN.nil _ _ _, by simp, by simp, fun x hx => by simp [blk] at hx, hu.seq hua, by simp⟩, rfl, DOk.zero, rfl⟩, fun x hx => ?_⟩
  rcases (rfoot_mem _ _ _ _).1 hx with rfl | hx | hx
  · exact Nat.le_refl _
  · simp at hx
  · simp [blk] at hx
end
end Go.Proofs.Ytmhdhnipljonlaa
namespace Go.Proofs.Ytmhdhnipljonlaa
open Go.RowKit
set_option linter.unusedSimpArgs false
set_option linter.unusedVariables false
section
variable {w0 w : World} {gd gr : Nat} {s : DS} {G1 G2 : List Nat}
set_option maxRecDepth 20000 in
set_option maxHeartbeats 8000000 in
theorem call_any (x : Ask22) (hx : x.d.length ≤ 500) (hi : I64 x.n) (hp : Bytes w0 (slv x.dv) x.d) {k : Nat} (hk : k ≤ 60) (ha : Any k s) (h : Bo w0 w gd gr s G1 G2) :
    Calls Try.prog 39 #[.pointer (some ⟨gd, 0, none⟩), .pointer (some ⟨gr, 0, none⟩), .agg #[.int .i64 x.kd, .int .i64 x.n, sv x.nm, sv x.tn, slv x.dv]] w fun e w' => e = .returned (.bool true) ∧ ∃ G1 G2, Bo w0 w' gd gr (dAny x s) G1 G2 := by
  obtain ⟨kd, n, nm, tn, ⟨da, dn, dc⟩, d⟩ := x
  have hb0 : PT w0 (w.alloc (.cells #[.int .i64 kd, .int .i64 n, sv nm, sv tn, slv ⟨da, dn, dc⟩] 65)) gd gr w.heap.size [.int .i64 kd, .int .i64 n, sv nm, sv tn, slv ⟨da, dn, dc⟩] s s := PT.box h
  have HB0 := Lib.hid hb0
  have HI := Lib.hid hi
  have HP : Hid (Bytes w0 (.slice da dn dc) d) := hp
  have HX : Hid (d.length ≤ 500) := hx
  have hnl := ha.nlen
  have hsum := ha.sum
  have HND : Hid (s.now.length ≤ 4999) := by unfold Hid; omega
  have HLD : Hid (s.log.length ≤ 500000000) := by unfold Hid; omega
  have HMD : Hid (s.mark.length ≤ 100000) := by unfold Hid; omega
  have HNR := HND
  have HLR := HLD
  obtain ⟨s', hs'⟩ : ∃ s', dAny ⟨kd, n, nm, tn, ⟨da, dn, dc⟩, d⟩ s = s' := ⟨_, rfl⟩
  rw [hs']
  have HS' := Lib.hid hs'
  have d0 := hb0.bk.cell 0
  have d1 := hb0.bk.cell 1
  have d2 := hb0.bk.cell 2
  have d3 := hb0.bk.cell 3
  have d4 := hb0.bk.cell 4
  simp only [List.getElem?_cons_zero, List.getElem?_cons_succ, slv] at d0 d1 d2 d3 d4
  simp only [slv]
  clear h hx hi hp ha hnl hsum hs' hk hb0
  by_cases k1 : kd = 1
  · subst k1
    have HE0 : Hid ((dAppend s nm d).2 = s') := by unfold Hid; rw [← HS'.out, dAny_1]
    obtain ⟨r, HE⟩ : ∃ r, Hid (dAppend s nm d = (r, s')) := ⟨(dAppend s nm d).1, by unfold Hid; rw [← HE0.out]⟩
    have rr : (r == r) = true := by simp
    go_enter Try.func39, Try.ntmps39
    go_wp2_with fail
    have ra := HB0.out
    generalize w.alloc (.cells #[.int .i64 1, .int .i64 n, sv nm, sv tn, .slice da dn dc] 65) = wb at *
    go_region_held3 (fun w' => w'.cell? ⟨w.heap.size, 2, none⟩ = some (sv nm) ∧ w'.cell? ⟨w.heap.size, 4, none⟩ = some (.slice da dn dc)) (first | go_keep | exact ⟨ra.bk.cell 2, ra.bk.cell 4⟩)
      (first
        | (go_at_call 29; (with_reducible refine (ptDAppend nm (.slice da dn dc) d HP.out (by have := HX.out; omega) (PT.upd0 ra ?_) HND.out HLD.out HE.out).mono ?_); (repeat (first | exact Upd.refl _ _ | apply Upd.drew | apply Upd.drewN | apply Upd.alloc)); (rintro _ W ⟨rfl, ra⟩; dsimp only))
        | (go_at_call 65; (with_reducible refine (ptRAppend nm (.slice da dn dc) d HP.out (by have := HX.out; omega) (PT.upd0 ra ?_) HNR.out HLR.out HE.out).mono ?_); (repeat (first | exact Upd.refl _ _ | apply Upd.drew | apply Upd.drewN | apply Upd.alloc)); (rintro _ W ⟨rfl, ra⟩; dsimp only)))
    all_goals
      have HF := Lib.hid ra.done
      clear ra
      go_wp2_with fail
      go_ret
      exact ⟨by simp, HF.out⟩
  · have t1 : (kd == 1) = false := by rw [beq_eq_false_iff_ne]; exact k1
    by_cases k2 : kd = 2
    · subst k2
      have HE0 : Hid ((dRename s nm tn).2 = s') := by unfold Hid; rw [← HS'.out, dAny_2]
      obtain ⟨r, HE⟩ : ∃ r, Hid (dRename s nm tn = (r, s')) := ⟨(dRename s nm tn).1, by unfold Hid; rw [← HE0.out]⟩
      have rr : (r == r) = true := by simp
      go_enter Try.func39, Try.ntmps39
      go_wp2_with fail
      have ra := HB0.out
      generalize w.alloc (.cells #[.int .i64 2, .int .i64 n, sv nm, sv tn, .slice da dn dc] 65) = wb at *
      go_region_held3 (fun w' => w'.cell? ⟨w.heap.size, 2, none⟩ = some (sv nm) ∧ w'.cell? ⟨w.heap.size, 3, none⟩ = some (sv tn)) (first | go_keep | exact ⟨ra.bk.cell 2, ra.bk.cell 3⟩)
        (first
          | (go_at_call 31; (with_reducible refine (ptDRename nm tn (PT.upd0 ra ?_) HND.out HLD.out HE.out).mono ?_); (repeat (first | exact Upd.refl _ _ | apply Upd.drew | apply Upd.drewN | apply Upd.alloc)); (rintro _ W ⟨rfl, ra⟩; dsimp only))
          | (go_at_call 66; (with_reducible refine (ptRRename nm tn (PT.upd0 ra ?_) HNR.out HLR.out HE.out).mono ?_); (repeat (first | exact Upd.refl _ _ | apply Upd.drew | apply Upd.drewN | apply Upd.alloc)); (rintro _ W ⟨rfl, ra⟩; dsimp only)))
      all_goals
        have HF := Lib.hid ra.done
        clear ra
        go_wp2_with fail
        go_ret
        exact ⟨by simp, HF.out⟩
    · have t2 : (kd == 2) = false := by rw [beq_eq_false_iff_ne]; exact k2
      by_cases k3 : kd = 3
      · subst k3
        have HE0 : Hid ((dCut s nm n).2 = s') := by unfold Hid; rw [← HS'.out, dAny_3]
        obtain ⟨r, HE⟩ : ∃ r, Hid (dCut s nm n = (r, s')) := ⟨(dCut s nm n).1, by unfold Hid; rw [← HE0.out]⟩
        have rr : (r == r) = true := by simp
        go_enter Try.func39, Try.ntmps39
        go_wp2_with fail
        have ra := HB0.out
        generalize w.alloc (.cells #[.int .i64 3, .int .i64 n, sv nm, sv tn, .slice da dn dc] 65) = wb at *
        go_region_held3 (fun w' => w'.cell? ⟨w.heap.size, 2, none⟩ = some (sv nm) ∧ w'.cell? ⟨w.heap.size, 1, none⟩ = some (.int .i64 n)) (first | go_keep | exact ⟨ra.bk.cell 2, ra.bk.cell 1⟩)
          (first
            | (go_at_call 37; (with_reducible refine (ptDCut nm n HI.out (PT.upd0 ra ?_) HND.out HLD.out HE.out).mono ?_); (repeat (first | exact Upd.refl _ _ | apply Upd.drew | apply Upd.drewN | apply Upd.alloc)); (rintro _ W ⟨rfl, ra⟩; dsimp only))
            | (go_at_call 67; (with_reducible refine (ptRCut nm n HI.out (PT.upd0 ra ?_) HNR.out HLR.out HE.out).mono ?_); (repeat (first | exact Upd.refl _ _ | apply Upd.drew | apply Upd.drewN | apply Upd.alloc)); (rintro _ W ⟨rfl, ra⟩; dsimp only)))
        all_goals
          have HF := Lib.hid ra.done
          clear ra
          go_wp2_with fail
          go_ret
          exact ⟨by simp, HF.out⟩
      · have t3 : (kd == 3) = false := by rw [beq_eq_false_iff_ne]; exact k3
        by_cases k4 : kd = 4
        · subst k4
          have HE0 : Hid ((dRemove s nm).2 = s') := by unfold Hid; rw [← HS'.out, dAny_4]
          obtain ⟨r, HE⟩ : ∃ r, Hid (dRemove s nm = (r, s')) := ⟨(dRemove s nm).1, by unfold Hid; rw [← HE0.out]⟩
          have rr : (r == r) = true := by simp
          go_enter Try.func39, Try.ntmps39
          go_wp2_with fail
          have ra := HB0.out
          generalize w.alloc (.cells #[.int .i64 4, .int .i64 n, sv nm, sv tn, .slice da dn dc] 65) = wb at *
          go_region_held3 (fun w' => w'.cell? ⟨w.heap.size, 2, none⟩ = some (sv nm)) (first | go_keep | exact ra.bk.cell 2)
            (first
              | (go_at_call 38; (with_reducible refine (ptDRemove nm (PT.upd0 ra ?_) HND.out HLD.out HE.out).mono ?_); (repeat (first | exact Upd.refl _ _ | apply Upd.drew | apply Upd.drewN | apply Upd.alloc)); (rintro _ W ⟨rfl, ra⟩; dsimp only))
              | (go_at_call 68; (with_reducible refine (ptRRemove nm (PT.upd0 ra ?_) HNR.out HLR.out HE.out).mono ?_); (repeat (first | exact Upd.refl _ _ | apply Upd.drew | apply Upd.drewN | apply Upd.alloc)); (rintro _ W ⟨rfl, ra⟩; dsimp only)))
          all_goals
            have HF := Lib.hid ra.done
            clear ra
            go_wp2_with fail
            go_ret
            exact ⟨by simp, HF.out⟩
        · have t4 : (kd == 4) = false := by rw [beq_eq_false_iff_ne]; exact k4
          by_cases k5 : kd = 5
          · subst k5
            have HE : Hid (dMark s = s') := by unfold Hid; rw [← HS'.out, dAny_5]
            clear k1 k2 k3 k4
            go_enter Try.func39, Try.ntmps39
            go_wp2_with fail
            (with_reducible refine (ptDMark HB0.out (by have := HND.out; omega)).mono ?_)
            rintro e w1 ⟨rfl, h1⟩
            have H1 := Lib.hid h1
            clear h1
            go_wp2_with fail
            (with_reducible refine (ptRMark H1.out).mono ?_)
            rintro e w2 ⟨rfl, h2⟩
            rw [HE.out] at h2
            have H2 := Lib.hid h2.done
            clear h2
            go_wp2_with fail
            go_ret
            exact ⟨rfl, H2.out⟩
          · have t5 : (kd == 5) = false := by rw [beq_eq_false_iff_ne]; exact k5
            by_cases k6 : kd = 6
            · subst k6
              have HE : Hid (dBack s n = s') := by unfold Hid; rw [← HS'.out, dAny_6]
              clear k1 k2 k3 k4 k5
              go_enter Try.func39, Try.ntmps39
              go_wp2_with fail
              (with_reducible refine (ptDBack n HI.out HB0.out HMD.out).mono ?_)
              rintro e w1 ⟨rfl, h1⟩
              have H1 := Lib.hid h1
              have d1 := h1.bk.cell 1
              simp only [List.getElem?_cons_zero, List.getElem?_cons_succ] at d1
              clear h1
              go_wp2_with fail
              (with_reducible refine (ptRBack n HI.out H1.out (by have := HLD.out; omega)).mono ?_)
              rintro e w2 ⟨rfl, h2⟩
              rw [HE.out] at h2
              have H2 := Lib.hid h2.done
              clear h2
              go_wp2_with fail
              go_ret
              exact ⟨rfl, H2.out⟩
            · have t6 : (kd == 6) = false := by rw [beq_eq_false_iff_ne]; exact k6
              have HE : Hid (s = s') := by unfold Hid; rw [← HS'.out, dAny_no s kd n nm tn _ d k1 k2 k3 k4 k5 k6]
              clear k1 k2 k3 k4 k5 k6
              go_enter Try.func39, Try.ntmps39
              go_wp2_with fail
              go_ret
              exact ⟨rfl, by have := HB0.out; rw [HE.out] at this; exact this.done⟩
end
end Go.Proofs.Ytmhdhnipljonlaa
namespace Go.Proofs.Ytmhdhnipljonlaa
open Go.RowKit
set_option linter.unusedSimpArgs false
set_option linter.unusedVariables false

set_option maxHeartbeats 400000 in
theorem sameByte_any (v u : Value) (l m : List UInt8) (w : World) (h : Bytes w v l) (h2 : Bytes w u m) :
    Calls Try.prog 27 #[v, u] w fun e w' => e = .returned (.bool (decide (l = m))) ∧ ∃ n, w' = w.drewN n := by
  obtain ⟨a, cap, rfl, hlc, hm, hc⟩ := h
  obtain ⟨a2, cap2, rfl, hlc2, hm2, hc2⟩ := h2
  have hm' : l.length ≤ 9223372036854775807 := by unfold maxLen at hm; omega
  have hm2' : m.length ≤ 9223372036854775807 := by unfold maxLen at hm2; omega
  clear hm hlc hm2 hlc2
  by_cases hlen : l.length = m.length
  · have HL := Lib.hid hlen
    have t1 : ((l.length : Int) != (m.length : Int)) = false := by rw [bne_eq_false_iff_eq]; omega
    have H1 := Lib.hid hc
    have H2 := Lib.hid hc2
    clear hlen hc hc2
    go_enter Try.func27, Try.ntmps27
    go_wp2
    go_loopw [5] (fun i wr => ∃ k n : Nat, wr = w.drewN n ∧ k ≤ l.length ∧ i = .int .i64 k ∧ Hid (∀ j, j < k → nth l j = nth m j)) (fun i _ => l.length - (intOf i).toNat)
    case atStart => exact ⟨0, 0, rfl, Nat.zero_le _, rfl, fun j hj => absurd hj (by omega)⟩
    case round =>
      obtain ⟨k, n, rfl, hk, rfl, hs⟩ := hrel
      by_cases hlt : k < l.length
      · obtain ⟨b, off, rfl, hc'⟩ := H1.out (by intro h; simp [h] at hlt)
        have hlt2 : k < m.length := by rw [← HL.out]; exact hlt
        obtain ⟨b2, off2, rfl, hc2'⟩ := H2.out (by intro h; simp [h] at hlt2)
        have hck := hc' k hlt
        have hck2 := hc2' k hlt2
        clear hc' hc2'
        have q1 : (k : Int) < (l.length : Int) := by omega
        have q2 : (k : Int) < (m.length : Int) := by omega
        go_wp2
        go_quiet (fail)
        go_wp2
        · have hne : ((nth l k).toNat : Int) ≠ ((nth m k).toNat : Int) := by first | assumption | exact bne_iff_ne.1 (by assumption)
          go_ret
          exact ⟨congrArg (fun b => Ending.returned (.bool b)) (decide_eq_false (fun e => by rw [e] at hne; exact hne rfl)).symm, _, World.drewN_drewN ..⟩
        · have heq : nth l k = nth m k := UInt8.toNat_inj.1 (by have : ((nth l k).toNat : Int) = ((nth m k).toNat : Int) := by first | assumption | exact bne_eq_false_iff_eq.1 (by assumption)
                                                                omega)
          go_roundw
          case rel => exact ⟨k + 1, _, rfl, by omega, by go_num, fun j hj => by
            by_cases e : j = k
            · rw [e]; exact heq
            · exact hs.out j (by omega)⟩
          case measure => simp [intOf]; omega
      · obtain rfl : k = l.length := by omega
        go_wp2
        go_ret
        exact ⟨congrArg (fun b => Ending.returned (.bool b)) (decide_eq_true (same_ext HL.out hs.out)).symm, _, rfl⟩
  · have t1 : ((l.length : Int) != (m.length : Int)) = true := by rw [bne_iff_ne]; omega
    have t2 : decide (l = m) = false := by simp; intro h; exact hlen (by rw [h])
    have T2 := Lib.hid t2
    clear hlen t2
    go_enter Try.func27, Try.ntmps27
    go_wp2
    go_ret
    exact ⟨congrArg (fun b => Ending.returned (.bool b)) T2.out.symm, 0, rfl⟩

theorem infoByte : (Try.prog.info? 5).map (fun i => (i.zero, i.size, i.bytes)) = some (some (.int .u8 0), 1, 1) := by kernel_rfl
theorem sizeByte : (Try.prog.info? 5).map (·.size) = some 1 := by kernel_rfl
set_option maxHeartbeats 400000 in
theorem roomyByte_any (v : Value) (l : List UInt8) (m : UInt8) (w : World) (h : Bytes w v l) (hz : l.length ≤ 140737488351232) :
    Calls Try.prog 25 #[v, bv m] w fun e w' => ∃ u, e = .returned u ∧ Roomed bv 5 w w' u l m := by
  have h0 := h
  obtain ⟨a, cap, rfl, hlc, hm, hc⟩ := h
  clear hm hlc hc
  have hmk := fun u => run_mk (P := Try.prog) Try.underlying27 infoByte rfl u (l.length + 80) (l.length + 80) ((l.length : Int) + 80) ((l.length : Int) + 80) (by omega) (by omega) (by omega) (by omega) (by omega)
  go_enter Try.func25, Try.ntmps25
  go_wp2_with ((with_reducible refine wpList_cp bv_one rfl (.tmp 11) (.tmp 12) 27 27 5 rfl Try.underlying27 sizeByte w.heap.size (l.length + 80) (l.length + 80) (.slice a l.length cap) rfl rfl l (h0.alloc _) 5 (List.replicate (l.length + 80) (.int .u8 0)) (Blk.new _ _ _) (by omega) (by simp) ?_); intro w1 hb hu hs)
  have HB : Hid (Blk w1 w.heap.size 5 (l.map bv ++ (List.replicate 0 (bv m) ++ List.replicate 80 (.int .u8 0)))) := by
    rw [List.drop_replicate, show l.length + 80 - l.length = 80 from by omega] at hb; exact hb
  have HU : Hid (Upd [] w w1) := ((Upd.refl [] w).alloc _).trans hu (by simp) (by simp)
  clear hb hu hmk h0 hs
  go_loopw [6] (fun i wr => ∃ k : Nat, k ≤ 80 ∧ i = .int .i64 ((l.length : Int) + k) ∧ Hid (Blk wr w.heap.size 5 (l.map bv ++ (List.replicate k (bv m) ++ List.replicate (80 - k) (.int .u8 0)))) ∧ Hid (Upd [] w wr)) (fun i _ => l.length + 80 - (intOf i).toNat)
  case atStart => exact ⟨0, by omega, by simp, HB, HU⟩
  case round =>
    obtain ⟨k, hk, rfl, hb, hu⟩ := hrel
    by_cases hlt : k < 80
    · have hcell : wr.cell? ⟨w.heap.size, l.length + k, none⟩ = some (.int .u8 0) := by
        rw [hb.out.cell, List.getElem?_append_right (by simp), List.getElem?_append_right (by simp), List.getElem?_replicate, if_pos (by simp; omega)]
      have hfr : wr.frozen? ⟨w.heap.size, l.length + k, none⟩ = false := hb.out.frozen _
      have hb' : Hid (Blk (wr.setCell ⟨w.heap.size, l.length + k, none⟩ (bv m)) w.heap.size 5 (l.map bv ++ (List.replicate (k + 1) (bv m) ++ List.replicate (80 - (k + 1)) (.int .u8 0)))) := by
        have := hb.out.set_ (l.length + k) (bv m)
        rw [set_mid _ k (80 - k) _ _ _ (by simp) (by omega)] at this; exact this
      have hu' : Hid (Upd [] w (wr.setCell ⟨w.heap.size, l.length + k, none⟩ (bv m))) := hu.out.setCell _ _ (.inr (Nat.le_refl _))
      clear HB HU hb hu
      go_wp2
      go_roundw
      case rel => exact ⟨k + 1, by omega, by go_num, hb', hu'⟩
      case measure => simp [intOf]; omega
    · obtain rfl : k = 80 := by omega
      go_wp2
      go_ret
      exact ⟨_, rfl, rfl, by simpa using hb.out, hu.out⟩

set_option maxHeartbeats 400000 in
theorem intactByte_any (v u : Value) (f l : List UInt8) (m : UInt8) (w : World) (h : Bytes w v f) (h2 : Bytes w u l) (hz : l.length ≤ 140737488351232) :
    Calls Try.prog 26 #[v, u, bv m] w fun e w' => e = .returned (.bool (decide (f = l ++ List.replicate 80 m))) ∧ ∃ n, w' = w.drewN n := by
  have h0 := h
  have h20 := h2
  obtain ⟨a, cap, rfl, hlc, hm, hc⟩ := h
  obtain ⟨a2, cap2, rfl, hlc2, hm2, hc2⟩ := h2
  have hm' : f.length ≤ 9223372036854775807 := by unfold maxLen at hm; omega
  clear hm hm2 hlc2 hc2
  by_cases hlen : f.length = l.length + 80
  · have t1 : ((f.length : Int) != (l.length : Int) + 80) = false := by rw [bne_eq_false_iff_eq]; omega
    have hs := (sameByte_any _ _ _ _ w (h0.take l.length (by omega)) h20)
    have hle : l.length ≤ cap := by omega
    have q1 : (l.length : Int) ≤ (cap : Int) := by omega
    have HL := Lib.hid hlen
    have HC := Lib.hid hc
    have HS := Lib.hid hs
    clear hlen hc h0 h20 hs hlc
    by_cases hsm : f.take l.length = l
    · have HF := Lib.hid hsm
      have T : decide (f.take l.length = l) = true := decide_eq_true hsm
      rw [T] at HS
      clear hsm T
      go_enter Try.func26, Try.ntmps26
      go_wp2_with (go_at_call 27; refine HS.out.mono ?_; rintro e w' ⟨rfl, n0, rfl⟩)
      go_loopw [7] (fun i wr => ∃ k n : Nat, wr = w.drewN n ∧ k ≤ 80 ∧ i = .int .i64 ((l.length : Int) + k) ∧ Hid (∀ j, l.length ≤ j → j < l.length + k → nth f j = m)) (fun i _ => f.length - (intOf i).toNat)
      case atStart => exact ⟨0, n0, rfl, by omega, by simp, fun j h1 h2 => by omega⟩
      case round =>
        obtain ⟨k, n, rfl, hk, rfl, hr⟩ := hrel
        have hfl : (f.length : Int) = l.length + 80 := by have := HL.out; omega
        have HFL := Lib.hid hfl
        by_cases hlt : k < 80
        · have b1 : (l.length : Int) + k < (f.length : Int) := by omega
          obtain ⟨b, off, rfl, hc'⟩ := HC.out (by intro h; rw [h] at b1; simp at b1; omega)
          have hck := hc' (l.length + k) (by omega)
          rw [← Nat.add_assoc] at hck
          have hck2 : w.cell? ⟨b, off + (l.length + k), none⟩ = some (bv (nth f (l.length + k))) := by rw [← Nat.add_assoc]; exact hck
          clear hc' hck hfl
          go_wp2
          · have hne : ((nth f (l.length + k)).toNat : Int) ≠ (m.toNat : Int) := bne_iff_ne.1 (by assumption)
            go_ret
            exact ⟨congrArg (fun b => Ending.returned (.bool b)) (decide_eq_false (intact_bad f l m (l.length + k) (by omega) (by omega) (fun e => hne (by rw [e])))).symm, _, rfl⟩
          · have heq : nth f (l.length + k) = m := UInt8.toNat_inj.1 (by have := bne_eq_false_iff_eq.1 (show (((nth f (l.length + k)).toNat : Int) != (m.toNat : Int)) = false by assumption); omega)
            have H2 := Lib.hid heq
            clear heq
            go_roundw
            case rel => exact ⟨k + 1, _, rfl, by omega, by go_num, fun j h1 h2 => by
              by_cases e : j = l.length + k
              · rw [e]; exact H2.out
              · exact hr.out j h1 (by omega)⟩
            case measure => simp only [intOf]; omega
        · obtain rfl : k = 80 := by omega
          have b1 : ¬ (l.length : Int) + (80 : Nat) < (f.length : Int) := by omega
          clear hfl
          go_wp2
          go_ret
          exact ⟨congrArg (fun b => Ending.returned (.bool b)) (decide_eq_true (intact_split f l m HL.out HF.out hr.out)).symm, _, rfl⟩
    · have T : decide (f.take l.length = l) = false := decide_eq_false hsm
      rw [T] at HS
      have HF : Hid (f ≠ l ++ List.replicate 80 m) := fun e => hsm (by rw [e]; simp)
      clear hsm T
      go_enter Try.func26, Try.ntmps26
      go_wp2_with (go_at_call 27; refine HS.out.mono ?_; rintro e w' ⟨rfl, n0, rfl⟩)
      go_ret
      exact ⟨congrArg (fun b => Ending.returned (.bool b)) (decide_eq_false HF.out).symm, _, rfl⟩
  · have t1 : ((f.length : Int) != (l.length : Int) + 80) = true := by rw [bne_iff_ne]; omega
    have HF : Hid (f ≠ l ++ List.replicate 80 m) := fun e => hlen (by rw [e]; simp)
    clear hlen h0 h20 hc hlc
    go_enter Try.func26, Try.ntmps26
    go_wp2
    go_ret
    exact ⟨congrArg (fun b => Ending.returned (.bool b)) (decide_eq_false HF.out).symm, 0, rfl⟩

theorem intactByte_ok (v u : Value) (l : List UInt8) (m : UInt8) (w : World) (h : Bytes w v (l ++ List.replicate 80 m)) (h2 : Bytes w u l) (hz : l.length ≤ 140737488351232) :
    Calls Try.prog 26 #[v, u, bv m] w fun e w' => e = .returned (.bool true) ∧ ∃ n, w' = w.drewN n := by
  have h := intactByte_any v u _ l m w h h2 hz
  rw [decide_eq_true rfl] at h; exact h
theorem sameByte_ok (v u : Value) (l : List UInt8) (w : World) (h : Bytes w v l) (h2 : Bytes w u l) :
    Calls Try.prog 27 #[v, u] w fun e w' => e = .returned (.bool true) ∧ ∃ n, w' = w.drewN n := by
  have h := sameByte_any v u l l w h h2
  rw [decide_eq_true rfl] at h; exact h
end Go.Proofs.Ytmhdhnipljonlaa
namespace Go.Proofs.Ytmhdhnipljonlaa
open Go.RowKit
set_option linter.unusedSimpArgs false
set_option linter.unusedVariables false
/-- no such file -/
abbrev sNo : ByteArray := ⟨#[110, 111, 32, 115, 117, 99, 104, 32, 102, 105, 108, 101]⟩
theorem sNo_no : nameOk sNo = false := by
  unfold nameOk
  exact decide_eq_false (fun h => absurd (h.2.2 2 (by decide)).1 (by decide))
section
variable {w0 w : World} {gd gr : Nat} {s : DS} {G1 G2 : List Nat}
theorem RD.ops (h : RD w0 w gr G2 s) : ∃ oa oc, w.cell? ⟨gr, 2, none⟩ = some (.slice oa s.log.length oc) ∧ s.log.length ≤ oc ∧ oc ≤ maxLen := by
  obtain ⟨R, nv, mv, ln, lm, ov, ops, hc, rfl, ho, rfl⟩ := h.ex
  obtain ⟨ao, co, rfl, h1, h2, -⟩ := hc.opw.rd lwCells_len
  exact ⟨ao, co, by have := hc.dk.cell 2; simpa using this, by simpa using h1, h2⟩
theorem name_in (hr : Rising strLt s.now) (k : Nat) (hk : k < s.now.length) : ∃ d, dGet s.now (nth (s.now.map (·.1)) k) = (d, true) ∧ d.length ≤ dTotal s.now := by
  have h1 : nth (s.now.map (·.1)) k = (nth s.now k).1 := by rw [nth_get _ _ (by simpa using hk), nth_get _ _ hk]; simp
  have h2 : inD s.now (nth s.now k).1 = true := isIn_at strOrd hr k hk
  refine ⟨(dGet s.now (nth s.now k).1).1, by rw [h1]; exact Prod.ext rfl (by rw [dGet_in]; exact h2), get_le_total _ _⟩
set_option maxRecDepth 20000 in
set_option maxHeartbeats 8000000 in
theorem alike_any {k : Nat} (hk : k ≤ 61) (ha : Any k s) (h : Bo w0 w gd gr s G1 G2) :
    Calls Try.prog 40 #[.pointer (some ⟨gd, 0, none⟩), .pointer (some ⟨gr, 0, none⟩)] w fun e w' => e = .returned (.bool true) ∧ Upd [] w w' := by
  have hnl := ha.nlen
  have hsum := ha.sum
  have HNL : Hid (s.now.length ≤ 100000) := by unfold Hid; omega
  have HN5 : Hid (s.now.length ≤ 5000) := by unfold Hid; omega
  have HNO : Hid (dGet s.now sNo = ([], false)) := dGet_no (ha.no sNo sNo_no)
  have HRI := Lib.hid h.d.ok.ris
  have htot := h.d.ok.tot
  obtain ⟨oa, oc, hoc, ho1, ho2⟩ := h.r.ops
  have hoc2 : oc ≤ 9223372036854775807 := by unfold maxLen at ho2; omega
  obtain ⟨ns, hns⟩ : ∃ ns, s.now.map (·.1) = ns := ⟨_, rfl⟩
  have hnsl : ns.length = s.now.length := by rw [← hns]; simp
  have hnsb : ns.length ≤ 100000 := by omega
  have HNSL := Lib.hid hnsl
  have HNS := Lib.hid hns
  obtain ⟨tt, htt⟩ : ∃ tt, dTotal s.now = tt := ⟨_, rfl⟩
  have HTT := Lib.hid htt
  obtain ⟨cc, hcc⟩ : ∃ cc, s.log.length = cc := ⟨_, rfl⟩
  have HCC := Lib.hid hcc
  rw [hcc] at hoc ho1
  rw [htt] at htot
  have HB := Lib.hid h
  have HOC := Lib.hid hoc
  clear hnl hsum ha h hns hcc htt ho2 hnsl hoc
  go_enter Try.func40, Try.ntmps40
  go_wp2_with fail
  (with_reducible refine (rNames_any HB.out.r HNL.out).mono ?_)
  rw [HNS.out]
  rintro e w1 ⟨v1, rfl, ho1', hu1⟩
  obtain ⟨a1, k1, rfl, hk11, hk12, -⟩ := ho1'.rd
  have hk1b : k1 ≤ 9223372036854775807 := by unfold maxLen at hk12; omega
  have HO1 := Lib.hid ho1'
  have HU1 := Lib.hid hu1
  have HB1 := Lib.hid (HB.out.upd0 hu1)
  have c2 := hu1.cell HOC.out (by simp)
  have C2 := Lib.hid c2
  have ru := Upd.refl [] w1
  have HC1 : Hid (∀ W, Upd [] w1 W → Calls Try.prog 35 #[.pointer (some ⟨gd, 0, none⟩)] W fun e w' => ∃ a k, e = .returned (.slice a ns.length k) ∧ Hid (Rd sv w' (.slice a ns.length k) ns) ∧ Upd [] w1 w') := fun W hW => by
    refine (dNames_any (HB1.out.d.upd0 hW) HNL.out).mono ?_
    rw [HNS.out]
    rintro e w' ⟨v, rfl, ho, hu⟩
    obtain ⟨a, k, rfl, -⟩ := ho.rd
    exact ⟨a, k, rfl, ho.rd, hW.seq hu⟩
  have HC2 : Hid (∀ W a k, Rd sv W (.slice a ns.length k) ns → Upd [] w1 W → Calls Try.prog 34 #[.slice a ns.length k, .slice a1 ns.length k1] W fun e w' => e = .returned (.bool true) ∧ Upd [] w1 w') := fun W a k hr hW => by
    refine (sameStr_yes _ _ ns W hr (HO1.out.rd.upd0 hW)).mono ?_
    rintro e w' ⟨rfl, hu⟩
    exact ⟨rfl, hW.seq hu⟩
  have HC3 : Hid (∀ W, Upd [] w1 W → Calls Try.prog 41 #[.pointer (some ⟨gd, 0, none⟩)] W fun e w' => e = .returned (.int .i64 (tt : Int)) ∧ Upd [] w1 w') := fun W hW => by
    refine (dTotal_any (HB1.out.d.upd0 hW) HNL.out).mono ?_
    rw [HTT.out]
    rintro e w' ⟨rfl, hu⟩
    exact ⟨rfl, hW.seq hu⟩
  have HC4 : Hid (∀ W, Upd [] w1 W → Calls Try.prog 72 #[.pointer (some ⟨gr, 0, none⟩)] W fun e w' => e = .returned (.int .i64 (tt : Int)) ∧ Upd [] w1 w') := fun W hW => by
    refine (rTotal_any (HB1.out.r.upd0 hW) HNL.out).mono ?_
    rw [HTT.out]
    rintro e w' ⟨rfl, hu⟩
    exact ⟨rfl, hW.seq hu⟩
  have HC5 : Hid (∀ W, Upd [] w1 W → Calls Try.prog 30 #[.pointer (some ⟨gd, 0, none⟩)] W fun e w' => e = .returned (.int .i64 (cc : Int)) ∧ Upd [] w1 w') := fun W hW => by
    refine (dCount_any (HB1.out.d.upd0 hW)).mono ?_
    rw [HCC.out]
    rintro e w' ⟨rfl, rfl⟩
    exact ⟨rfl, hW⟩
  have z1 : ((tt : Int) != (tt : Int)) = false := by simp
  have z2 : ((cc : Int) != (cc : Int)) = false := by simp
  clear ho1' hu1
  go_wp2_with fail
  go_region_held3 (fun w' => w'.cell? ⟨gr, 2, none⟩ = some (.slice oa cc oc)) (first | go_keep | exact ru.cell C2.out (by simp))
    (first
      | (go_at_call 35; (with_reducible refine (HC1.out _ (Upd.seq ru ?_)).mono ?_); (repeat (first | exact Upd.refl _ _ | apply Upd.drew | apply Upd.drewN | apply Upd.alloc)); (rintro _ w2 ⟨a2, k2, rfl, hr2, ru⟩; dsimp only))
      | (go_at_call 34; (with_reducible refine (HC2.out _ a2 k2 (hr2.out.upd0 ?_) (Upd.seq ru ?_)).mono ?_); (repeat (first | exact Upd.refl _ _ | apply Upd.drew | apply Upd.drewN | apply Upd.alloc)); (rintro _ w3 ⟨rfl, ru⟩; dsimp only))
      | (go_at_call 41; (with_reducible refine (HC3.out _ (Upd.seq ru ?_)).mono ?_); (repeat (first | exact Upd.refl _ _ | apply Upd.drew | apply Upd.drewN | apply Upd.alloc)); (rintro _ w4 ⟨rfl, ru⟩; dsimp only))
      | (go_at_call 72; (with_reducible refine (HC4.out _ (Upd.seq ru ?_)).mono ?_); (repeat (first | exact Upd.refl _ _ | apply Upd.drew | apply Upd.drewN | apply Upd.alloc)); (rintro _ w5 ⟨rfl, ru⟩; dsimp only))
      | (go_at_call 30; (with_reducible refine (HC5.out _ (Upd.seq ru ?_)).mono ?_); (repeat (first | exact Upd.refl _ _ | apply Upd.drew | apply Upd.drewN | apply Upd.alloc)); (rintro _ w6 ⟨rfl, ru⟩; dsimp only)))
  all_goals
    have RU := Lib.hid ru
    clear ru HC1 HC2 HC3 HC4 HC5 c2
    go_wp2_with fail
    go_loopw [6] (fun vi wr => ∃ k : Nat, k ≤ ns.length ∧ vi = .int .i64 k ∧ Hid (Upd [] w1 wr)) (fun vi _ => ns.length - (intOf vi).toNat)
    case atStart => exact ⟨0, Nat.zero_le _, rfl, by unfold Hid; exact RU.out.drewN 0⟩
    case round =>
      obtain ⟨k, hk, rfl, hu⟩ := hrel
      by_cases hlt : k < ns.length
      · obtain ⟨b, off, rfl, hc⟩ := HO1.out.rd.at_ k hlt
        have d0 := hu.out.cell hc (by simp)
        have hin := name_in (s := s) HRI.out k (by rw [← HNSL.out]; exact hlt)
        rw [HNS.out, HTT.out] at hin
        obtain ⟨d, hd, hdl⟩ := hin
        clear hc
        generalize nth ns k = nm at *
        have HDG := Lib.hid hd
        have q0 : (0 : Int) ≤ k := by omega
        have q1 : (k : Int) < ns.length := by omega
        have HBR := Lib.hid (HB1.out.upd0 hu.out)
        clear hd
        go_wp2_with fail
        (with_reducible refine (dkRead_any nm HBR.out.d HNL.out).mono ?_)
        rw [HDG.out]
        rintro e w4 ⟨v4, rfl, ho4, hu4⟩
        have HR4 : Hid (Bytes w4 v4 d) := ho4.rd
        have HU4 := Lib.hid (hu.out.seq hu4)
        have HBS := Lib.hid (HBR.out.upd0 hu4)
        have d0 := hu4.cell d0 (by simp)
        obtain ⟨a4, c4, rfl, -⟩ := ho4.rd
        clear ho4 hu4
        go_wp2_with fail
        (with_reducible refine (rdRead_any nm HBS.out.r HN5.out).mono ?_)
        rw [HDG.out]
        rintro e w5 ⟨v5, rfl, hb5, -, hu5⟩
        have HR5 := Lib.hid hb5
        have HR45 := Lib.hid (HR4.out.upd0 hu5)
        have HU5 := Lib.hid (HU4.out.seq hu5)
        obtain ⟨a5, c5, rfl, -⟩ := hb5
        clear hu5
        go_wp2_with fail
        (with_reducible refine (sameByte_ok _ _ d _ HR45.out HR5.out).mono ?_)
        rintro e w6 ⟨rfl, n6, rfl⟩
        go_wp2_with fail
        go_roundw
        case rel => exact ⟨k + 1, by omega, by go_num, HU5.out.drewN n6⟩
        case measure => simp [intOf]; omega
      · obtain rfl : k = ns.length := by omega
        have HBR := Lib.hid (HB1.out.upd0 hu.out)
        go_wp2_with fail
        (with_reducible refine (dkRead_any sNo HBR.out.d HNL.out).mono ?_)
        rw [HNO.out]
        rintro e w4 ⟨v4, rfl, ho4, hu4⟩
        have HU4 := Lib.hid (hu.out.seq hu4)
        obtain ⟨a4, c4, rfl, -⟩ := ho4.rd
        clear ho4 hu4
        go_wp2_with fail
        go_ret
        exact ⟨rfl, HU1.out.seq HU4.out⟩
end
end Go.Proofs.Ytmhdhnipljonlaa
namespace Go.Proofs.Ytmhdhnipljonlaa
open Go.RowKit
set_option linter.unusedSimpArgs false
set_option linter.unusedVariables false
set_option maxRecDepth 20000 in
set_option maxHeartbeats 8000000 in
theorem diskPlays_any (w : World) (vl : Value) (l : List Ask22) (hl : RdN 5 ask22Cells w vl l) (hg : ∀ x ∈ l, Ask22Good w x) :
    Calls Try.prog 7 #[vl] w fun e w' => e = .returned (.bool true) ∧ Upd [] w w' := by
  obtain ⟨a1, cap1, rfl, hlc1, hcm1, hcell1⟩ := hl
  have hm1 : l.length ≤ 9223372036854775807 := by unfold maxLen at hcm1; omega
  have HC1 := Lib.hid hcell1
  have HG := Lib.hid hg
  clear hlc1 hcm1 hcell1 hg
  go_enter Try.func7, Try.ntmps7
  go_wp2_with fail
  (with_reducible refine (dNew_any w w (Upd.refl [] w)).mono ?_)
  rintro e w1 ⟨gd, G1, rfl, h1, hu1, hf1⟩
  have H1 := Lib.hid h1
  have HU1 := Lib.hid hu1
  obtain ⟨G2, h2, hf2⟩ := RD.new w w1 hu1
  have HT : Hid (Bo w (w1.alloc (.cells #[.slice none 0 0, .slice none 0 0, .slice none 0 0] 63)) gd w1.heap.size ⟨[], [], []⟩ G1 G2) := ⟨H1.out.upd0 ((Upd.refl [] w1).alloc _), h2, Ap.symm (Ap.new hf2 (fun x hx => (H1.out.ge x hx).2))⟩
  clear h1 hu1 hf1 h2 hf2
  go_wp2_with fail
  generalize w1.alloc (.cells #[.slice none 0 0, .slice none 0 0, .slice none 0 0] 63) = w2 at *
  generalize w1.heap.size = gr at *
  go_loopw [5] (fun vi wr => ∃ (k : Nat) (G1 G2 : List Nat) (s : DS), k ≤ 60 ∧ k ≤ l.length ∧ vi = .int .i64 k ∧ Hid (Bo w wr gd gr s G1 G2) ∧ Hid (Any k s)) (fun vi _ => 60 - (intOf vi).toNat)
  case atStart => exact ⟨0, G1, G2, _, by omega, by omega, rfl, HT, Any.zero⟩
  case round =>
    clear HT
    obtain ⟨k, G1, G2, s, hk, hkl, rfl, hs, hF⟩ := hrel
    have hend : (k < l.length ∧ k < 60) ∨ (k = l.length ∧ Hid (k ≤ 60)) ∨ (k = 60 ∧ k < l.length) := by unfold Hid; omega
    rcases hend with ⟨hlt, h40⟩ | hend
    · obtain ⟨lb, loff, rfl, hca⟩ := HC1.out (by intro h; simp [h] at hlt)
      have q1 : (k : Int) < l.length := by omega
      have q2 : (k : Int) < 60 := by omega
      have q3 : (0 : Int) ≤ k := by omega
      have HD : Hid (∀ i, i < 5 → w.cell? ⟨lb, loff + (k * 5 + i), none⟩ = (ask22Cells (nth l k))[i]?) := hca k hlt
      have hgx := HG.out (nth l k) (by rw [nth_get _ _ hlt]; exact List.getElem_mem _)
      generalize nth l k = x at *
      obtain ⟨kd, n0, nm, tn, ⟨da, dn, dc⟩, d⟩ := x
      obtain ⟨-, hgn, hrd⟩ := hgx
      have HNI := Lib.hid hgn
      have HRD : Hid (Bytes w (.slice da dn dc) d) := hrd
      have hdn : dn = d.length := by
        obtain ⟨a', c', he, -⟩ := HRD.out
        injection he with e1 e2 e3
      subst hdn
      have hdm : d.length ≤ 9223372036854775807 := by
        obtain ⟨a', c', he, h1, h2, -⟩ := HRD.out
        unfold maxLen at h2; omega
      have D0 : Hid (w.cell? ⟨lb, loff + k * 5, none⟩ = some (.int .i64 kd)) := HD.out 0 (by omega)
      have D1 : Hid (w.cell? ⟨lb, loff + k * 5 + 1, none⟩ = some (.int .i64 n0)) := HD.out 1 (by omega)
      have D2 : Hid (w.cell? ⟨lb, loff + k * 5 + 2, none⟩ = some (.string nm)) := HD.out 2 (by omega)
      have D3 : Hid (w.cell? ⟨lb, loff + k * 5 + 3, none⟩ = some (.string tn)) := HD.out 3 (by omega)
      have D4 : Hid (w.cell? ⟨lb, loff + k * 5 + 4, none⟩ = some (.slice da d.length dc)) := HD.out 4 (by omega)
      have hold := hs.out.d.old
      have d0 := hold.cell D0.out (by simp)
      have d1 := hold.cell D1.out (by simp)
      have d2 := hold.cell D2.out (by simp)
      have d3 := hold.cell D3.out (by simp)
      have d4 := hold.cell D4.out (by simp)
      clear hca hrd HD hgn hold
      by_cases hbig : 500 < d.length
      · have t6 : (500 : Int) < d.length := by omega
        go_wp2_with fail
        go_roundw
        case rel => exact ⟨k + 1, G1, G2, s, by omega, by omega, by go_num, hs, hF.out.up⟩
        case measure => simp [intOf]; omega
      · have t6 : ¬ (500 : Int) < d.length := by omega
        have HSM : Hid (d.length ≤ 500) := by unfold Hid; omega
        obtain ⟨s', hs'⟩ : ∃ s', dAny ⟨kd, n0, nm, tn, ⟨da, d.length, dc⟩, d⟩ s = s' := ⟨_, rfl⟩
        have HS' := Lib.hid hs'
        have HF' : Hid (Any (k + 1) s') := by unfold Hid; rw [← hs']; exact hF.out.step _ (by show d.length ≤ 500; omega) (by omega)
        clear hs' hbig
        go_wp2_with fail
        (with_reducible refine (call_any ⟨kd, n0, nm, tn, ⟨da, d.length, dc⟩, d⟩ HSM.out HNI.out HRD.out hk hF.out hs.out).mono ?_)
        rw [HS'.out]
        rintro e w3 ⟨rfl, G3, G4, h3⟩
        have H3 := Lib.hid h3
        clear h3 hs
        go_wp2_with fail
        (with_reducible refine (alike_any (k := k + 1) (by omega) HF'.out H3.out).mono ?_)
        rintro e w4 ⟨rfl, hu4⟩
        have H4 := Lib.hid (H3.out.upd0 hu4)
        clear hu4 H3
        go_wp2_with fail
        go_roundw
        case rel => exact ⟨k + 1, G3, G4, s', by omega, by omega, by go_num, H4, HF'⟩
        case measure => simp [intOf]; omega
    · have HO := Lib.hid hs.out.d.old
      clear hs hF HC1 HG
      rcases hend with ⟨hke, h40⟩ | ⟨hke, hkn⟩
      · have q1 : ¬ (k : Int) < l.length := by omega
        clear h40
        go_wp2_with fail
        (with_reducible refine (diskRuns_any _).mono ?_)
        rintro e w15 ⟨rfl, hu15⟩
        have HU := Lib.hid (HO.out.seq hu15)
        clear hu15
        go_wp2_with fail
        go_ret
        exact ⟨rfl, HU.out⟩
      · have q1 : (k : Int) < l.length := by omega
        have q2 : ¬ (k : Int) < 60 := by omega
        go_wp2_with fail
        (with_reducible refine (diskRuns_any _).mono ?_)
        rintro e w15 ⟨rfl, hu15⟩
        have HU := Lib.hid (HO.out.seq hu15)
        clear hu15
        go_wp2_with fail
        go_ret
        exact ⟨rfl, HU.out⟩
end Go.Proofs.Ytmhdhnipljonlaa
