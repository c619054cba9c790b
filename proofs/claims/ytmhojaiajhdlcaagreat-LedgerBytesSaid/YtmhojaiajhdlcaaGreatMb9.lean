/- Texts of the proof, joined: Chapter 23's Next. Frames as plain law. Chapter 22 as plain law: any calls: how many files, how many raw writes, and of what names. Chapter 22 as plain law: one file, written once. Chapter 25 as plain law: a ledger's records and its file. Chapter 22: a disk in memory. Chapter 22: one raw write. Chapter 22: a disk made, and read. Chapter 22: the bytes of all files together; a copy of the files; Mark. Chapter 22: Mark and Back. Chapter 22: may a file have that name?. -/
import Derived.Test.YtmhojaiajhdlcaaGreatMb8
import Derived.Test.YtmhojaiajhdlcaaGreatMb1
import Derived.Test.YtmhojaiajhdlcaaGreatMb2
import Derived.Deep.RegionHeld3
import Derived.Test.YtmhojaiajhdlcaaGreatMb5
import Derived.Test.YtmhojaiajhdlcaaGreatMb4
import Derived.StillTailTactics
import Derived.Deep.RegionLaw
import Derived.Test.YtmhojaiajhdlcaaGreatRows
namespace Go.Proofs.YtmhojaiajhdlcaaGreat
open Go.RowKit
set_option linter.unusedSimpArgs false
set_option linter.unusedVariables false
/-- What Next tells: the payload, where it ends, the error; r: what stands at the place k. -/
def nextR (r : List UInt8) (k : Nat) : List UInt8 × Int × Int :=
  if r.length < 8 then ([], 0, 3)
  else if num4 r = 0 ∨ 262144 < num4 r then ([], 0, 4)
  else if r.length - 8 < num4 r then ([], 0, 3)
  else if (sumOf [r.take 4, (r.drop 8).take (num4 r)]).toNat ≠ num4 (r.drop 4) then ([], 0, 6)
  else ((r.drop 8).take (num4 r), (((k + 8 + num4 r : Nat) : Nat) : Int), 0)
def nextF (b : List UInt8) (at_ : Int) : List UInt8 × Int × Int :=
  if at_ < 0 ∨ (b.length : Int) < at_ then ([], 0, 1) else nextR (b.drop at_.toNat) at_.toNat
def NextSaid (w : World) (r : List UInt8 × Int × Int) (e : Ending) (w' : World) : Prop :=
  ∃ v, e = .returned (.tuple #[v, .int .i64 r.2.1, .int .i64 r.2.2]) ∧ Own bv w.heap.size 5 w' v r.1 ∧ Upd [] w w'
set_option maxHeartbeats 8000000 in
theorem fNext_any (v : Value) (l : List UInt8) (at_ : Int) (w : World) (h : Bytes w v l) (hz : l.length ≤ 1000000000) (hat : I64 at_) :
    Calls Tryz.prog 73 #[v, .int .i64 at_] w fun e w' => NextSaid w (nextF l at_) e w' := by
  have H := Lib.hid h
  obtain ⟨a, cap, rfl, hlc, hcm, -⟩ := h
  obtain ⟨ha1, ha2⟩ := hat
  by_cases hp : at_ < 0 ∨ (l.length : Int) < at_
  · have HF : Hid (nextF l at_ = ([], 0, 1)) := if_pos hp
    generalize nextF l at_ = r at *
    go_enter Tryz.func73, Tryz.ntmps73
    rcases hp with hp | hp
    all_goals go_wp2_with fail
    all_goals go_ret3
    all_goals exact ⟨_, by rw [HF.out]; rfl, by rw [HF.out]; exact Own.nil _ _ _, Upd.refl _ _⟩
  · obtain ⟨k, rfl⟩ := Int.eq_ofNat_of_zero_le (show 0 ≤ at_ by omega)
    have HN : Hid (nextF l (k : Int) = nextR (l.drop k) k) := by unfold Hid nextF; rw [if_neg hp]; rfl
    have hk : k ≤ l.length := by omega
    have hk1 : (k : Int) ≤ l.length := by omega
    have hk2 : (l.length : Int) ≤ cap := by omega
    have hk3 : (k : Int) ≤ cap := by omega
    have HR := Lib.hid (H.out.drop k hk)
    have hcut := run_cut (P := Tryz.prog) Tryz.underlying28 sizeByte a l.length cap k hk
    simp only [Nat.mul_one] at hcut
    generalize (if cap = k then a else a.map (·.add k)) = ak at *
    have hrl : (l.drop k).length = l.length - k := List.length_drop
    clear hp
    have q0 : ¬ (k : Int) < 0 := by omega
    have q1 : ¬ (l.length : Int) < k := by omega
    generalize nextF l (k : Int) = r at *
    generalize l.drop k = rl at *
    have hn : ((l.length - k : Nat) : Int) = (l.length : Int) - k := by omega
    have hckn : l.length - k ≤ cap - k := by omega
    have hck9 : cap - k ≤ maxLen := by omega
    rw [← hrl] at HR hcut hckn
    generalize cap - k = ck at *
    by_cases hs : rl.length < 8
    · have HG : Hid (r = ([], 0, 3)) := HN.out.trans (if_pos (by omega))
      have q2 : (rl.length : Int) < 8 := by omega
      clear HN hn hrl
      go_enter Tryz.func73, Tryz.ntmps73
      go_wp2_with fail
      go_ret3
      exact ⟨_, by rw [HG.out]; rfl, by rw [HG.out]; exact Own.nil _ _ _, Upd.refl _ _⟩
    · have HN := Lib.hid (HN.out.trans (if_neg (by omega)))
      have q2 : ¬ (rl.length : Int) < 8 := by omega
      have hNL := num4_lt rl
      have HNUM := fun (W : World) (hu : Upd [] w W) => Lib.hid (fnNumber_any _ _ _ (HR.out.upd0 hu) (by omega))
      generalize num4 rl = n at *
      by_cases hf : n = 0 ∨ 262144 < n
      · have HG : Hid (r = ([], 0, 4)) := HN.out.trans (if_pos hf)
        clear HN hn hrl
        go_enter Tryz.func73, Tryz.ntmps73
        go_wp2_with fail
        refine (HNUM _ (Upd.refl _ _)).out.mono ?_
        rintro e w1 ⟨rfl, hu1⟩
        rcases hf with rfl | hf
        · go_wp2_with fail
          go_ret3
          exact ⟨_, by rw [HG.out]; rfl, by rw [HG.out]; exact Own.nil _ _ _, hu1⟩
        · have hf2 : ((n : Int) == 0) = false := by rw [beq_eq_false_iff_ne]; omega
          have hf3 : (262144 : Int) < n := by omega
          go_wp2_with fail
          go_ret3
          exact ⟨_, by rw [HG.out]; rfl, by rw [HG.out]; exact Own.nil _ _ _, hu1⟩
      · have HN := Lib.hid (HN.out.trans (if_neg hf))
        have hf2 : ((n : Int) == 0) = false := by rw [beq_eq_false_iff_ne]; omega
        have hf3 : ¬ (262144 : Int) < n := by omega
        by_cases hb : rl.length - 8 < n
        · have HG : Hid (r = ([], 0, 3)) := HN.out.trans (if_pos hb)
          have hb2 : (rl.length : Int) - 8 < n := by omega
          clear HN hn hrl
          go_enter Tryz.func73, Tryz.ntmps73
          go_wp2_with fail
          refine (HNUM _ (Upd.refl _ _)).out.mono ?_
          rintro e w1 ⟨rfl, hu1⟩
          go_wp2_with fail
          go_ret3
          exact ⟨_, by rw [HG.out]; rfl, by rw [HG.out]; exact Own.nil _ _ _, hu1⟩
        · have HN := Lib.hid (HN.out.trans (if_neg hb))
          have hb2 : ¬ (rl.length : Int) - 8 < n := by omega
          have hc2 := fun W => run_cut_lh (P := Tryz.prog) Tryz.underlying28 sizeByte ak rl.length ck 8 (8 + n) (by omega) (by omega) W 8 (8 + (n : Int)) rfl (by omega)
          have hc3 : ∀ W, (Instr.slice 28 (.slice ak rl.length ck) none (some (.int .i64 4)) none).run Tryz.prog W = .ok (.slice ak 4 ck) W := run_cut_h (P := Tryz.prog) Tryz.underlying28 sizeByte ak rl.length ck 4 (by omega)
          have hc4 : ∀ W, (Instr.slice 28 (.slice ak rl.length ck) (some (.int .i64 4)) none none).run Tryz.prog W = .ok (.slice (if ck = 4 then ak else ak.map (·.add 4)) (rl.length - 4) (ck - 4)) W := run_cut (P := Tryz.prog) Tryz.underlying28 sizeByte ak rl.length ck 4 (by omega)
          simp only [Nat.mul_one, Nat.add_sub_cancel_left] at hc2
          have HP := Lib.hid (HR.out.sub 8 (8 + n) (by omega) (by omega))
          rw [Nat.add_sub_cancel_left] at HP
          have HT := Lib.hid (HR.out.take 4 (by omega))
          have HD := Lib.hid (HR.out.drop 4 (by omega))
          have hpl : ((rl.drop 8).take n).length = n := by rw [List.length_take, List.length_drop]; omega
          have HNUM2 := fun (W : World) (hu : Upd [] w W) => Lib.hid (fnNumber_any _ _ _ (HD.out.upd0 hu) (by rw [List.length_drop]; omega))
          generalize (if ck = 8 then ak else ak.map (·.add 8)) = a8 at *
          generalize (if ck = 4 then ak else ak.map (·.add 4)) = a4 at *
          generalize (rl.drop 8).take n = pl at *
          generalize rl.take 4 = r4 at *
          have hNL4 := num4_lt (rl.drop 4)
          generalize num4 (rl.drop 4) = m at *
          have hrb : rl.length ≤ 1000000000 := by omega
          clear hrl hn hcm hlc
          go_enter Tryz.func73, Tryz.ntmps73
          go_wp2_with fail
          refine (HNUM _ (Upd.refl _ _)).out.mono ?_
          rintro e w1 ⟨rfl, hu1⟩
          have HU1 := Lib.hid hu1
          clear hu1
          by_cases hsm : (sumOf [r4, pl]).toNat = m
          · have HG : Hid (r = (pl, ((k + 8 + n : Nat) : Int), 0)) := HN.out.trans (if_neg (fun h => h hsm))
            have hm2 : (((sumOf [r4, pl]).toNat : Int) != (m : Int)) = false := by rw [bne_eq_false_iff_eq]; omega
            clear HN hsm
            go_wp2_with fail
            go_region_held3 (fun w' => True) (trivial) (first
              | (go_at_call 110; refine (of_any _ [r4, pl] _ (Parts.drew (Parts.two _ _ r4 pl rfl rfl rfl rfl (HT.out.upd0 HU1.out) (HP.out.upd0 HU1.out)))).mono ?_; rintro e w' ⟨rfl, rfl⟩; dsimp only)
              | (go_at_call 109; refine (HNUM2 _ (by repeat (first | exact HU1.out | apply Upd.drew | apply Upd.drewN | apply Upd.alloc))).out.mono ?_; rintro e w2 ⟨rfl, hu2⟩; dsimp only))
            have HU2 := Lib.hid ((HU1.out.alloc _).drew.seq hu2)
            have HP2 := Lib.hid (HP.out.upd0 HU2.out)
            have hs2 := HU2.out.size
            clear hu2 HU1
            go_wp2_with (at_builtin; refine wpList_app bv_one rfl (.const (.slice none 0 0)) (.tmp 52) rfl Tryz.underlying28 infoByte rfl (.slice none 0 0) _ [] pl rfl rfl (Own.nil w.heap.size _ _) HP2.out (by simp; omega) (by unfold maxLen; simp; omega) hs2 ?_; intro v3 w3 ho hu hbk; rw [List.nil_append] at ho; have HU3 : Hid (Upd [] w w3) := HU2.out.trans hu (by simp) (by simp [blk]); have HO3 := Lib.hid ho; clear ho hu hbk)
            go_ret3
            exact ⟨_, by rw [HG.out]; simp only [Int.natCast_add]; rfl, by rw [HG.out]; exact HO3.out, HU3.out⟩
          · have HG : Hid (r = ([], 0, 6)) := HN.out.trans (if_pos hsm)
            have hm2 : (((sumOf [r4, pl]).toNat : Int) != (m : Int)) = true := by rw [bne_iff_ne]; omega
            clear HN hsm
            go_wp2_with fail
            go_region_held3 (fun w' => True) (trivial) (first
              | (go_at_call 110; refine (of_any _ [r4, pl] _ (Parts.drew (Parts.two _ _ r4 pl rfl rfl rfl rfl (HT.out.upd0 HU1.out) (HP.out.upd0 HU1.out)))).mono ?_; rintro e w' ⟨rfl, rfl⟩; dsimp only)
              | (go_at_call 109; refine (HNUM2 _ (by repeat (first | exact HU1.out | apply Upd.drew | apply Upd.drewN | apply Upd.alloc))).out.mono ?_; rintro e w2 ⟨rfl, hu2⟩; dsimp only))
            have HU2 := Lib.hid ((HU1.out.alloc _).drew.seq hu2)
            clear hu2 HU1
            go_wp2_with fail
            go_ret3
            exact ⟨_, by rw [HG.out]; rfl, by rw [HG.out]; exact Own.nil _ _ _, HU2.out⟩
end Go.Proofs.YtmhojaiajhdlcaaGreat
namespace Go.Proofs.YtmhojaiajhdlcaaGreat
open Go.RowKit
set_option linter.unusedSimpArgs false
set_option linter.unusedVariables false
def Fit (p : List UInt8) : Prop := 1 ≤ p.length ∧ p.length ≤ 262144
theorem frameOf_len (p : List UInt8) : (frameOf p).length = 8 + p.length := by simp [frameOf, four_len]; omega
theorem frameOf_eq (p : List UInt8) : frameOf p = four p.length ++ (four (sumOf [four p.length, p]).toNat ++ p) := rfl
/-- A frame is found. -/
theorem next_frame (p r : List UInt8) (k : Nat) (hp : Fit p) : nextR (frameOf p ++ r) k = (p, ((k + 8 + p.length : Nat) : Int), 0) := by
  obtain ⟨h1, h2⟩ := hp
  have hl : (frameOf p ++ r).length = 8 + p.length + r.length := by rw [List.length_append, frameOf_len]
  have hn : num4 (frameOf p ++ r) = p.length := by rw [frameOf_eq, List.append_assoc]; exact num4_four _ (by omega) _
  have h4 : (frameOf p ++ r).take 4 = four p.length := by rw [frameOf_eq, List.append_assoc]; exact List.take_left' (four_len _)
  have hd4 : (frameOf p ++ r).drop 4 = four (sumOf [four p.length, p]).toNat ++ (p ++ r) := by rw [frameOf_eq, List.append_assoc, List.append_assoc]; exact List.drop_left' (four_len _)
  have hd8 : (frameOf p ++ r).drop 8 = p ++ r := by
    have : (frameOf p ++ r).drop 8 = ((frameOf p ++ r).drop 4).drop 4 := by rw [List.drop_drop]
    rw [this, hd4]; exact List.drop_left' (four_len _)
  have hpr : ((frameOf p ++ r).drop 8).take p.length = p := by rw [hd8]; exact List.take_left' rfl
  have hs : num4 ((frameOf p ++ r).drop 4) = (sumOf [four p.length, p]).toNat := by rw [hd4]; exact num4_four _ (sumOf [four p.length, p]).isLt _
  unfold nextR
  rw [hn, hpr, hs, h4, hl, if_neg (by omega), if_neg (by omega), if_neg (by omega), if_neg (by simp)]
theorem num4_take (l : List UInt8) (n : Nat) (h : 4 ≤ n) : num4 (l.take n) = num4 l := by
  unfold num4; rw [nth_take _ _ _ (by omega), nth_take _ _ _ (by omega), nth_take _ _ _ (by omega), nth_take _ _ _ (by omega)]
/-- A frame that is cut off is not found. -/
theorem next_cut (p : List UInt8) (m k : Nat) (hp : Fit p) (hm : m < 8 + p.length) : (nextR ((frameOf p).take m) k).2.2 ≠ 0 := by
  obtain ⟨h1, h2⟩ := hp
  have hl : ((frameOf p).take m).length = m := by rw [List.length_take, frameOf_len]; omega
  unfold nextR
  rw [hl]
  by_cases h8 : m < 8
  · rw [if_pos h8]; simp
  · have hn : num4 ((frameOf p).take m) = p.length := by
      rw [num4_take _ _ (by omega)]
      have := num4_four p.length (by omega) (four (sumOf [four p.length, p]).toNat ++ p)
      rwa [← frameOf_eq] at this
    rw [if_neg h8, hn, if_neg (by omega), if_pos (by omega)]; simp
theorem next_nil (k : Nat) : (nextR [] k).2.2 ≠ 0 := by unfold nextR; simp
theorem nextF_at (b : List UInt8) (k : Nat) (h : k ≤ b.length) : nextF b (k : Int) = nextR (b.drop k) k := by
  unfold nextF; rw [if_neg (by omega)]; rfl
def framesOf (L : List (List UInt8)) : List UInt8 := L.flatMap frameOf
def endAt (L : List (List UInt8)) (i : Nat) : Nat := (framesOf (L.take i)).length
theorem framesOf_snoc (L : List (List UInt8)) (p : List UInt8) : framesOf (L ++ [p]) = framesOf L ++ frameOf p := by simp [framesOf]
theorem endAt_all (L : List (List UInt8)) (i : Nat) (h : L.length ≤ i) : endAt L i = (framesOf L).length := by unfold endAt; rw [List.take_of_length_le h]
theorem framesOf_ge (L : List (List UInt8)) : L.length ≤ (framesOf L).length := by
  induction L with
  | nil => simp [framesOf]
  | cons p L ih => simp only [framesOf, List.flatMap_cons, List.length_append, frameOf_len, List.length_cons] at ih ⊢; omega

theorem putF_fit (b p : List UInt8) (h : Fit p) : putF b p = b ++ frameOf p := if_neg (by have := h.1; have := h.2; omega)
theorem putF_no (b p : List UInt8) (h : ¬ Fit p) : putF b p = b := if_pos (by unfold Fit at h; omega)
end Go.Proofs.YtmhojaiajhdlcaaGreat
namespace Go.Proofs.YtmhojaiajhdlcaaGreat
open Go.RowKit
set_option linter.unusedSimpArgs false
set_option linter.unusedVariables false
/-- The names of a raw write. -/
def WrNm (x : Wr) : Prop := nameOk x.nm = true ∧ (x.kd = 3 → nameOk x.tn = true)
def FsNm (fs : DF) : Prop := ∀ p ∈ fs, nameOk p.1 = true
theorem FsNm.set_ {fs : DF} (h : FsNm fs) (k : ByteArray) (v : List UInt8) (hk : nameOk k = true) : FsNm (tSet strLt fs k v) := by
  intro p hp
  unfold tSet at hp
  rcases List.mem_append.1 hp with q | q
  · exact h p (List.mem_of_mem_take q)
  · rcases List.mem_cons.1 q with rfl | q
    · exact hk
    · exact h p (List.mem_of_mem_drop q)
theorem FsNm.del {fs : DF} (h : FsNm fs) (k : ByteArray) : FsNm (tDel strLt fs k) := by
  intro p hp
  unfold tDel at hp
  split at hp
  · rcases List.mem_append.1 hp with q | q
    · exact h p (List.mem_of_mem_take q)
    · exact h p (List.mem_of_mem_drop q)
  · exact h p hp
theorem FsNm.has {fs : DF} (h : FsNm fs) {k : ByteArray} (hin : inD fs k = true) : nameOk k = true := by
  obtain ⟨h1, h2⟩ := in_at hin
  rw [← h2]
  exact h _ (by rw [nth_get _ _ h1]; exact List.getElem_mem _)
theorem FsNm.apply {fs : DF} (h : FsNm fs) {x : Wr} (hx : WrNm x) : FsNm (wApply x fs) := by
  unfold wApply
  split
  · exact h.set_ _ _ hx.1
  split
  · exact h.set_ _ _ hx.1
  split
  · rename_i h3
    split
    · exact (h.del _).set_ _ _ (hx.2 h3)
    · exact h
  split
  · exact h.set_ _ _ hx.1
  split
  · exact h.del _
  · exact h
theorem FsNm.all : ∀ {l : List Wr} {fs : DF}, FsNm fs → (∀ x ∈ l, WrNm x) → FsNm (wAll fs l)
  | [], fs, h, _ => h
  | x :: l, fs, h, hl => FsNm.all (fs := wApply x fs) (h.apply (hl x (by simp))) (fun y hy => hl y (by simp [hy]))
theorem aApply_len (x : Wr) (fs : DF) : (wApply x fs).length ≤ fs.length + 1 := (grows_do x ⟨fs, [], []⟩ 0).now
theorem aAll_len : ∀ (l : List Wr) (fs : DF), (wAll fs l).length ≤ fs.length + l.length
  | [], fs => by simp [wAll]
  | x :: l, fs => by
    have h1 := aAll_len l (wApply x fs)
    have h2 := aApply_len x fs
    have h3 : wAll fs (x :: l) = wAll (wApply x fs) l := rfl
    rw [h3, List.length_cons]; omega
/-- Behind k calls. -/
structure Any (k : Nat) (s : DS) : Prop where
  ok : DOk s
  sum : s.mark.length + s.log.length ≤ 18 * k
  mnm : FsNm s.mark
  lnm : ∀ x ∈ s.log, WrNm x
theorem Any.zero : Any 0 ⟨[], [], []⟩ := ⟨DOk.zero, by simp, fun p h => by simp at h, fun p h => by simp at h⟩
theorem Any.nnm {k : Nat} {s : DS} (h : Any k s) : FsNm s.now := by rw [h.ok.eq]; exact h.mnm.all h.lnm
theorem Any.nlen {k : Nat} {s : DS} (h : Any k s) : s.now.length ≤ 18 * k := by
  have := aAll_len s.log s.mark
  rw [← h.ok.eq] at this
  have := h.sum; omega
theorem Any.up {k : Nat} {s : DS} (h : Any k s) : Any (k + 1) s := ⟨h.ok, by have := h.sum; omega, h.mnm, h.lnm⟩
theorem Any.do_ {k : Nat} {s : DS} (h : Any k s) {x : Wr} (hx : WrOk x s.now) (hn : WrNm x) : Any (k + 1) (dDo x s) :=
  ⟨h.ok.do_ hx, by have := h.sum; unfold dDo; simp; omega, h.mnm, fun y hy => by
    rcases List.mem_append.1 hy with q | q
    · exact h.lnm y q
    · simp at q; subst q; exact hn⟩
theorem dPut_log (nm : ByteArray) : ∀ (l : List (List UInt8)) (s : DS), (dPut nm s l).log = s.log ++ l.map (wPut nm)
  | [], s => by simp [dPut]
  | c :: l, s => by
    have h : dPut nm s (c :: l) = dPut nm (dDo (wPut nm c) s) l := rfl
    rw [h, dPut_log nm l]; unfold dDo; simp
theorem dPut_mark (nm : ByteArray) : ∀ (l : List (List UInt8)) (s : DS), (dPut nm s l).mark = s.mark
  | [], s => rfl
  | c :: l, s => by
    have h : dPut nm s (c :: l) = dPut nm (dDo (wPut nm c) s) l := rfl
    rw [h, dPut_mark nm l]; rfl
theorem puts_nm {nm : ByteArray} (h : nameOk nm = true) (l : List (List UInt8)) : ∀ x ∈ l.map (wPut nm), WrNm x := by
  intro x hx
  obtain ⟨c, _, rfl⟩ := List.mem_map.1 hx
  exact ⟨h, fun q => absurd q (show ¬ (2 : Int) = 3 by decide)⟩
theorem Any.append {k : Nat} {s : DS} (h : Any k s) (nm : ByteArray) (p : List UInt8) (hp : p.length ≤ 500) (hk : k ≤ 100) : Any (k + 1) (dAppend s nm p).2 := by
  have hl := h.nlen
  have hok := h.ok.append nm p (by omega)
  have hcl := chunks_len p
  have hs := h.sum
  revert hok
  unfold dAppend
  cases hn : nameOk nm with
  | false => intro _; exact h.up
  | true =>
    rw [if_pos rfl]
    split
    · intro _; exact h.up
    · cases hin : inD s.now nm with
      | true =>
        rw [if_pos rfl]
        intro hok
        refine ⟨hok, ?_, by dsimp only; rw [dPut_mark]; exact h.mnm, ?_⟩
        · dsimp only; rw [dPut_mark, dPut_log, List.length_append, List.length_map]; omega
        · intro x hx
          dsimp only at hx
          rw [dPut_log] at hx
          rcases List.mem_append.1 hx with q | q
          · exact h.lnm x q
          · exact puts_nm hn _ x q
      | false =>
        rw [if_neg (by simp)]
        intro hok
        refine ⟨hok, ?_, by dsimp only; rw [dPut_mark]; exact h.mnm, ?_⟩
        · dsimp only; rw [dPut_mark, dPut_log, List.length_append, List.length_map]; unfold dDo; dsimp only; rw [List.length_append]; simp; omega
        · intro x hx
          dsimp only at hx
          rw [dPut_log] at hx
          rcases List.mem_append.1 hx with q | q
          · rcases List.mem_append.1 (show x ∈ s.log ++ [wMake nm] from q) with q | q
            · exact h.lnm x q
            · simp at q; subst q; exact ⟨hn, fun q => absurd q (show ¬ (1 : Int) = 3 by decide)⟩
          · exact puts_nm hn _ x q
theorem Any.rename {k : Nat} {s : DS} (h : Any k s) (nm tn : ByteArray) (hk : k ≤ 100) : Any (k + 1) (dRename s nm tn).2 := by
  have hl := h.nlen
  unfold dRename
  cases hn : nameOk tn with
  | false => exact h.up
  | true =>
    cases hin : inD s.now nm with
    | false => exact h.up
    | true => exact h.do_ (h.ok.ren nm tn hin (by omega)).1 ⟨h.nnm.has hin, fun _ => hn⟩
theorem Any.cut {k : Nat} {s : DS} (h : Any k s) (nm : ByteArray) (n : Int) (hk : k ≤ 100) : Any (k + 1) (dCut s nm n).2 := by
  have hl := h.nlen
  unfold dCut
  cases hin : inD s.now nm with
  | false => exact h.up
  | true =>
    rw [if_pos rfl]
    split
    · exact h.up
    · rename_i hb
      exact h.do_ (h.ok.cut nm n hin (by omega) (by omega) (by omega)).1 ⟨h.nnm.has hin, fun q => absurd q (show ¬ (4 : Int) = 3 by decide)⟩
theorem Any.remove {k : Nat} {s : DS} (h : Any k s) (nm : ByteArray) (hk : k ≤ 100) : Any (k + 1) (dRemove s nm).2 := by
  have hl := h.nlen
  unfold dRemove
  cases hin : inD s.now nm with
  | false => exact h.up
  | true => exact h.do_ (h.ok.rem nm hin (by omega)).1 ⟨h.nnm.has hin, fun q => absurd q (show ¬ (5 : Int) = 3 by decide)⟩
theorem Any.mark {k : Nat} {s : DS} (h : Any k s) : Any (k + 1) (dMark s) :=
  ⟨h.ok.mark, by have := h.nlen; show s.now.length + 0 ≤ _; omega, h.nnm, fun x hx => by simp [dMark] at hx⟩
theorem Any.back {k : Nat} {s : DS} (h : Any k s) (n : Int) : Any (k + 1) (dBack s n) := by
  refine ⟨h.ok.back n, ?_, h.mnm.all fun x hx => h.lnm x (List.mem_of_mem_take hx), fun x hx => by simp [dBack] at hx⟩
  have h1 := aAll_len (s.log.take n.toNat) s.mark
  have h2 := h.sum
  rw [List.length_take] at h1
  show (wAll s.mark (s.log.take n.toNat)).length + 0 ≤ _
  omega
theorem Any.no {k : Nat} {s : DS} (h : Any k s) (nm : ByteArray) (hn : nameOk nm = false) : inD s.now nm = false := by
  cases hin : inD s.now nm with
  | false => rfl
  | true => rw [h.nnm.has hin] at hn; exact absurd hn (by simp)
end Go.Proofs.YtmhojaiajhdlcaaGreat
namespace Go.Proofs.YtmhojaiajhdlcaaGreat
open Go.RowKit
set_option linter.unusedSimpArgs false
set_option linter.unusedVariables false
theorem chunks_flat (p : List UInt8) : ∀ k, ((chunks p).take k).flatten = p.take (32 * k)
  | 0 => by simp
  | k + 1 => by
    have hl := chunks_len p
    rcases Nat.lt_or_ge k (chunks p).length with h | h
    · rw [take_succ_nth _ k h, List.flatten_append, chunks_flat p k, chunks_nth p k h]
      rw [show 32 * (k + 1) = 32 * k + 32 by omega, List.take_add]
      simp
    · rw [List.take_of_length_le (by omega), ← List.take_of_length_le h, chunks_flat p k, List.take_of_length_le (by omega), List.take_of_length_le (by omega)]
theorem chunks_all (p : List UInt8) : (chunks p).flatten = p := by
  have h := chunks_flat p (chunks p).length
  have hl := chunks_len p
  rw [List.take_length, List.take_of_length_le (by omega)] at h
  exact h
section
variable (nm : ByteArray)
theorem below_one {ν : Type} (x : ν) : below strLt [(nm, x)] nm = 0 := by unfold below; rw [List.takeWhile_cons, strOrd.irr nm]; rfl
theorem isIn_one {ν : Type} [Inhabited ν] (x : ν) : isIn strLt [(nm, x)] nm = true := by unfold isIn; rw [below_one]; exact decide_eq_true ⟨by simp, rfl⟩
theorem get_one (b : List UInt8) : dGet [(nm, b)] nm = (b, true) := by rw [dGet_yes (isIn_one nm b), below_one]; rfl
theorem set_one (b c : List UInt8) : tSet strLt [(nm, b)] nm c = [(nm, c)] := by unfold tSet; rw [isIn_one, below_one]; rfl
theorem set_none (c : List UInt8) : tSet strLt ([] : DF) nm c = [(nm, c)] := rfl
theorem put_one (mk : DF) : ∀ (l : List (List UInt8)) (b : List UInt8) (lg : List Wr), dPut nm ⟨[(nm, b)], mk, lg⟩ l = ⟨[(nm, b ++ l.flatten)], mk, lg ++ l.map (wPut nm)⟩
  | [], b, lg => by simp [dPut]
  | c :: l, b, lg => by
    have h1 : dPut nm ⟨[(nm, b)], mk, lg⟩ (c :: l) = dPut nm (dDo (wPut nm c) ⟨[(nm, b)], mk, lg⟩) l := rfl
    have h2 : dDo (wPut nm c) ⟨[(nm, b)], mk, lg⟩ = ⟨[(nm, b ++ c)], mk, lg ++ [wPut nm c]⟩ := by
      unfold dDo
      have : wApply (wPut nm c) [(nm, b)] = tSet strLt [(nm, b)] nm ((dGet [(nm, b)] nm).1 ++ c) := rfl
      rw [this, get_one, set_one]
    rw [h1, h2, put_one mk l (b ++ c) (lg ++ [wPut nm c])]
    simp
theorem wAll_puts : ∀ (l : List (List UInt8)) (b : List UInt8), wAll [(nm, b)] (l.map (wPut nm)) = [(nm, b ++ l.flatten)]
  | [], b => by simp [wAll]
  | c :: l, b => by
    have h1 : wAll [(nm, b)] ((c :: l).map (wPut nm)) = wAll (wApply (wPut nm c) [(nm, b)]) (l.map (wPut nm)) := rfl
    have h2 : wApply (wPut nm c) [(nm, b)] = [(nm, b ++ c)] := by
      have : wApply (wPut nm c) [(nm, b)] = tSet strLt [(nm, b)] nm ((dGet [(nm, b)] nm).1 ++ c) := rfl
      rw [this, get_one, set_one]
    rw [h1, h2, wAll_puts l (b ++ c)]
    simp
theorem append_one (p : List UInt8) (hok : nameOk nm = true) (hp : p.length ≤ 16777216) : dAppend ⟨[], [], []⟩ nm p = (0, ⟨[(nm, p)], [], wMake nm :: (chunks p).map (wPut nm)⟩) := by
  unfold dAppend
  have h0 : dTotal [] = 0 := rfl
  rw [hok, if_pos rfl, if_neg (by show ¬ 16777216 < dTotal [] + p.length; omega)]
  have h1 : (if inD (⟨[], [], []⟩ : DS).now nm = true then (⟨[], [], []⟩ : DS) else dDo (wMake nm) ⟨[], [], []⟩) = ⟨[(nm, [])], [], [wMake nm]⟩ := rfl
  rw [h1, put_one, List.nil_append, chunks_all]; rfl
theorem back_one (p : List UInt8) (n : Int) : dGet (dBackF ⟨[(nm, p)], [], wMake nm :: (chunks p).map (wPut nm)⟩ n) nm = (p.take (32 * (n.toNat - 1)), decide (n.toNat ≠ 0)) := by
  unfold dBackF
  dsimp only
  cases hn : n.toNat with
  | zero => rfl
  | succ m =>
    rw [List.take_succ_cons]
    have h1 : wAll [] (wMake nm :: ((chunks p).map (wPut nm)).take m) = wAll [(nm, [])] (((chunks p).map (wPut nm)).take m) := rfl
    rw [h1, ← List.map_take, wAll_puts, List.nil_append, chunks_flat, get_one]
    simp
end
end Go.Proofs.YtmhojaiajhdlcaaGreat
namespace Go.Proofs.YtmhojaiajhdlcaaGreat
open Go.RowKit
set_option linter.unusedSimpArgs false
set_option linter.unusedVariables false
abbrev nmL : ByteArray := ⟨#[108, 101, 100, 103, 101, 114]⟩
theorem nmL_ok : nameOk nmL = true := by unfold nameOk; decide
def nxt (b : List UInt8) (at_ : Nat) (rl : List Rec) : Option (Rec × Nat) :=
  if (nextF b at_).2.2 = 0 ∧ (getRec (nextF b at_).1).2 = true ∧ hasK rl (getRec (nextF b at_).1).1.key = false then some ((getRec (nextF b at_).1).1, (nextF b at_).2.1.toNat) else none
def scanL (b : List UInt8) : Nat → Nat → List Rec → List Rec × Nat
  | 0, at_, rl => (rl, at_)
  | f + 1, at_, rl => match nxt b at_ rl with
    | some q => scanL b f q.2 (rl ++ [q.1])
    | none => (rl, at_)
def lScan (b : List UInt8) : List Rec × Nat := scanL b (b.length + 1) 0 []
def lOpen (s : DS) : List Rec × DS :=
  ((lScan (dGet s.now nmL).1).1, if (lScan (dGet s.now nmL).1).2 < (dGet s.now nmL).1.length then (dCut s nmL (lScan (dGet s.now nmL).1).2).2 else s)
def lAdd (rl : List Rec) (s : DS) (r : Rec) : (Bool × Int) × List Rec × DS :=
  if recOk r then
    if hasK rl r.key then ((false, 0), rl, s)
    else if (dAppend s nmL (frameOf (encRec r))).1 = 0 then ((true, 0), rl ++ [r], (dAppend s nmL (frameOf (encRec r))).2)
    else ((false, (dAppend s nmL (frameOf (encRec r))).1), rl, (dAppend s nmL (frameOf (encRec r))).2)
  else ((false, 1), rl, s)
theorem nextF_to (b : List UInt8) (k : Nat) (hk : k ≤ b.length) (he : (nextF b (k : Int)).2.2 = 0) :
    ∃ n, 1 ≤ n ∧ n ≤ 262144 ∧ k + 8 + n ≤ b.length ∧ (nextF b (k : Int)).2.1 = ((k + 8 + n : Nat) : Int) ∧ (nextF b (k : Int)).1.length = n := by
  rw [nextF_at b k hk] at he ⊢
  have hl : (b.drop k).length = b.length - k := List.length_drop
  unfold nextR at he ⊢
  split at he
  · exact absurd he (by simp)
  · rename_i h1
    split at he
    · exact absurd he (by simp)
    · rename_i h2
      split at he
      · exact absurd he (by simp)
      · rename_i h3
        split at he
        · exact absurd he (by simp)
        · rename_i h4
          rw [if_neg h1, if_neg h2, if_neg h3, if_neg h4]
          refine ⟨num4 (b.drop k), by omega, by omega, by omega, rfl, ?_⟩
          dsimp only
          rw [List.length_take, List.length_drop]; omega
theorem fit_rec {r : Rec} (h : recOk r = true) : Fit (encRec r) := by have := encRec_len h; exact ⟨by omega, by omega⟩
/-- The file of records. -/
def Fr (rl : List Rec) : List UInt8 := framesOf (rl.map encRec)
theorem Fr_nil : Fr [] = [] := rfl
theorem Fr_snoc (rl : List Rec) (r : Rec) : Fr (rl ++ [r]) = Fr rl ++ frameOf (encRec r) := by unfold Fr; rw [List.map_append]; exact framesOf_snoc _ _
theorem Fr_app (a b : List Rec) : Fr (a ++ b) = Fr a ++ Fr b := by unfold Fr framesOf; rw [List.map_append, List.flatMap_append]
theorem Fr_cons (r : Rec) (b : List Rec) : Fr (r :: b) = frameOf (encRec r) ++ Fr b := by simp [Fr, framesOf]
def Ee (all : List Rec) (m : Nat) : Nat := (Fr (all.take m)).length
theorem Ee_zero (all : List Rec) : Ee all 0 = 0 := by simp [Ee, Fr, framesOf]
theorem Ee_succ (all : List Rec) (m : Nat) (h : m < all.length) : Ee all (m + 1) = Ee all m + (frameOf (encRec (nth all m))).length := by
  unfold Ee
  rw [List.take_add_one, List.getElem?_eq_getElem h, ← nth_get all m h]
  show (Fr (all.take m ++ [nth all m])).length = _
  rw [Fr_snoc, List.length_append]
theorem Ee_all (all : List Rec) (m : Nat) (h : all.length ≤ m) : Ee all m = (Fr all).length := by unfold Ee; rw [List.take_of_length_le h]
theorem Ee_mono (all : List Rec) {m n : Nat} (h : m ≤ n) : Ee all m ≤ Ee all n := by
  unfold Ee
  have : all.take n = all.take m ++ (all.take n).drop m := by
    have := List.take_append_drop m (all.take n)
    rw [List.take_take, Nat.min_eq_left h] at this; exact this.symm
  rw [this, Fr_app, List.length_append]; omega
theorem Ee_lt (all : List Rec) {m n : Nat} (h : m < n) (hn : n ≤ all.length) : Ee all m < Ee all n := by
  have h1 := Ee_succ all m (by omega)
  have h2 := Ee_mono all (show m + 1 ≤ n by omega)
  rw [frameOf_len] at h1; omega
theorem Fr_drop (all : List Rec) (m : Nat) : (Fr all).drop (Ee all m) = Fr (all.drop m) := by
  have h : Fr all = Fr (all.take m) ++ Fr (all.drop m) := by rw [← Fr_app, List.take_append_drop]
  unfold Ee
  rw [h]
  exact List.drop_left
theorem Fr_take (all : List Rec) (m : Nat) : (Fr all).take (Ee all m) = Fr (all.take m) := by
  have h : Fr all = Fr (all.take m) ++ Fr (all.drop m) := by rw [← Fr_app, List.take_append_drop]
  unfold Ee
  rw [h]
  exact List.take_left
/-- Records whose keys all differ. -/
def Uniq (all : List Rec) : Prop := ∀ i j, i < j → j < all.length → (nth all i).key ≠ (nth all j).key
theorem hasK_iff (rl : List Rec) (k : Key) : hasK rl k = true ↔ ∃ j, j < rl.length ∧ (nth rl j).key = k := by
  unfold hasK
  rw [List.any_eq_true]
  constructor
  · rintro ⟨x, hx, h⟩
    obtain ⟨j, hj, rfl⟩ := List.mem_iff_getElem.1 hx
    exact ⟨j, hj, by rw [nth_get _ _ hj]; exact of_decide_eq_true h⟩
  · rintro ⟨j, hj, h⟩
    exact ⟨nth rl j, nth_in j hj, decide_eq_true h⟩
theorem Uniq.no {all : List Rec} (h : Uniq all) (m : Nat) (hm : m < all.length) : hasK (all.take m) (nth all m).key = false := by
  cases hb : hasK (all.take m) (nth all m).key with
  | false => rfl
  | true =>
    obtain ⟨j, hj, he⟩ := (hasK_iff _ _).1 hb
    rw [List.length_take] at hj
    rw [nth_take _ _ _ (by omega)] at he
    exact absurd he (h j m (by omega) hm)
theorem Uniq.yes {all : List Rec} (m i : Nat) (hi : i < m) (hm : m ≤ all.length) : hasK (all.take m) (nth all i).key = true :=
  (hasK_iff _ _).2 ⟨i, by rw [List.length_take]; omega, by rw [nth_take _ _ _ hi]⟩
theorem Uniq.nil : Uniq [] := fun i j _ h => by simp at h
theorem Uniq.snoc {rl : List Rec} (h : Uniq rl) (r : Rec) (hr : hasK rl r.key = false) : Uniq (rl ++ [r]) := fun i j hij hj => by
  rw [List.length_append, List.length_singleton] at hj
  by_cases hl : j < rl.length
  · rw [nth_append_left _ _ _ (by omega), nth_append_left _ _ _ hl]; exact h i j hij hl
  · rw [nth_append_left _ _ _ (by omega), nth_append_right _ _ j (by omega), show j - rl.length = 0 by omega, nth_cons_zero]
    intro e
    have := (hasK_iff rl r.key).2 ⟨i, by omega, e⟩
    rw [hr] at this; exact absurd this (by simp)
/-- A file that is a beginning of the records' file is read up to its last whole frame. -/
theorem scan_take (all : List Rec) (hok : ∀ r ∈ all, recOk r = true) (hu : Uniq all) (n : Nat) (hn : n ≤ (Fr all).length) : ∀ (d m f : Nat), all.length - m = d → m ≤ all.length → Ee all m ≤ n → d < f →
    ∃ M, m ≤ M ∧ M ≤ all.length ∧ Ee all M ≤ n ∧ (M < all.length → n < Ee all (M + 1)) ∧ scanL ((Fr all).take n) f (Ee all m) (all.take m) = (all.take M, Ee all M) := by
  intro d
  induction d with
  | zero =>
    intro m f hd hm hE hf
    obtain ⟨f, rfl⟩ : ∃ g, f = g + 1 := ⟨f - 1, by omega⟩
    refine ⟨m, Nat.le_refl _, hm, hE, fun h => by omega, ?_⟩
    have hE2 := Ee_all all m (by omega)
    have hlen : ((Fr all).take n).length = n := by rw [List.length_take]; omega
    have hx : nxt ((Fr all).take n) (Ee all m) (all.take m) = none := by
      unfold nxt
      rw [if_neg]
      rintro ⟨h1, -⟩
      rw [nextF_at _ _ (by omega)] at h1
      have : ((Fr all).take n).drop (Ee all m) = [] := List.drop_of_length_le (by omega)
      rw [this] at h1
      exact next_nil _ h1
    show (match nxt ((Fr all).take n) (Ee all m) (all.take m) with | some q => scanL ((Fr all).take n) f q.2 (all.take m ++ [q.1]) | none => (all.take m, Ee all m)) = _
    rw [hx]
  | succ d ih =>
    intro m f hd hm hE hf
    obtain ⟨f, rfl⟩ : ∃ g, f = g + 1 := ⟨f - 1, by omega⟩
    have hml : m < all.length := by omega
    have hlen : ((Fr all).take n).length = n := by rw [List.length_take]; omega
    have hmem : nth all m ∈ all := nth_in m hml
    have hfit := fit_rec (hok _ hmem)
    have hs := Ee_succ all m hml
    have hdrop : ((Fr all).take n).drop (Ee all m) = (frameOf (encRec (nth all m)) ++ Fr (all.drop (m + 1))).take (n - Ee all m) := by
      rw [List.drop_take, Fr_drop, List.drop_eq_getElem_cons hml, Fr_cons, nth_get all m hml]
    have hgo : ∀ x, scanL ((Fr all).take n) (f + 1) (Ee all m) (all.take m) = x ↔ (match nxt ((Fr all).take n) (Ee all m) (all.take m) with | some q => scanL ((Fr all).take n) f q.2 (all.take m ++ [q.1]) | none => (all.take m, Ee all m)) = x := fun x => Iff.rfl
    by_cases hw : Ee all (m + 1) ≤ n
    · have hfr : ((Fr all).take n).drop (Ee all m) = frameOf (encRec (nth all m)) ++ (Fr (all.drop (m + 1))).take (n - Ee all m - (frameOf (encRec (nth all m))).length) := by
        rw [hdrop, List.take_append, List.take_of_length_le (by omega)]
      have hnx : nxt ((Fr all).take n) (Ee all m) (all.take m) = some (nth all m, Ee all (m + 1)) := by
        unfold nxt
        rw [nextF_at _ _ (by omega), hfr, next_frame _ _ _ hfit]
        dsimp only
        rw [get_enc (hok _ hmem), if_pos ⟨rfl, rfl, hu.no m hml⟩, hs, frameOf_len]
        simp; omega
      obtain ⟨M, h1, h2, h3, h4, h5⟩ := ih (m + 1) f (by omega) (by omega) hw (by omega)
      refine ⟨M, by omega, h2, h3, h4, ?_⟩
      rw [hgo, hnx]
      dsimp only
      have ht : all.take m ++ [nth all m] = all.take (m + 1) := by rw [List.take_add_one, List.getElem?_eq_getElem hml, ← nth_get all m hml]; rfl
      rw [ht]; exact h5
    · refine ⟨m, Nat.le_refl _, hm, hE, fun _ => by omega, ?_⟩
      have hfr : ((Fr all).take n).drop (Ee all m) = (frameOf (encRec (nth all m))).take (n - Ee all m) := by
        rw [hdrop, List.take_append_of_le_length (by omega)]
      have hnx : nxt ((Fr all).take n) (Ee all m) (all.take m) = none := by
        unfold nxt
        rw [if_neg]
        rintro ⟨h1, -⟩
        rw [nextF_at _ _ (by omega), hfr] at h1
        rw [frameOf_len] at hs
        exact next_cut _ _ _ hfit (by omega) h1
      rw [hgo, hnx]
theorem Fr_ge (all : List Rec) : all.length ≤ (Fr all).length := by have := framesOf_ge (all.map encRec); simpa [Fr] using this
theorem lScan_take (all : List Rec) (hok : ∀ r ∈ all, recOk r = true) (hu : Uniq all) (n : Nat) (hn : n ≤ (Fr all).length) (m0 : Nat) (hm0 : m0 ≤ all.length) (h0 : Ee all m0 ≤ n) :
    ∃ M, m0 ≤ M ∧ M ≤ all.length ∧ Ee all M ≤ n ∧ lScan ((Fr all).take n) = (all.take M, Ee all M) := by
  have hlen : ((Fr all).take n).length = n := by rw [List.length_take]; omega
  have hE0 := Ee_zero all
  -- as many whole frames as fit: never more rounds than bytes
  have hfuel : ∀ (f : Nat), n < f → ∃ M, M ≤ all.length ∧ Ee all M ≤ n ∧ (M < all.length → n < Ee all (M + 1)) ∧ scanL ((Fr all).take n) f 0 [] = (all.take M, Ee all M) := by
    intro f hf
    -- the records that fit number no more than n: cut the list there
    have key : ∀ (d m f : Nat), n - Ee all m ≤ d → m ≤ all.length → Ee all m ≤ n → n - Ee all m < f → ∃ M, M ≤ all.length ∧ Ee all M ≤ n ∧ (M < all.length → n < Ee all (M + 1)) ∧ scanL ((Fr all).take n) f (Ee all m) (all.take m) = (all.take M, Ee all M) := by
      intro d
      induction d with
      | zero =>
        intro m f hd hm hE hf
        by_cases hml : m < all.length
        · have hlt := Ee_lt all (show m < m + 1 by omega) (by omega)
          obtain ⟨f, rfl⟩ : ∃ g, f = g + 1 := ⟨f - 1, by omega⟩
          refine ⟨m, hm, hE, fun _ => by omega, ?_⟩
          have hnx : nxt ((Fr all).take n) (Ee all m) (all.take m) = none := by
            unfold nxt
            rw [if_neg]
            rintro ⟨h1, -⟩
            rw [nextF_at _ _ (by omega), List.drop_of_length_le (by omega)] at h1
            exact next_nil _ h1
          show (match nxt ((Fr all).take n) (Ee all m) (all.take m) with | some q => scanL ((Fr all).take n) f q.2 (all.take m ++ [q.1]) | none => (all.take m, Ee all m)) = _
          rw [hnx]
        · obtain ⟨M, h1, h2, h3, h4, h5⟩ := scan_take all hok hu n hn _ m f rfl hm hE (by omega)
          exact ⟨M, h2, h3, h4, h5⟩
      | succ d ih =>
        intro m f hd hm hE hf
        by_cases hml : m < all.length
        · have hlt := Ee_lt all (show m < m + 1 by omega) (by omega)
          by_cases hw : Ee all (m + 1) ≤ n
          · obtain ⟨f, rfl⟩ : ∃ g, f = g + 1 := ⟨f - 1, by omega⟩
            obtain ⟨M, h1, h2, h3, h4⟩ := ih (m + 1) f (by omega) (by omega) hw (by omega)
            refine ⟨M, h1, h2, h3, ?_⟩
            have hmem : nth all m ∈ all := nth_in m hml
            have hs := Ee_succ all m hml
            have hfr : ((Fr all).take n).drop (Ee all m) = frameOf (encRec (nth all m)) ++ (Fr (all.drop (m + 1))).take (n - Ee all m - (frameOf (encRec (nth all m))).length) := by
              rw [List.drop_take, Fr_drop, List.drop_eq_getElem_cons hml, Fr_cons, ← nth_get all m hml, List.take_append, List.take_of_length_le (by omega)]
            have hnx : nxt ((Fr all).take n) (Ee all m) (all.take m) = some (nth all m, Ee all (m + 1)) := by
              unfold nxt
              rw [nextF_at _ _ (by omega), hfr, next_frame _ _ _ (fit_rec (hok _ hmem))]
              dsimp only
              rw [get_enc (hok _ hmem), if_pos ⟨rfl, rfl, hu.no m hml⟩, hs, frameOf_len]
              simp; omega
            show (match nxt ((Fr all).take n) (Ee all m) (all.take m) with | some q => scanL ((Fr all).take n) f q.2 (all.take m ++ [q.1]) | none => (all.take m, Ee all m)) = _
            rw [hnx]
            dsimp only
            have ht : all.take m ++ [nth all m] = all.take (m + 1) := by rw [List.take_add_one, List.getElem?_eq_getElem hml, ← nth_get all m hml]; rfl
            rw [ht]; exact h4
          · obtain ⟨f, rfl⟩ : ∃ g, f = g + 1 := ⟨f - 1, by omega⟩
            have hmem : nth all m ∈ all := nth_in m hml
            have hs := Ee_succ all m hml
            refine ⟨m, hm, hE, fun _ => by omega, ?_⟩
            have hnx : nxt ((Fr all).take n) (Ee all m) (all.take m) = none := by
              unfold nxt
              rw [if_neg]
              rintro ⟨h1, -⟩
              rw [nextF_at _ _ (by omega), List.drop_take, Fr_drop, List.drop_eq_getElem_cons hml, Fr_cons, ← nth_get all m hml, List.take_append_of_le_length (by omega)] at h1
              rw [frameOf_len] at hs
              exact next_cut _ _ _ (fit_rec (hok _ hmem)) (by omega) h1
            show (match nxt ((Fr all).take n) (Ee all m) (all.take m) with | some q => scanL ((Fr all).take n) f q.2 (all.take m ++ [q.1]) | none => (all.take m, Ee all m)) = _
            rw [hnx]
        · obtain ⟨M, h1, h2, h3, h4, h5⟩ := scan_take all hok hu n hn _ m f rfl hm hE (by omega)
          exact ⟨M, h2, h3, h4, h5⟩
    have := key (n - Ee all 0) 0 f (Nat.le_refl _) (Nat.zero_le _) (by omega) (by omega)
    rw [hE0, List.take_zero] at this
    exact this
  obtain ⟨M, h1, h2, h3, h4⟩ := hfuel (n + 1) (by omega)
  refine ⟨M, ?_, h1, h2, by unfold lScan; rw [hlen]; exact h4⟩
  rcases Nat.lt_or_ge M m0 with q | q
  · have := h3 (by omega)
    have := Ee_mono all (show M + 1 ≤ m0 by omega)
    omega
  · exact q
end Go.Proofs.YtmhojaiajhdlcaaGreat
namespace Go.Proofs.YtmhojaiajhdlcaaGreat
open Go.RowKit
set_option linter.unusedSimpArgs false
set_option linter.unusedVariables false
set_option linter.unusedSectionVars false
abbrev LW := Wr × Sl
abbrev lwCells (x : LW) : List Value := [.int .i64 x.1.kd, sv x.1.nm, sv x.1.tn, slv x.2, .int .i64 x.1.n]
theorem lwCells_len : ∀ x, (lwCells x).length = 5 := fun _ => rfl
theorem lwCells_one : ∀ x, ∀ u ∈ lwCells x, u.oneCell' = true := by intro x u hu; simp [lwCells] at hu; rcases hu with rfl | rfl | rfl | rfl | rfl <;> rfl
theorem infoLW : (Tryz.prog.info? 115).map (fun i => (i.zero, i.size, i.bytes)) = some (some (.agg #[.int .i64 0, .string ⟨#[]⟩, .string ⟨#[]⟩, .slice none 0 0, .int .i64 0]), 5, 72) := by kernel_rfl
theorem undLW : Tryz.prog.underlying 110 = some (.slice 115) := by kernel_rfl
theorem ownN_sl {base : Nat} {e : TypeId} {w : World} {v : Value} {l : List LW} (h : OwnN 5 lwCells base e w v l) : ∃ s : Sl, v = .slice s.a s.n s.k := by
  obtain ⟨a, k, h, _⟩ := h.rd lwCells_len
  exact ⟨⟨a, _, k⟩, h⟩
/-- A disk at gd. -/
structure DC (w0 w : World) (gd gn gm : Nat) (Fn Fm B : List Nat) (K : KB) (cn cm : CF) (lv : Value) (lg : List LW) : Prop where
  dk : Blk w gd 112 [.pointer (some ⟨gn, 0, none⟩), .pointer (some ⟨gm, 0, none⟩), lv]
  gdb : w0.heap.size ≤ gd
  now : TD w0 w gn Fn B K cn
  mark : TD w0 w gm Fm B K cm
  full : Full cm
  apt : Ap Fn Fm
  bks : Bks w0.heap.size w B K
  log : OwnN 5 lwCells w0.heap.size 115 w lv lg
  lsh : ∀ x ∈ lg, Sh B K x.2 x.1.p
def dfoot (gd : Nat) (Fn Fm B : List Nat) (lv : Value) : List Nat := gd :: (Fn ++ Fm ++ B ++ blk lv)
theorem dfoot_mem (gd : Nat) (Fn Fm B : List Nat) (lv : Value) (x : Nat) : x ∈ dfoot gd Fn Fm B lv ↔ x = gd ∨ x ∈ Fn ∨ x ∈ Fm ∨ x ∈ B ∨ x ∈ blk lv := by
  unfold dfoot
  simp only [List.mem_cons, List.mem_append]
  constructor
  · rintro (h | ((h | h) | h) | h)
    · exact .inl h
    · exact .inr (.inl h)
    · exact .inr (.inr (.inl h))
    · exact .inr (.inr (.inr (.inl h)))
    · exact .inr (.inr (.inr (.inr h)))
  · rintro (h | h | h | h | h)
    · exact .inl h
    · exact .inr (.inl (.inl (.inl h)))
    · exact .inr (.inl (.inl (.inr h)))
    · exact .inr (.inl (.inr h))
    · exact .inr (.inr h)
section
variable {w0 w w' : World} {gd gn gm : Nat} {Fn Fm B : List Nat} {K : KB} {cn cm : CF} {lv : Value} {lg : List LW}
theorem DC.old (h : DC w0 w gd gn gm Fn Fm B K cn cm lv lg) : Upd [] w0 w := h.now.tab.old
theorem DC.upd (h : DC w0 w gd gn gm Fn Fm B K cn cm lv lg) {S : List Nat} (hu : Upd S w w') (hs : ∀ x ∈ dfoot gd Fn Fm B lv, x ∉ S) (hS : ∀ x ∈ S, w0.heap.size ≤ x) : DC w0 w' gd gn gm Fn Fm B K cn cm lv lg :=
  ⟨h.dk.upd hu (hs gd ((dfoot_mem _ _ _ _ _ _).2 (.inl rfl))), h.gdb, h.now.upd hu (fun x hx => hs x ((dfoot_mem _ _ _ _ _ _).2 (.inr (.inl hx)))) hS, h.mark.upd hu (fun x hx => hs x ((dfoot_mem _ _ _ _ _ _).2 (.inr (.inr (.inl hx))))) hS, h.full, h.apt,
    h.bks.upd hu (fun x hx => hs x ((dfoot_mem _ _ _ _ _ _).2 (.inr (.inr (.inr (.inl hx)))))), h.log.upd hu (fun x hx => hs x ((dfoot_mem _ _ _ _ _ _).2 (.inr (.inr (.inr (.inr hx)))))), h.lsh⟩
theorem DC.upd0 (h : DC w0 w gd gn gm Fn Fm B K cn cm lv lg) (hu : Upd [] w w') : DC w0 w' gd gn gm Fn Fm B K cn cm lv lg := h.upd hu (by simp) (by simp)
theorem DC.ge (h : DC w0 w gd gn gm Fn Fm B K cn cm lv lg) : ∀ x ∈ dfoot gd Fn Fm B lv, w0.heap.size ≤ x ∧ x < w.heap.size := by
  intro x hx
  rcases (dfoot_mem _ _ _ _ _ _).1 hx with rfl | hx | hx | hx | hx
  · exact ⟨h.gdb, h.dk.lt⟩
  · exact h.now.tab.ge x hx
  · exact h.mark.tab.ge x hx
  · exact h.bks.ge x hx
  · exact h.log.ge x hx
theorem dk_F {l : List (ByteArray × Sl)} {g : Nat} {F : List Nat} {xs : List Value} (h : Blk w gd 112 xs) (k : TXSL w0 w g F l) : gd ∉ F := fun hx => by
  obtain ⟨C, f, e, h1, h2⟩ := sl_ty k gd hx
  have := ty_eq h1 h
  rcases h2 with h2 | h2 <;> (rw [h2] at this; exact absurd this (by decide))
theorem dk_B {base : Nat} {xs : List Value} (h : Blk w gd 112 xs) (k : Bks base w B K) : gd ∉ B := fun hx => by
  obtain ⟨C, f, h1⟩ := k.typ gd hx
  exact absurd (ty_eq h1 h) (by decide)
theorem dk_L {base : Nat} {xs : List Value} {v : Value} {l : List LW} (h : Blk w gd 112 xs) (k : OwnN 5 lwCells base 115 w v l) : gd ∉ blk v := fun hx => by
  obtain ⟨C, f, h1⟩ := k.typ gd hx
  exact absurd (ty_eq h1 h) (by decide)
theorem log_F {base : Nat} {v : Value} {lg : List LW} {l : List (ByteArray × Sl)} {g : Nat} {F : List Nat} (h : OwnN 5 lwCells base 115 w v lg) (k : TXSL w0 w g F l) : Ap (blk v) F := fun x hx hF => by
  obtain ⟨C', f', h1'⟩ := h.typ x hx
  obtain ⟨C, f, e, h1, h2⟩ := sl_ty k x hF
  have := ty_eq h1 h1'
  rcases h2 with h2 | h2 <;> (rw [h2] at this; exact absurd this (by decide))
theorem log_B {base base' : Nat} {v : Value} {lg : List LW} (h : OwnN 5 lwCells base 115 w v lg) (k : Bks base' w B K) : Ap (blk v) B := fun x hx hF => by
  obtain ⟨C', f', h1'⟩ := h.typ x hx
  obtain ⟨C, f, h1⟩ := k.typ x hF
  exact absurd (ty_eq h1 h1') (by decide)
/-- Behind a call that writes through the table of the files that are there. -/
theorem DC.step (h : DC w0 w gd gn gm Fn Fm B K cn cm lv lg) {Fn' B' : List Nat} {K' : KB} {cn' : CF} (h1 : TD w0 w' gn Fn' B' K' cn') (h2 : Bks w0.heap.size w' B' K') (h3 : Ext B K B' K') (hu : Upd (Fn ++ B) w w') (hf : ∀ x ∈ Fn', x ∈ Fn ∨ w.heap.size ≤ x) : DC w0 w' gd gn gm Fn' Fm B' K' cn' cm lv lg :=
  have hge : ∀ x ∈ Fn ++ B, w0.heap.size ≤ x := fun x hx => by
    rcases List.mem_append.1 hx with q | q
    · exact (h.now.tab.ge x q).1
    · exact (h.bks.ge x q).1
  ⟨h.dk.upd hu (fun hx => by
      rcases List.mem_append.1 hx with q | q
      · exact dk_F h.dk h.now.tab q
      · exact dk_B h.dk h.bks q), h.gdb, h1, (h.mark.upd hu (fun x hx hx' => by
      rcases List.mem_append.1 hx' with q | q
      · exact h.apt x q hx
      · exact sl_bks h.mark.tab h.bks x hx q) hge).ext h.full h3, h.full, h.apt.next hf (fun x hx => (h.mark.tab.ge x hx).2), h2, h.log.upd hu (fun x hx hx' => by
      rcases List.mem_append.1 hx' with q | q
      · exact log_F h.log h.now.tab x hx q
      · exact log_B h.log h.bks x hx q), fun x hx => (h.lsh x hx).ext h3⟩
end
/-- A disk, as the laws see it; G: its blocks. -/
structure DD (w0 w : World) (gd : Nat) (G : List Nat) (s : DS) : Prop where
  ex : ∃ gn gm Fn Fm B K cn cm lv lg, DC w0 w gd gn gm Fn Fm B K cn cm lv lg ∧ s = ⟨dfOf cn, dfOf cm, lg.map (·.1)⟩ ∧ DOk s ∧ G = dfoot gd Fn Fm B lv
def DOut (w0 w : World) (gd : Nat) (G : List Nat) (s' : DS) (w' : World) : Prop := ∃ G', DD w0 w' gd G' s' ∧ Upd G w w' ∧ (∀ x ∈ G', x ∈ G ∨ w.heap.size ≤ x)
section
variable {w0 w w' : World} {gd : Nat} {G : List Nat} {s : DS}
theorem DD.old (h : DD w0 w gd G s) : Upd [] w0 w := by
  obtain ⟨gn, gm, Fn, Fm, B, K, cn, cm, lv, lg, hc, -⟩ := h.ex
  exact hc.old
theorem DD.ge (h : DD w0 w gd G s) : ∀ x ∈ G, w0.heap.size ≤ x ∧ x < w.heap.size := by
  obtain ⟨gn, gm, Fn, Fm, B, K, cn, cm, lv, lg, hc, -, -, rfl⟩ := h.ex
  exact hc.ge
theorem DD.ok (h : DD w0 w gd G s) : DOk s := by
  obtain ⟨gn, gm, Fn, Fm, B, K, cn, cm, lv, lg, hc, -, ho, -⟩ := h.ex
  exact ho
theorem DD.upd (h : DD w0 w gd G s) {S : List Nat} (hu : Upd S w w') (hs : ∀ x ∈ G, x ∉ S) (hS : ∀ x ∈ S, w0.heap.size ≤ x) : DD w0 w' gd G s := by
  obtain ⟨gn, gm, Fn, Fm, B, K, cn, cm, lv, lg, hc, e, ho, rfl⟩ := h.ex
  exact ⟨gn, gm, Fn, Fm, B, K, cn, cm, lv, lg, hc.upd hu hs hS, e, ho, rfl⟩
theorem DD.upd0 (h : DD w0 w gd G s) (hu : Upd [] w w') : DD w0 w' gd G s := h.upd hu (by simp) (by simp)
theorem DD.out0 (h : DD w0 w gd G s) (hu : Upd [] w w') : DOut w0 w gd G s w' := ⟨G, h.upd0 hu, hu.mono (by simp), fun x hx => .inl hx⟩
theorem DD.g_in (h : DD w0 w gd G s) : gd ∈ G := by
  obtain ⟨gn, gm, Fn, Fm, B, K, cn, cm, lv, lg, hc, e, ho, rfl⟩ := h.ex
  exact (dfoot_mem _ _ _ _ _ _).2 (.inl rfl)
end
end Go.Proofs.YtmhojaiajhdlcaaGreat
namespace Go.Proofs.YtmhojaiajhdlcaaGreat
open Go.RowKit
set_option linter.unusedSimpArgs false
set_option linter.unusedVariables false
section
variable {w0 w w' : World} {gd gn gm : Nat} {Fn Fm B : List Nat} {K : KB} {cn cm : CF} {lv : Value} {lg : List LW}
set_option maxRecDepth 20000 in
set_option maxHeartbeats 4000000 in
theorem do_any (x : Wr) (sl : Sl) (h : DC w0 w gd gn gm Fn Fm B K cn cm lv lg) (hx : WrOk x (dfOf cn)) (hp : Sh B K sl x.p) (hl : lg.length ≤ 1000000000) :
    Calls Tryz.prog 67 #[.pointer (some ⟨gd, 0, none⟩), wrv x sl] w fun e w' => e = .returned (.tuple #[]) ∧ ∃ Fn' B' K' cn' lv', DC w0 w' gd gn gm Fn' Fm B' K' cn' cm lv' (lg ++ [(x, sl)]) ∧ Ext B K B' K' ∧ dfOf cn' = wApply x (dfOf cn) ∧ Upd (dfoot gd Fn Fm B lv) w w' ∧ (∀ y ∈ dfoot gd Fn' Fm B' lv', y ∈ dfoot gd Fn Fm B lv ∨ w.heap.size ≤ y) := by
  obtain ⟨ao, co, rfl, hlc, hcm, -⟩ := h.log.rd lwCells_len
  obtain ⟨kd, nm, tn, p, n⟩ := x
  obtain ⟨pa, pn, pk⟩ := sl
  have hu1 : Upd [] w (w.alloc (.cells #[.int .i64 kd, sv nm, sv tn, .slice pa pn pk, .int .i64 n] 115)) := (Upd.refl [] w).alloc _
  have H1 := Lib.hid (h.upd0 hu1)
  have HBX := Lib.hid (Blk.new w 115 [.int .i64 kd, sv nm, sv tn, .slice pa pn pk, .int .i64 n])
  have HGE := Lib.hid h.ge
  have HX := Lib.hid hx
  have HP := Lib.hid hp
  have HU1 := Lib.hid hu1
  have c0 : (w.alloc (.cells #[.int .i64 kd, sv nm, sv tn, .slice pa pn pk, .int .i64 n] 115)).cell? ⟨gd, 0, none⟩ = some (.pointer (some ⟨gn, 0, none⟩)) := hu1.cell (h.dk.cell 0) (by simp)
  have hgd : gd < w.heap.size := h.dk.lt
  clear h hx hp hu1
  go_enter Tryz.func67, Tryz.ntmps67
  go_wp2_with fail
  have d0 := HBX.out.cell 0
  have d1 := HBX.out.cell 1
  have d2 := HBX.out.cell 2
  have d3 := HBX.out.cell 3
  have d4 := HBX.out.cell 4
  simp only [List.getElem?_cons_zero, List.getElem?_cons_succ] at d0 d1 d2 d3 d4
  have hw1 := HU1.out.size
  have HW1 : Hid (w.heap.size < (w.alloc (.cells #[.int .i64 kd, sv nm, sv tn, .slice pa pn pk, .int .i64 n] 115)).heap.size) := HBX.out.lt
  generalize w.alloc (.cells #[.int .i64 kd, sv nm, sv tn, .slice pa pn pk, .int .i64 n] 115) = w1 at *
  go_still_tail 5, (by kernel_rfl)
  change wpList _ _ _ _ _ w1.drew
  go_wp2_with fail
  (with_reducible refine (apply_any ⟨kd, nm, tn, p, n⟩ ⟨pa, pn, pk⟩ HX.out (H1.out.now.upd0 (Upd.refl [] w1).drew) (H1.out.bks.upd (Upd.refl [] w1).drew (by simp)) HP.out).mono ?_)
  rintro e w2 ⟨rfl, F2, B2, K2, cs2, h2, hb2, he2, hfs2, hu2, hf2, hn2⟩
  have hfb : ∀ y ∈ Fn ++ B, y ∈ dfoot gd Fn Fm B (Value.slice ao lg.length co) := fun y hy => (dfoot_mem _ _ _ _ _ _).2 (by rcases List.mem_append.1 hy with q | q; exact .inr (.inl q); exact .inr (.inr (.inr (.inl q))))
  have hbx : w.heap.size ∉ Fn ++ B := fun hy => by have := (HGE.out _ (hfb _ hy)).2; omega
  have H2 := Lib.hid ((H1.out.upd0 (Upd.refl [] w1).drew).step h2 hb2 he2 hu2 hf2)
  have hB2 : Blk w2 w.heap.size 115 [.int .i64 kd, sv nm, sv tn, .slice pa pn pk, .int .i64 n] := Blk.upd (w := w1.drew) HBX.out hu2 hbx
  have HU2 : Hid (Upd (dfoot gd Fn Fm B (Value.slice ao lg.length co)) w w2) := HU1.out.drew.trans hu2 (by simp) (fun y hy => .inl (hfb y hy))
  have d0 := hB2.cell 0
  have d1 := hB2.cell 1
  have d2 := hB2.cell 2
  have d3 := hB2.cell 3
  have d4 := hB2.cell 4
  simp only [List.getElem?_cons_zero, List.getElem?_cons_succ] at d0 d1 d2 d3 d4
  have c2 : w2.cell? ⟨gd, 2, none⟩ = some (.slice ao lg.length co) := H2.out.dk.cell 2
  have f2 : w2.frozen? ⟨gd, 2, none⟩ = false := H2.out.dk.frozen 2
  have HE2 := Lib.hid he2
  have HFS2 := Lib.hid hfs2
  have HF2 := Lib.hid hf2
  have HN2 := Lib.hid hn2
  have hs2 := hu2.size
  have HW2 : Hid (w.heap.size < w2.heap.size) := hB2.lt
  clear h2 hb2 he2 hfs2 hu2 hf2 hn2 hfb hbx hB2 c0 H1 HBX HU1 hw1 hs2
  have hua : Upd [] w2 (w2.drew.alloc (.cells #[.int .i64 kd, sv nm, sv tn, .slice pa pn pk, .int .i64 n] 115)) := (Upd.refl [] w2).drew.alloc _
  have HUA := Lib.hid hua
  have HOW := H2.out.log.upd hua (by simp)
  have hnewb : Blk (w2.drew.alloc (.cells #[.int .i64 kd, sv nm, sv tn, .slice pa pn pk, .int .i64 n] 115)) w2.heap.size 115 [.int .i64 kd, sv nm, sv tn, .slice pa pn pk, .int .i64 n] := Blk.new w2.drew _ _
  have HRD : RdN 5 lwCells (w2.drew.alloc (.cells #[.int .i64 kd, sv nm, sv tn, .slice pa pn pk, .int .i64 n] 115)) (.slice (some ⟨w2.heap.size, 0, none⟩) 1 1) [(⟨kd, nm, tn, p, n⟩, ⟨pa, pn, pk⟩)] := by
    refine ⟨_, 1, rfl, by simp, by simp [maxLen], fun _ => ⟨w2.heap.size, 0, rfl, fun j hj i hi => ?_⟩⟩
    have hj0 : j = 0 := by simpa using hj
    subst hj0
    rw [Nat.zero_mul, Nat.zero_add, Nat.zero_add, hnewb.cell]; rfl
  have hbs : w0.heap.size ≤ (w2.drew.alloc (.cells #[.int .i64 kd, sv nm, sv tn, .slice pa pn pk, .int .i64 n] 115)).heap.size := (H2.out.old.seq hua).size
  have HRUN := Lib.hid (fun ty => run_appN (P := Tryz.prog) (ty := ty) lwCells_len (by decide) lwCells_one undLW infoLW rfl _ _ lg [(⟨kd, nm, tn, p, n⟩, ⟨pa, pn, pk⟩)] HOW HRD (by simp; omega) (by simp [maxLen]; omega) hbs)
  have HDK := Lib.hid (H2.out.dk.upd hua (by simp))
  have HGL := Lib.hid (dk_L H2.out.dk H2.out.log)
  clear hua HOW hnewb HRD hbs
  go_wp2_with fail
  have c2' : (w2.alloc (Obj.cells #[.int .i64 kd, sv nm, sv tn, .slice pa pn pk, .int .i64 n] 115)).cell? ⟨gd, 2, none⟩ = some (.slice ao lg.length co) := ((Upd.refl [] w2).alloc _).cell c2 (by simp)
  go_region_law (first | ((with_reducible refine step_app_of rfl (.tmp 14) (.tmp 16) rfl (.slice ao lg.length co) (.slice (some ⟨w2.heap.size, 0, none⟩) 1 1) rfl rfl (HRUN.out _) ?_); (rintro v3 w3 ⟨ho3, hu3, hk3⟩; obtain ⟨⟨a3, n3, k3⟩, rfl⟩ := ownN_sl ho3; have hb3 := HDK.out.upd hu3 HGL.out; have c3 : w3.cell? ⟨gd, 2, none⟩ = some (.slice ao lg.length co) := hb3.cell 2; have f3 := hb3.frozen 2; have HB3 := Lib.hid hb3; have HO3 := Lib.hid ho3; have HU3 := Lib.hid hu3; have HK3 := Lib.hid hk3; clear ho3 hu3 hk3 hb3; dsimp only)))
  all_goals
    go_end0
    have hset : Upd [gd] w3 (w3.setCell ⟨gd, 2, none⟩ (.slice a3 n3 k3)) := (Upd.refl [gd] w3).setCell _ _ (.inl (by simp))
    have hgv : gd ∉ blk (.slice a3 n3 k3) := fun hy => by
      rcases HK3.out _ hy with q | q
      · exact HGL.out q
      · have := H2.out.dk.lt; have := HUA.out.size; omega
    have hw3 : Upd (blk (Value.slice ao lg.length co)) w2 w3 := HUA.out.trans HU3.out (by simp) (fun y hy => .inl hy)
    have hlog : ∀ y ∈ blk (Value.slice ao lg.length co), y ∈ dfoot gd Fn Fm B (Value.slice ao lg.length co) := fun y hy => (dfoot_mem _ _ _ _ _ _).2 (.inr (.inr (.inr (.inr hy))))
    have hall : Upd (gd :: blk (Value.slice ao lg.length co)) w2 (w3.setCell ⟨gd, 2, none⟩ (.slice a3 n3 k3)) := hw3.trans hset (fun y hy => by simp [hy]) (fun y hy => .inl (by simp at hy; simp [hy]))
    have hgeb : ∀ x ∈ gd :: blk (Value.slice ao lg.length co), w0.heap.size ≤ x := fun x hx => by
      rcases List.mem_cons.1 hx with rfl | q
      · exact H2.out.gdb
      · exact (H2.out.log.ge x q).1
    refine ⟨rfl, F2, B2, K2, cs2, (.slice a3 n3 k3), ⟨HB3.out.set_ 2 (.slice a3 n3 k3), H2.out.gdb, ?_, ?_, H2.out.full, H2.out.apt, ?_, ?_, ?_⟩, HE2.out, HFS2.out, ?_, ?_⟩
    · refine H2.out.now.upd hall (fun x hx hy => ?_) hgeb
      rcases List.mem_cons.1 hy with rfl | q
      · exact dk_F H2.out.dk H2.out.now.tab hx
      · exact log_F H2.out.log H2.out.now.tab x q hx
    · refine H2.out.mark.upd hall (fun x hx hy => ?_) hgeb
      rcases List.mem_cons.1 hy with rfl | q
      · exact dk_F H2.out.dk H2.out.mark.tab hx
      · exact log_F H2.out.log H2.out.mark.tab x q hx
    · refine H2.out.bks.upd hall (fun x hx hy => ?_)
      rcases List.mem_cons.1 hy with rfl | q
      · exact dk_B H2.out.dk H2.out.bks hx
      · exact log_B H2.out.log H2.out.bks x q hx
    · exact HO3.out.upd hset (fun x hx hy => hgv (by simp at hy; rw [← hy]; exact hx))
    · intro y hy
      rcases List.mem_append.1 hy with q | q
      · exact H2.out.lsh y q
      · simp at q; subst q; exact HP.out.ext HE2.out
    · refine HU2.out.trans hall (fun y hy => hy) (fun y hy => .inl ?_)
      rcases List.mem_cons.1 hy with rfl | q
      · exact (dfoot_mem _ _ _ _ _ _).2 (.inl rfl)
      · exact hlog y q
    · intro y hy
      have hwl := HW2.out
      have hw1 : w1.drew.heap.size = w1.heap.size := rfl
      have h12 := HW1.out
      rcases (dfoot_mem _ _ _ _ _ _).1 hy with rfl | q | q | q | q
      · exact .inl ((dfoot_mem _ _ _ _ _ _).2 (.inl rfl))
      · exact (HF2.out y q).imp (fun q => (dfoot_mem _ _ _ _ _ _).2 (.inr (.inl q))) (fun q => by omega)
      · exact .inl ((dfoot_mem _ _ _ _ _ _).2 (.inr (.inr (.inl q))))
      · exact (HN2.out y q).imp (fun q => (dfoot_mem _ _ _ _ _ _).2 (.inr (.inr (.inr (.inl q))))) (fun q => by omega)
      · exact (HK3.out y q).imp (fun q => hlog y q) (fun q => by have := HUA.out.size; omega)
end
end Go.Proofs.YtmhojaiajhdlcaaGreat
namespace Go.Proofs.YtmhojaiajhdlcaaGreat
open Go.RowKit
set_option linter.unusedSimpArgs false
set_option linter.unusedVariables false
section
variable {w0 w w' : World} {gd : Nat} {G : List Nat} {s : DS}
set_option maxRecDepth 20000 in
set_option maxHeartbeats 1000000 in
theorem dNew_any (w0 w : World) (hu : Upd [] w0 w) :
    Calls Tryz.prog 18 #[] w fun e w' => ∃ gd G, e = .returned (.pointer (some ⟨gd, 0, none⟩)) ∧ DD w0 w' gd G ⟨[], [], []⟩ ∧ Upd [] w w' ∧ (∀ x ∈ G, w.heap.size ≤ x) := by
  have HU := Lib.hid hu
  clear hu
  go_enter Tryz.func18, Tryz.ntmps18
  go_wp2_with fail
  (with_reducible refine (txSL_New w0 w HU.out).mono ?_)
  rintro e w1 ⟨g1, F1, rfl, h1, hu1, hf1⟩
  have H1 := Lib.hid h1
  have HU1 := Lib.hid (HU.out.seq hu1)
  have HW1 := Lib.hid hu1
  have HF1 := Lib.hid hf1
  clear h1 hu1 hf1
  go_wp2_with fail
  (with_reducible refine (txSL_New w0 w1 HU1.out).mono ?_)
  rintro e w2 ⟨g2, F2, rfl, h2, hu2, hf2⟩
  have H2 := Lib.hid h2
  have HU2 := Lib.hid hu2
  have HF2 := Lib.hid hf2
  clear h2 hu2 hf2
  go_wp2_with fail
  go_ret
  have hua : Upd [] w2 (w2.alloc (.cells #[.pointer (some ⟨g1, 0, none⟩), .pointer (some ⟨g2, 0, none⟩), .slice none 0 0] 112)) := (Upd.refl [] w2).alloc _
  have hs1 := HW1.out.size
  have hs2 := HU2.out.size
  refine ⟨_, _, rfl, ⟨g1, g2, F1, F2, [], fun _ => ([], 0), [], [], .slice none 0 0, [], ⟨Blk.new w2 _ [.pointer (some ⟨g1, 0, none⟩), .pointer (some ⟨g2, 0, none⟩), .slice none 0 0], ?_, ⟨(H1.out.upd0 HU2.out).upd0 hua, by simp, by simp, by simp⟩, ⟨H2.out.upd0 hua, by simp, by simp, by simp⟩, fun c hc => by simp at hc, ?_, ⟨by simp⟩, OwnN.nil _ _ _, by simp⟩, rfl, DOk.zero, rfl⟩, (HW1.out.seq HU2.out).seq hua, fun x hx => ?_⟩
  · exact (HU1.out.seq HU2.out).size
  · exact Ap.symm (Ap.new (n := w1.heap.size) HF2.out (fun x hx => (H1.out.ge x hx).2))
  · rcases (dfoot_mem _ _ _ _ _ _).1 hx with rfl | hx | hx | hx | hx
    · omega
    · exact HF1.out x hx
    · have := HF2.out x hx; omega
    · simp at hx
    · simp [blk] at hx
set_option maxRecDepth 20000 in
theorem dCount_any (h : DD w0 w gd G s) :
    Calls Tryz.prog 27 #[.pointer (some ⟨gd, 0, none⟩)] w fun e w' => e = .returned (.int .i64 (s.log.length : Int)) ∧ w = w' := by
  obtain ⟨gn, gm, Fn, Fm, B, K, cn, cm, lv, lg, hc, rfl, ho, rfl⟩ := h.ex
  obtain ⟨ao, co, rfl, -⟩ := hc.log.rd lwCells_len
  have c2 : w.cell? ⟨gd, 2, none⟩ = some (.slice ao lg.length co) := hc.dk.cell 2
  clear hc h ho
  go_enter Tryz.func27, Tryz.ntmps27
  go_wp2
  go_ret
  exact ⟨by simp, rfl⟩
set_option maxRecDepth 20000 in
theorem dNames_any (h : DD w0 w gd G s) (hl : s.now.length ≤ 100000) :
    Calls Tryz.prog 92 #[.pointer (some ⟨gd, 0, none⟩)] w fun e w' => ∃ v, e = .returned v ∧ Own sv w.heap.size 9 w' v (s.now.map (·.1)) ∧ Upd [] w w' := by
  obtain ⟨gn, gm, Fn, Fm, B, K, cn, cm, lv, lg, hc, rfl, ho, rfl⟩ := h.ex
  have c0 : w.cell? ⟨gd, 0, none⟩ = some (.pointer (some ⟨gn, 0, none⟩)) := hc.dk.cell 0
  have HC := Lib.hid hc
  have hl2 : (rowsF cn).length ≤ 100000 := by rw [rowsF_len]; rwa [df_len] at hl
  have hk : (rowsF cn).map (·.1) = (dfOf cn).map (·.1) := by simp [tMap]
  dsimp only
  generalize (dfOf cn).map (·.1) = ks at *
  have HL := Lib.hid hl2
  have HK := Lib.hid hk
  clear hc h ho hl hl2 hk
  go_enter Tryz.func92, Tryz.ntmps92
  go_wp2_with fail
  (with_reducible refine (txSL_Keys _ HC.out.now.tab HL.out HK.out).mono ?_)
  rintro e w1 ⟨v, rfl, ho1, hu1⟩
  obtain ⟨a1, k1, rfl, -⟩ := ho1.rd
  have HO1 := Lib.hid ho1
  have HU1 := Lib.hid hu1
  clear ho1 hu1
  go_wp2_with fail
  go_ret
  exact ⟨_, rfl, HO1.out, HU1.out⟩
set_option maxRecDepth 20000 in
set_option maxHeartbeats 1000000 in
theorem dkRead_any (nm : ByteArray) (h : DD w0 w gd G s) (hl : s.now.length ≤ 100000) :
    Calls Tryz.prog 28 #[.pointer (some ⟨gd, 0, none⟩), sv nm] w fun e w' => ∃ v, e = .returned (.tuple #[v, .bool (dGet s.now nm).2]) ∧ Own bv w.heap.size 5 w' v (dGet s.now nm).1 ∧ Upd [] w w' := by
  have hlen := get_le_total s.now nm
  have htot := h.ok.tot
  obtain ⟨gn, gm, Fn, Fm, B, K, cn, cm, lv, lg, hc, rfl, ho, rfl⟩ := h.ex
  have c0 : w.cell? ⟨gd, 0, none⟩ = some (.pointer (some ⟨gn, 0, none⟩)) := hc.dk.cell 0
  have hl2 : (rowsF cn).length ≤ 100000 := by rw [rowsF_len]; rwa [df_len] at hl
  have HL := Lib.hid hl2
  obtain ⟨⟨oa, on, ok⟩, old, b, hget, hdg, hin, hsh, hgr, hoth⟩ := hc.now.found nm
  dsimp only at hlen htot
  rw [hdg] at hlen ⊢
  dsimp only at hlen ⊢
  have HG := Lib.hid hget
  have HT := Lib.hid hc.now
  have HR := Lib.hid (hsh.rd hc.bks)
  have hon := hsh.n
  dsimp only at hon
  subst hon
  have hlb : old.length ≤ 16777216 := by omega
  clear hc h ho hl hl2 hget hdg hin hsh hgr hoth hlen htot
  go_enter Tryz.func28, Tryz.ntmps28
  go_wp2_with fail
  (with_reducible refine (txSL_Get nm ⟨oa, old.length, ok⟩ b HT.out.tab HL.out trivial HG.out).mono ?_)
  rintro e w1 ⟨rfl, hu1⟩
  have HU1 := Lib.hid hu1
  have HRUN := Lib.hid (fun ty => run_app (P := Tryz.prog) (w := w1) (ty := ty) bv_one Tryz.underlying28 infoB8 rfl (.slice none 0 0) (.slice oa old.length ok) [] old (World.ownsRow_nil w1 w.heap.size _ 1) (HR.out.upd0 hu1) (by simp; omega) (by simp [maxLen]; omega) hu1.size)
  clear hu1
  go_wp2_with (at_builtin; go_must (refine wpList_app_of rfl _ _ rfl (.slice none 0 0) (.slice oa old.length ok) rfl rfl (HRUN.out _) ?_; rintro v2 w2 ⟨ho2, hu2, hk2⟩; have HO2 := Lib.hid ho2; have HU2 := Lib.hid hu2; obtain ⟨a2, k2, rfl, -⟩ := ho2.rd; clear ho2 hu2 hk2 HRUN; dsimp only))
  go_ret2
  exact ⟨_, rfl, HO2.out, HU1.out.seq (HU2.out.mono (by simp [blk]))⟩
end
end Go.Proofs.YtmhojaiajhdlcaaGreat
namespace Go.Proofs.YtmhojaiajhdlcaaGreat
open Go.RowKit
set_option linter.unusedSimpArgs false
set_option linter.unusedVariables false
theorem snoc_set {ν : Type} [Inhabited ν] {l : List (ByteArray × ν)} (h : Rising strLt l) (k : Nat) (hk : k < l.length) : tSet strLt (l.take k) (nth l k).1 (nth l k).2 = l.take (k + 1) := by
  have hlt : (l.take k).length = k := by rw [List.length_take]; omega
  have hb : below strLt (l.take k) (nth l k).1 = k := below_eq _ _ _ (by rw [hlt]; exact Nat.le_refl _) (fun j hj => by rw [nth_take _ _ _ hj]; exact h j k hj hk) (fun q => absurd q (by rw [hlt]; omega))
  have hi : isIn strLt (l.take k) (nth l k).1 = false := by unfold isIn; rw [hb, hlt]; simp
  unfold tSet
  rw [hi, hb, if_neg (by simp), Nat.add_zero, take_succ_nth l k hk, List.take_of_length_le (by omega), List.drop_of_length_le (by omega)]
section
variable {w0 w w' : World} {gd : Nat} {G : List Nat} {s : DS}
set_option maxRecDepth 20000 in
set_option maxHeartbeats 2000000 in
theorem dTotal_any (h : DD w0 w gd G s) (hl : s.now.length ≤ 100000) :
    Calls Tryz.prog 65 #[.pointer (some ⟨gd, 0, none⟩)] w fun e w' => e = .returned (.int .i64 (dTotal s.now : Int)) ∧ Upd [] w w' := by
  have htot := h.ok.tot
  obtain ⟨gn, gm, Fn, Fm, B, K, cn, cm, lv, lg, hc, rfl, ho, rfl⟩ := h.ex
  have c0 : w.cell? ⟨gd, 0, none⟩ = some (.pointer (some ⟨gn, 0, none⟩)) := hc.dk.cell 0
  have HC := Lib.hid hc
  have hl2 : (rowsF cn).length ≤ 100000 := by rw [rowsF_len]; rwa [df_len] at hl
  have HL := Lib.hid hl2
  have hlc : cn.length ≤ 100000 := by rwa [df_len] at hl
  dsimp only at htot ⊢
  have HT := Lib.hid htot
  have C0 := Lib.hid c0
  clear hc h ho hl hl2 htot
  go_enter Tryz.func65, Tryz.ntmps65
  go_wp2_with fail
  (with_reducible refine (txSL_Len (cn.length : Int) HC.out.now.tab (by rw [rowsF_len])).mono ?_)
  rintro e w1 ⟨rfl, rfl⟩
  go_wp2_with fail
  go_loopw [3, 13] (fun v i wr => ∃ k : Nat, k ≤ cn.length ∧ i = .int .i64 k ∧ v = .int .i64 (dTotal ((dfOf cn).take k) : Int) ∧ Hid (Upd [] w wr)) (fun _ i _ => cn.length - (intOf i).toNat)
  case atStart => exact ⟨0, Nat.zero_le _, rfl, rfl, Upd.refl _ _⟩
  case round =>
    obtain ⟨k, hk, rfl, rfl, hu⟩ := hrel
    clear c0
    have c0 := hu.out.cell C0.out (by simp)
    by_cases hlt : k < cn.length
    · have hat : tAt (⟨#[]⟩ : ByteArray) (⟨none, 0, 0⟩ : Sl) (rowsF cn) (k : Int) = ((nth cn k).1, (nth cn k).2.1, true) := by
        rw [tAt_at _ _ (rowsF cn) k (by rw [rowsF_len]; exact hlt), tMap_nth id (fun x : Sl × List UInt8 => x.1) cn k hlt]; rfl
      have hst : dTotal ((dfOf cn).take (k + 1)) = dTotal ((dfOf cn).take k) + (nth cn k).2.2.length := by
        rw [total_take (dfOf cn) k (by rw [df_len]; exact hlt), tMap_nth id (fun x : Sl × List UInt8 => x.2) cn k hlt]
      have hle := total_le (dfOf cn) (k + 1)
      have hle2 := HT.out
      have hsh := (HC.out.now.sh _ (nth_mem k hlt)).n
      have HAT := Lib.hid hat
      have HST := Lib.hid hst
      rw [hst] at hle
      clear hat hst
      generalize nth cn k = c at *
      obtain ⟨key, ⟨a, n, cp⟩, bs⟩ := c
      dsimp only at hsh hle
      subst hsh
      generalize dTotal ((dfOf cn).take k) = T at *
      have hT : T + bs.length ≤ 16777216 := by omega
      have HI : Hid (I64 (k : Int)) := ⟨by omega, by omega⟩
      clear hle hle2
      go_wp2_with fail
      (with_reducible refine (txSL_At (k : Int) key ⟨a, bs.length, cp⟩ true HI.out (HC.out.now.tab.upd0 hu.out) HL.out HAT.out).mono ?_)
      rintro e w2 ⟨rfl, hu2⟩
      have HU2 := Lib.hid (hu.out.seq hu2)
      clear hu2 hu
      go_wp2_with fail
      go_roundw
      case rel => exact ⟨k + 1, by omega, by go_num, by rw [HST.out]; go_num, HU2⟩
      case measure => simp [intOf]; omega
    · obtain rfl : k = cn.length := by omega
      have he : (dfOf cn).take cn.length = dfOf cn := List.take_of_length_le (by rw [df_len]; exact Nat.le_refl _)
      obtain ⟨T, hT⟩ : ∃ T, dTotal (dfOf cn) = T := ⟨_, rfl⟩
      have HTT := Lib.hid hT
      rw [he, hT]
      clear hT
      go_wp2_with fail
      go_ret
      exact ⟨by rw [HTT.out]; rfl, hu.out⟩
end
section
variable {w0 w w' : World} {g : Nat} {F B : List Nat} {K : KB} {cs : CF}
set_option maxRecDepth 20000 in
set_option maxHeartbeats 2000000 in
theorem copied_any (ht : TD w0 w g F B K cs) (hB : Bks w0.heap.size w B K) (hlen : cs.length ≤ 100000) :
    Calls Tryz.prog 72 #[.pointer (some ⟨g, 0, none⟩)] w fun e w' => ∃ g' F' cs', e = .returned (.pointer (some ⟨g', 0, none⟩)) ∧ TD w0 w' g' F' B K cs' ∧ Full cs' ∧ dfOf cs' = dfOf cs ∧ Upd [] w w' ∧ (∀ x ∈ F', w.heap.size ≤ x) := by
  have HT := Lib.hid ht
  have HB := Lib.hid hB
  have HR := Lib.hid ht.risD
  have hrl : (rowsF cs).length ≤ 100000 := by rw [rowsF_len]; exact hlen
  have HRL := Lib.hid hrl
  clear ht hB hrl
  go_enter Tryz.func72, Tryz.ntmps72
  go_wp2_with fail
  (with_reducible refine (txSL_New w0 w HT.out.tab.old).mono ?_)
  rintro e w1 ⟨g1, F1, rfl, h1, hu1, hf1⟩
  have H1 : Hid (TD w0 w1 g1 F1 B K []) := ⟨h1, by simp, by simp, by simp⟩
  have HU1 := Lib.hid hu1
  have HF1 := Lib.hid hf1
  clear h1 hu1 hf1
  go_wp2_with fail
  (with_reducible refine (txSL_Len (cs.length : Int) (HT.out.tab.upd0 HU1.out) (by rw [rowsF_len])).mono ?_)
  rintro e w2 ⟨rfl, rfl⟩
  go_wp2_with fail
  go_loopw [11] (fun i wr => ∃ (k : Nat) (Fo : List Nat) (co : CF), k ≤ cs.length ∧ i = .int .i64 k ∧ Hid (TD w0 wr g1 Fo B K co) ∧ Hid (Full co) ∧ Hid (dfOf co = (dfOf cs).take k) ∧ Hid (Upd [] w wr) ∧ Hid (∀ x ∈ Fo, w.heap.size ≤ x)) (fun i _ => cs.length - (intOf i).toNat)
  case atStart => exact ⟨0, F1, [], Nat.zero_le _, rfl, H1, fun c hc => by simp at hc, rfl, HU1, HF1⟩
  case round =>
    obtain ⟨k, Fo, co, hk, rfl, ho, hfu, hdf, hu, hfr⟩ := hrel
    clear H1 HU1 HF1
    by_cases hlt : k < cs.length
    · have hat : tAt (⟨#[]⟩ : ByteArray) (⟨none, 0, 0⟩ : Sl) (rowsF cs) (k : Int) = ((nth cs k).1, (nth cs k).2.1, true) := by
        rw [tAt_at _ _ (rowsF cs) k (by rw [rowsF_len]; exact hlt), tMap_nth id (fun x : Sl × List UInt8 => x.1) cs k hlt]; rfl
      have hst : tSet strLt ((dfOf cs).take k) (nth cs k).1 (nth cs k).2.2 = (dfOf cs).take (k + 1) := by
        rw [← snoc_set HR.out k (by rw [df_len]; exact hlt), tMap_nth id (fun x : Sl × List UInt8 => x.2) cs k hlt]; rfl
      have hsh := HT.out.sh _ (nth_mem k hlt)
      have hol : co.length = k := by
        have := congrArg List.length hdf.out
        rw [df_len, List.length_take, df_len] at this; omega
      have HAT := Lib.hid hat
      have HST := Lib.hid hst
      clear hat hst
      generalize nth cs k = c at *
      obtain ⟨key, ⟨a, n, cp⟩, bs⟩ := c
      have hn := hsh.n
      have hcp := hsh.k
      dsimp only at hn hcp
      subst hn
      have HSC := Lib.hid (hsh.cut bs.length (Nat.le_refl _))
      have HI : Hid (I64 (k : Int)) := ⟨by omega, by omega⟩
      have HOL : Hid (co.length ≤ 100000) := by unfold Hid; omega
      have hcut := fun W => run_cut_hm (P := Tryz.prog) (size := 1) Tryz.underlying28 (by kernel_rfl) a bs.length cp bs.length hcp W
      clear hsh hol
      go_wp2_with fail
      (with_reducible refine (txSL_At (k : Int) key ⟨a, bs.length, cp⟩ true HI.out (HT.out.tab.upd0 hu.out) HRL.out HAT.out).mono ?_)
      rintro e w2 ⟨rfl, hu2⟩
      have HU2 := Lib.hid hu2
      clear hu2
      go_wp2_with fail
      (with_reducible refine (td_set key ⟨a, bs.length, bs.length⟩ (bs.take bs.length) (ho.out.tab.upd0 HU2.out) (HB.out.upd (hu.out.seq HU2.out) (by simp)) HOL.out (fun d hd hne => ⟨ho.out.sh d hd, ho.out.gr d hd, ap_full (Nat.le_refl _)⟩) ho.out.ap HSC.out (Gr.full (Nat.le_refl _))).mono ?_)
      rintro e w3 ⟨⟨r, rfl⟩, F3, h3, hb3, hu3, hf3⟩
      have hw := hu.out.size
      have hw2 := HU2.out.size
      have H3 := Lib.hid h3
      have HU3 : Hid (Upd [] w w3) := (hu.out.seq HU2.out).trans hu3 (by simp) (fun x hx => .inr (hfr.out x hx))
      have HF3 : Hid (∀ x ∈ F3, w.heap.size ≤ x) := fun x hx => by
        rcases hf3 x hx with q | q
        · exact hfr.out x q
        · omega
      have HD3 : Hid (dfOf (tSet strLt co key (⟨a, bs.length, bs.length⟩, bs.take bs.length)) = (dfOf cs).take (k + 1)) := by unfold Hid; rw [df_set, hdf.out, List.take_length]; exact HST.out
      have HFU3 : Hid (Full (tSet strLt co key (⟨a, bs.length, bs.length⟩, bs.take bs.length))) := fun c hc => by
        rcases tSet_memS ho.out.ris key _ c hc with rfl | ⟨q, -⟩
        · exact Nat.le_refl _
        · exact hfu.out c q
      clear h3 hb3 hu3 hf3 hw hw2 hcut
      go_wp2_with fail
      go_roundw
      case rel => exact ⟨k + 1, F3, _, by omega, by go_num, H3, HFU3, HD3, HU3, HF3⟩
      case measure => simp [intOf]; omega
    · obtain rfl : k = cs.length := by omega
      have he : (dfOf cs).take cs.length = dfOf cs := List.take_of_length_le (by rw [df_len]; exact Nat.le_refl _)
      rw [he] at hdf
      go_wp2_with fail
      go_ret
      exact ⟨g1, Fo, co, rfl, ho.out, hfu.out, hdf.out, hu.out, hfr.out⟩
end
end Go.Proofs.YtmhojaiajhdlcaaGreat
namespace Go.Proofs.YtmhojaiajhdlcaaGreat
open Go.RowKit
set_option linter.unusedSimpArgs false
set_option linter.unusedVariables false
section
variable {w0 w w' : World} {gd gn gm : Nat} {F B : List Nat} {K : KB} {cs : CF}
set_option maxRecDepth 20000 in
set_option maxHeartbeats 2000000 in
theorem mark_any (p1 : Option Addr) (s2 : Sl) (hd : Blk w gd 112 [.pointer (some ⟨gn, 0, none⟩), .pointer p1, slv s2]) (hgd : w0.heap.size ≤ gd) (ht : TD w0 w gn F B K cs) (hB : Bks w0.heap.size w B K) (hlen : cs.length ≤ 100000) :
    Calls Tryz.prog 21 #[.pointer (some ⟨gd, 0, none⟩)] w fun e w' => e = .returned (.tuple #[]) ∧ ∃ gm' Fm' cm', DC w0 w' gd gn gm' F Fm' B K cs cm' (.slice none 0 0) [] ∧ dfOf cm' = dfOf cs ∧ Upd [gd] w w' ∧ (∀ x ∈ Fm', w.heap.size ≤ x) := by
  obtain ⟨la, ln, lk⟩ := s2
  have c0 : w.cell? ⟨gd, 0, none⟩ = some (.pointer (some ⟨gn, 0, none⟩)) := hd.cell 0
  have HD := Lib.hid hd
  have HT := Lib.hid ht
  have HB := Lib.hid hB
  clear hd ht hB
  go_enter Tryz.func21, Tryz.ntmps21
  go_wp2_with fail
  (with_reducible refine (copied_any HT.out HB.out hlen).mono ?_)
  rintro e w1 ⟨g1, F1, cm, rfl, h1, hf1, hdf1, hu1, hfr1⟩
  have hd1 := HD.out.upd hu1 (by simp)
  have c1 : w1.cell? ⟨gd, 1, none⟩ = some (.pointer p1) := hd1.cell 1
  have c2 : w1.cell? ⟨gd, 2, none⟩ = some (.slice la ln lk) := hd1.cell 2
  have f1 := hd1.frozen 1
  have f2 := hd1.frozen 2
  have HD1 := Lib.hid hd1
  have H1 := Lib.hid h1
  have HF1 := Lib.hid hf1
  have HDF1 := Lib.hid hdf1
  have HU1 := Lib.hid hu1
  have HFR1 := Lib.hid hfr1
  clear hd1 h1 hf1 hdf1 hu1 hfr1 c0
  go_wp2_with fail
  go_end0
  have hset : Upd [gd] w1 ((w1.setCell ⟨gd, 1, none⟩ (.pointer (some ⟨g1, 0, none⟩))).setCell ⟨gd, 2, none⟩ (.slice none 0 0)) := ((Upd.refl [gd] w1).setCell _ _ (.inl (by simp))).setCell _ _ (.inl (by simp))
  have hblk := (HD1.out.set_ 1 (.pointer (some ⟨g1, 0, none⟩))).set_ 2 (.slice none 0 0)
  have hS : ∀ x ∈ [gd], w0.heap.size ≤ x := fun x hx => by simp at hx; omega
  have hT1 := HT.out.upd0 HU1.out
  have hB1 := HB.out.upd HU1.out (by simp)
  refine ⟨rfl, g1, F1, cm, ⟨hblk, hgd, hT1.upd hset (fun x hx hy => ?_) hS, H1.out.upd hset (fun x hx hy => ?_) hS, HF1.out, ?_, hB1.upd hset (fun x hx hy => ?_), OwnN.nil _ _ _, by simp⟩, HDF1.out, HU1.out.trans hset (by simp) (fun x hx => .inl hx), HFR1.out⟩
  · simp at hy; subst hy; exact dk_F HD1.out hT1.tab hx
  · simp at hy; subst hy; exact dk_F HD1.out H1.out.tab hx
  · exact Ap.symm (Ap.new (n := w.heap.size) HFR1.out (fun x hx => (HT.out.tab.ge x hx).2))
  · simp at hy; subst hy; exact dk_B HD1.out hB1 hx
end
section
variable {w0 w w' : World} {gd : Nat} {G : List Nat} {s : DS}
theorem dMark_any (h : DD w0 w gd G s) (hl : s.now.length ≤ 100000) :
    Calls Tryz.prog 21 #[.pointer (some ⟨gd, 0, none⟩)] w fun e w' => e = .returned (.tuple #[]) ∧ DOut w0 w gd G (dMark s) w' := by
  obtain ⟨gn, gm, Fn, Fm, B, K, cn, cm, lv, lg, hc, rfl, ho, rfl⟩ := h.ex
  obtain ⟨ao, co, rfl, -⟩ := hc.log.rd lwCells_len
  refine (mark_any _ ⟨ao, lg.length, co⟩ hc.dk hc.gdb hc.now hc.bks (by rwa [df_len] at hl)).mono ?_
  rintro e w' ⟨rfl, gm', Fm', cm', h', hd', hu, hfr⟩
  refine ⟨rfl, _, ⟨gn, gm', Fn, Fm', B, K, cn, cm', _, [], h', by rw [hd']; rfl, ho.mark, rfl⟩, hu.mono (fun x hx => .inl (by simp at hx; subst hx; exact (dfoot_mem _ _ _ _ _ _).2 (.inl rfl))), fun x hx => ?_⟩
  rcases (dfoot_mem _ _ _ _ _ _).1 hx with rfl | hx | hx | hx | hx
  · exact .inl ((dfoot_mem _ _ _ _ _ _).2 (.inl rfl))
  · exact .inl ((dfoot_mem _ _ _ _ _ _).2 (.inr (.inl hx)))
  · exact .inr (hfr x hx)
  · exact .inl ((dfoot_mem _ _ _ _ _ _).2 (.inr (.inr (.inr (.inl hx)))))
  · simp [blk] at hx
theorem wApply_len (x : Wr) (fs : DF) : (wApply x fs).length ≤ fs.length + 1 := by
  have h1 := fun k v => tSet_len (lt := strLt) fs k v
  have h2 := tDel_len (lt := strLt) fs x.nm
  have h3 := tSet_len (lt := strLt) (tDel strLt fs x.nm) x.tn (dGet fs x.nm).1
  unfold wApply
  split
  · exact h1 _ _
  split
  · exact h1 _ _
  split
  · split <;> omega
  split
  · exact h1 _ _
  split <;> omega
theorem wAll_len : ∀ {fs : DF} {l : List Wr}, LogOk fs l → fs.length ≤ 100000 → (wAll fs l).length ≤ 100000
  | fs, [], _, h => h
  | fs, x :: l, h, _ => wAll_len (fs := wApply x fs) h.2 (by have := wApply_len x fs; have := h.1.len; omega)
/-- While the raw writes are done again. -/
structure BL (w0 w wr : World) (gd gm : Nat) (Fn Fm B : List Nat) (K : KB) (cm : CF) (s2 : Sl) (lg : List LW) (k : Nat) (F' B' : List Nat) (K' : KB) (c' : CF) : Prop where
  dk : Blk wr gd 112 [.pointer (some ⟨gm, 0, none⟩), .pointer (some ⟨gm, 0, none⟩), slv s2]
  tab : TD w0 wr gm F' B' K' c'
  bks : Bks w0.heap.size wr B' K'
  ext : Ext B K B' K'
  eq : dfOf c' = wAll (dfOf cm) ((lg.map (·.1)).take k)
  log : OwnN 5 lwCells w0.heap.size 115 wr (slv s2) lg
  lsh : ∀ x ∈ lg, Sh B' K' x.2 x.1.p
  upd : Upd (dfoot gd Fn Fm B (slv s2)) w wr
  ff : ∀ x ∈ F', x ∈ Fm ∨ w.heap.size ≤ x
  fb : ∀ x ∈ B', x ∈ B ∨ w.heap.size ≤ x
theorem BL.upd0 {w0 w wr w' : World} {gd gm : Nat} {Fn Fm B : List Nat} {K : KB} {cm : CF} {s2 : Sl} {lg : List LW} {k : Nat} {F' B' : List Nat} {K' : KB} {c' : CF} (h : BL w0 w wr gd gm Fn Fm B K cm s2 lg k F' B' K' c') (hu : Upd [] wr w') : BL w0 w w' gd gm Fn Fm B K cm s2 lg k F' B' K' c' :=
  ⟨h.dk.upd hu (by simp), h.tab.upd0 hu, h.bks.upd hu (by simp), h.ext, h.eq, h.log.upd hu (by simp), h.lsh, h.upd.trans hu (fun x hx => hx) (by simp), h.ff, h.fb⟩
theorem BL.step {w0 w wr w' : World} {gd gm : Nat} {Fn Fm B : List Nat} {K : KB} {cm : CF} {s2 : Sl} {lg : List LW} {k : Nat} {F' B' : List Nat} {K' : KB} {c' : CF} (h : BL w0 w wr gd gm Fn Fm B K cm s2 lg k F' B' K' c') (hk : k < lg.length) (hd : TDoes w0 wr gm F' B' K' (wApply (nth lg k).1 (dfOf c')) w') :
    ∃ F'' B'' K'' c'', BL w0 w w' gd gm Fn Fm B K cm s2 lg (k + 1) F'' B'' K'' c'' := by
  obtain ⟨F2, B2, K2, c2, h1, h2, h3, h4, h5, h6, h7⟩ := hd
  have hw := h.upd.size
  refine ⟨F2, B2, K2, c2, ⟨h.dk.upd h5 (fun hx => ?_), h1, h2, h.ext.trans h3, ?_, h.log.upd h5 (fun x hx hx' => ?_), fun x hx => (h.lsh x hx).ext h3, h.upd.trans h5 (fun x hx => hx) (fun x hx => ?_), fun x hx => ?_, fun x hx => ?_⟩⟩
  · rcases List.mem_append.1 hx with q | q
    · exact dk_F h.dk h.tab.tab q
    · exact dk_B h.dk h.bks q
  · rw [h4, h.eq, wAll_take _ _ k (by simpa using hk)]
    congr 1
    rw [nth_get lg k hk, nth_get (lg.map (·.1)) k (by simpa using hk)]; simp
  · rcases List.mem_append.1 hx' with q | q
    · exact log_F h.log h.tab.tab x hx q
    · exact log_B h.log h.bks x hx q
  · rcases List.mem_append.1 hx with q | q
    · exact (h.ff x q).imp (fun q => (dfoot_mem _ _ _ _ _ _).2 (.inr (.inr (.inl q)))) id
    · exact (h.fb x q).imp (fun q => (dfoot_mem _ _ _ _ _ _).2 (.inr (.inr (.inr (.inl q))))) id
  · rcases h6 x hx with q | q
    · exact h.ff x q
    · exact .inr (by omega)
  · rcases h7 x hx with q | q
    · exact h.fb x q
    · exact .inr (by omega)
theorem BL.wok {w0 w wr : World} {gd gm : Nat} {Fn Fm B : List Nat} {K : KB} {cm : CF} {s2 : Sl} {lg : List LW} {k : Nat} {F' B' : List Nat} {K' : KB} {c' : CF} (h : BL w0 w wr gd gm Fn Fm B K cm s2 lg k F' B' K' c') (ho : LogOk (dfOf cm) (lg.map (·.1))) (hk : k < lg.length) : WrOk (nth lg k).1 (dfOf c') := by
  have h1 := ho.at_ k (by simpa using hk)
  rw [← h.eq, nth_get (lg.map (·.1)) k (by simpa using hk)] at h1
  rw [nth_get lg k hk]
  simpa using h1
theorem BL.step0 {w0 w wr w' : World} {gd gm : Nat} {Fn Fm B : List Nat} {K : KB} {cm : CF} {s2 : Sl} {lg : List LW} {k : Nat} {F' B' : List Nat} {K' : KB} {c' : CF} (h : BL w0 w wr gd gm Fn Fm B K cm s2 lg k F' B' K' c') (hk : k < lg.length) (hd : TDoes w0 wr gm F' B' K' (wApply (nth lg k).1 (dfOf c')) w') :
    ∃ F'' B'' K'' c'', BL w0 w w' gd gm Fn Fm B K cm s2 lg (k + 1) F'' B'' K'' c'' := h.step hk hd
theorem TDoes.later {w0 w w1 w' : World} {g : Nat} {F B : List Nat} {K : KB} {fs : DF} (h : TDoes w0 w1 g F B K fs w') (hu : Upd [] w w1) : TDoes w0 w g F B K fs w' := by
  obtain ⟨F2, B2, K2, c2, h1, h2, h3, h4, h5, h6, h7⟩ := h
  have := hu.size
  exact ⟨F2, B2, K2, c2, h1, h2, h3, h4, hu.trans h5 (by simp) (fun x hx => .inl hx), fun x hx => (h6 x hx).imp id (fun q => by omega), fun x hx => (h7 x hx).imp id (fun q => by omega)⟩
theorem BL.finish {w0 w wr w' : World} {gd gm gm' : Nat} {Fn Fm Fm' B : List Nat} {K : KB} {cn cm cm' : CF} {s2 : Sl} {lg : List LW} {k : Nat} {F' B' : List Nat} {K' : KB} {c' : CF} (h : BL w0 w wr gd gm Fn Fm B K cm s2 lg k F' B' K' c') (ho : DOk ⟨dfOf cn, dfOf cm, lg.map (·.1)⟩) (n : Int) (hm : min n.toNat lg.length = k)
    (h1 : DC w0 w' gd gm gm' F' Fm' B' K' c' cm' (.slice none 0 0) []) (h2 : dfOf cm' = dfOf c') (hu : Upd [gd] wr w') (hf : ∀ x ∈ Fm', wr.heap.size ≤ x) : DOut w0 w gd (dfoot gd Fn Fm B (slv s2)) (dBack ⟨dfOf cn, dfOf cm, lg.map (·.1)⟩ n) w' := by
  have he : dBackF ⟨dfOf cn, dfOf cm, lg.map (·.1)⟩ n = dfOf c' := by
    unfold dBackF
    rw [h.eq, ← hm]
    dsimp only
    congr 1
    rw [List.take_eq_take_iff]
    simp
  have hw := h.upd.size
  refine ⟨_, ⟨gm, gm', F', Fm', B', K', c', cm', _, [], h1, by unfold dBack; rw [he, h2]; rfl, ho.back n, rfl⟩, h.upd.trans hu (fun x hx => hx) (fun x hx => .inl (by simp at hx; subst hx; exact (dfoot_mem _ _ _ _ _ _).2 (.inl rfl))), fun x hx => ?_⟩
  rcases (dfoot_mem _ _ _ _ _ _).1 hx with rfl | hx | hx | hx | hx
  · exact .inl ((dfoot_mem _ _ _ _ _ _).2 (.inl rfl))
  · exact (h.ff x hx).imp (fun q => (dfoot_mem _ _ _ _ _ _).2 (.inr (.inr (.inl q)))) id
  · exact .inr (by have := hf x hx; omega)
  · exact (h.fb x hx).imp (fun q => (dfoot_mem _ _ _ _ _ _).2 (.inr (.inr (.inr (.inl q))))) id
  · simp [blk] at hx
set_option maxRecDepth 20000 in
set_option maxHeartbeats 4000000 in
theorem dBack_any (n : Int) (hn : I64 n) (h : DD w0 w gd G s) (hl : s.mark.length ≤ 100000) :
    Calls Tryz.prog 35 #[.pointer (some ⟨gd, 0, none⟩), .int .i64 n] w fun e w' => e = .returned (.tuple #[]) ∧ DOut w0 w gd G (dBack s n) w' := by
  obtain ⟨gn, gm, Fn, Fm, B, K, cn, cm, lv, lg, hc, rfl, ho, rfl⟩ := h.ex
  obtain ⟨ao, co, rfl, hlc, hcm, -⟩ := hc.log.rd lwCells_len
  have hmx : co ≤ 9223372036854775807 := by unfold maxLen at hcm; omega
  have c1 : w.cell? ⟨gd, 1, none⟩ = some (.pointer (some ⟨gm, 0, none⟩)) := hc.dk.cell 1
  have f0 := hc.dk.frozen 0
  have c0 : w.cell? ⟨gd, 0, none⟩ = some (.pointer (some ⟨gn, 0, none⟩)) := hc.dk.cell 0
  have hset : Upd [gd] w (w.setCell ⟨gd, 0, none⟩ (.pointer (some ⟨gm, 0, none⟩))) := (Upd.refl [gd] w).setCell _ _ (.inl (by simp))
  have hblk := hc.dk.set_ 0 (.pointer (some ⟨gm, 0, none⟩))
  have hS : ∀ x ∈ [gd], w0.heap.size ≤ x := fun x hx => by simp at hx; subst hx; exact hc.gdb
  have HBL : Hid (BL w0 w (w.setCell ⟨gd, 0, none⟩ (.pointer (some ⟨gm, 0, none⟩))) gd gm Fn Fm B K cm ⟨ao, lg.length, co⟩ lg 0 Fm B K cm) :=
    ⟨hblk, hc.mark.upd hset (fun x hx hy => by simp at hy; subst hy; exact dk_F hc.dk hc.mark.tab hx) hS, hc.bks.upd hset (fun x hx hy => by simp at hy; subst hy; exact dk_B hc.dk hc.bks hx), Ext.refl _ _, rfl, hc.log.upd hset (fun x hx hy => by simp at hy; subst hy; exact dk_L hc.dk hc.log hx), hc.lsh,
      hset.mono (fun x hx => .inl (by simp at hx; subst hx; exact (dfoot_mem _ _ _ _ _ _).2 (.inl rfl))), fun x hx => .inl hx, fun x hx => .inl hx⟩
  have HLOK := Lib.hid ho.log
  have HDK := Lib.hid ho
  have HGDB := Lib.hid hc.gdb
  have HML : Hid ((dfOf cm).length ≤ 100000) := hl
  have HN := Lib.hid hn
  clear h hc hset hblk hS ho hl
  go_enter Tryz.func35, Tryz.ntmps35
  go_wp2_with fail
  generalize w.setCell ⟨gd, 0, none⟩ (.pointer (some ⟨gm, 0, none⟩)) = w1 at *
  have c2 : w1.cell? ⟨gd, 2, none⟩ = some (.slice ao lg.length co) := HBL.out.dk.cell 2
  have hcase : (n ≤ 0 ∧ Hid (min n.toNat lg.length = 0)) ∨ (∃ m : Nat, n = (m : Int) ∧ 0 < m ∧ m ≤ lg.length ∧ Hid (min n.toNat lg.length = m)) ∨ ((lg.length : Int) < n ∧ 0 < n ∧ Hid (min n.toNat lg.length = lg.length)) := by
    unfold Hid
    rcases Int.lt_or_le 0 n with q | q
    · obtain ⟨m, rfl⟩ := Int.eq_ofNat_of_zero_le (Int.le_of_lt q)
      rcases Nat.lt_or_ge lg.length m with r | r
      · exact .inr (.inr ⟨by omega, q, by simp; omega⟩)
      · exact .inr (.inl ⟨m, rfl, by omega, r, by simp; omega⟩)
    · exact .inl ⟨q, by omega⟩
  rcases hcase with ⟨hn0, hm⟩ | ⟨m, rfl, hm0, hml, hm⟩ | ⟨hnl, hn0, hm⟩
  · rcases (show n < 0 ∨ n = 0 by omega) with q | rfl
    · have z0 : (if n < 0 then 0 else n) = 0 := if_pos q
      have HM := Lib.hid hm
      clear hm
      go_wp2_with fail
      go_quiet (fail)
      have HBQ : Hid (BL w0 w (w1.drewN nq) gd gm Fn Fm B K cm ⟨ao, lg.length, co⟩ lg 0 Fm B K cm) := HBL.out.upd0 ((Upd.refl [] w1).drewN _)
      generalize w1.drewN nq = w2 at *
      clear HBL c2 c1 f0 c0
      go_wp2_with fail
      go_loopw [27] (fun i wr => ∃ (k : Nat) (F' B' : List Nat) (K' : KB) (c' : CF), k ≤ 0 ∧ i = .int .i64 k ∧ Hid (BL w0 w wr gd gm Fn Fm B K cm ⟨ao, lg.length, co⟩ lg k F' B' K' c')) (fun i _ => 0 - (intOf i).toNat)
      case atStart => exact ⟨0, Fm, B, K, cm, Nat.zero_le _, rfl, HBQ⟩
      case round =>
        obtain ⟨k, F', B', K', c', hk, rfl, hb⟩ := hrel
        clear HBQ
        by_cases hlt : k < 0
        · exact absurd hlt (Nat.not_lt_zero _)
        · obtain rfl : k = 0 := by omega
          have HLEN : Hid (c'.length ≤ 100000) := by
            have h1 := wAll_len (HLOK.out.take 0) HML.out
            rw [← hb.out.eq, df_len] at h1
            exact h1
          go_wp2_with fail
          (with_reducible refine (mark_any (some ⟨gm, 0, none⟩) ⟨ao, lg.length, co⟩ hb.out.dk HGDB.out hb.out.tab hb.out.bks HLEN.out).mono ?_)
          rintro e w5 ⟨rfl, gm', Fm', cm', h', hd', hu, hfr⟩
          have HF := Lib.hid (hb.out.finish HDK.out n HM.out h' hd' hu hfr)
          clear h' hd' hu hfr hb
          go_wp2_with fail
          go_end0
          exact ⟨rfl, HF.out⟩
    · have HM := Lib.hid hm
      clear hm
      go_wp2_with fail
      go_quiet (fail)
      have HBQ : Hid (BL w0 w (w1.drewN nq) gd gm Fn Fm B K cm ⟨ao, lg.length, co⟩ lg 0 Fm B K cm) := HBL.out.upd0 ((Upd.refl [] w1).drewN _)
      generalize w1.drewN nq = w2 at *
      clear HBL c2 c1 f0 c0
      go_wp2_with fail
      go_loopw [27] (fun i wr => ∃ (k : Nat) (F' B' : List Nat) (K' : KB) (c' : CF), k ≤ 0 ∧ i = .int .i64 k ∧ Hid (BL w0 w wr gd gm Fn Fm B K cm ⟨ao, lg.length, co⟩ lg k F' B' K' c')) (fun i _ => 0 - (intOf i).toNat)
      case atStart => exact ⟨0, Fm, B, K, cm, Nat.zero_le _, rfl, HBQ⟩
      case round =>
        obtain ⟨k, F', B', K', c', hk, rfl, hb⟩ := hrel
        clear HBQ
        by_cases hlt : k < 0
        · exact absurd hlt (Nat.not_lt_zero _)
        · obtain rfl : k = 0 := by omega
          have HLEN : Hid (c'.length ≤ 100000) := by
            have h1 := wAll_len (HLOK.out.take 0) HML.out
            rw [← hb.out.eq, df_len] at h1
            exact h1
          go_wp2_with fail
          (with_reducible refine (mark_any (some ⟨gm, 0, none⟩) ⟨ao, lg.length, co⟩ hb.out.dk HGDB.out hb.out.tab hb.out.bks HLEN.out).mono ?_)
          rintro e w5 ⟨rfl, gm', Fm', cm', h', hd', hu, hfr⟩
          have HF := Lib.hid (hb.out.finish HDK.out 0 HM.out h' hd' hu hfr)
          clear h' hd' hu hfr hb
          go_wp2_with fail
          go_end0
          exact ⟨rfl, HF.out⟩
  · have HM := Lib.hid hm
    clear hm
    go_wp2_with fail
    go_quiet (fail)
    have HBQ : Hid (BL w0 w (w1.drewN nq) gd gm Fn Fm B K cm ⟨ao, lg.length, co⟩ lg 0 Fm B K cm) := HBL.out.upd0 ((Upd.refl [] w1).drewN _)
    generalize w1.drewN nq = w2 at *
    clear HBL c2 c1 f0 c0
    go_wp2_with fail
    go_loopw [27] (fun i wr => ∃ (k : Nat) (F' B' : List Nat) (K' : KB) (c' : CF), k ≤ m ∧ i = .int .i64 k ∧ Hid (BL w0 w wr gd gm Fn Fm B K cm ⟨ao, lg.length, co⟩ lg k F' B' K' c')) (fun i _ => m - (intOf i).toNat)
    case atStart => exact ⟨0, Fm, B, K, cm, Nat.zero_le _, rfl, HBQ⟩
    case round =>
      obtain ⟨k, F', B', K', c', hk, rfl, hb⟩ := hrel
      clear HBQ
      by_cases hlt : k < m
      · have hkl : k < lg.length := by omega
        obtain ⟨la, lc, he, -, -, hcell⟩ := hb.out.log.rd lwCells_len
        have e1 : ao = la := (Value.slice.inj he).1
        obtain ⟨lb, loff, e2, hcell⟩ := hcell (by intro h; simp [h] at hkl)
        obtain rfl : ao = some ⟨lb, loff, none⟩ := e1.trans e2
        have d0 : wr.cell? ⟨lb, loff + k * 5, none⟩ = some (.int .i64 (nth lg k).1.kd) := hcell k hkl 0 (by omega)
        have d1 : wr.cell? ⟨lb, loff + k * 5 + 1, none⟩ = some (sv (nth lg k).1.nm) := hcell k hkl 1 (by omega)
        have d2 : wr.cell? ⟨lb, loff + k * 5 + 2, none⟩ = some (sv (nth lg k).1.tn) := hcell k hkl 2 (by omega)
        have d3 : wr.cell? ⟨lb, loff + k * 5 + 3, none⟩ = some (slv (nth lg k).2) := hcell k hkl 3 (by omega)
        have d4 : wr.cell? ⟨lb, loff + k * 5 + 4, none⟩ = some (.int .i64 (nth lg k).1.n) := hcell k hkl 4 (by omega)
        have HW := Lib.hid (hb.out.wok HLOK.out hkl)
        have HSH := Lib.hid (hb.out.lsh (nth lg k) (by rw [nth_get _ _ hkl]; exact List.getElem_mem _))
        have HST := Lib.hid (fun w' hd => hb.out.step0 (w' := w') hkl hd)
        clear he hcell e1 e2
        generalize nth lg k = x at *
        obtain ⟨⟨kd, nm, tn, p, nn⟩, ⟨pa, pn, pk⟩⟩ := x
        simp only [slv, sv] at d0 d1 d2 d3 d4
        have q1 : (0 : Int) ≤ k := by omega
        have q2 : (k : Int) < m := by omega
        have hua : Upd [] wr (wr.alloc (.cells #[.int .i64 kd, sv nm, sv tn, .slice pa pn pk, .int .i64 nn] 115)) := (Upd.refl [] wr).alloc _
        have HB := Lib.hid (hb.out.upd0 hua)
        have hbx := Blk.new wr 115 [.int .i64 kd, sv nm, sv tn, .slice pa pn pk, .int .i64 nn]
        have HBX := Lib.hid hbx
        have HUA := Lib.hid hua
        clear hb hua hbx
        go_wp2_with fail
        have b0 := HBX.out.cell 0
        have b1 := HBX.out.cell 1
        have b2 := HBX.out.cell 2
        have b3 := HBX.out.cell 3
        have b4 := HBX.out.cell 4
        simp only [List.getElem?_cons_zero, List.getElem?_cons_succ] at b0 b1 b2 b3 b4
        generalize wr.alloc (.cells #[.int .i64 kd, sv nm, sv tn, .slice pa pn pk, .int .i64 nn] 115) = w3 at *
        have c0 : w3.cell? ⟨gd, 0, none⟩ = some (.pointer (some ⟨gm, 0, none⟩)) := HB.out.dk.cell 0
        clear d0 d1 d2 d3 d4
        go_still_tail 5, (by kernel_rfl)
        change wpList _ _ _ _ _ w3.drew
        go_wp2_with fail
        (with_reducible refine (apply_any ⟨kd, nm, tn, p, nn⟩ ⟨pa, pn, pk⟩ HW.out (HB.out.tab.upd0 (Upd.refl [] w3).drew) (HB.out.bks.upd (Upd.refl [] w3).drew (by simp)) HSH.out).mono ?_)
        rintro e w4 ⟨rfl, hd⟩
        have HD : Hid (TDoes w0 wr gm F' B' K' (wApply ⟨kd, nm, tn, p, nn⟩ (dfOf c')) w4) := hd.later HUA.out.drew
        clear hd c0
        obtain ⟨F4, B4, K4, c4, hb4⟩ := HST.out w4 HD.out
        have HB4 := Lib.hid hb4
        clear hb4 HST
        go_wp2_with fail
        go_roundw
        case rel => exact ⟨k + 1, F4, B4, K4, c4, by omega, by go_num, HB4⟩
        case measure => simp [intOf]; omega
      · obtain rfl : m = k := by omega
        have HLEN : Hid (c'.length ≤ 100000) := by
          have h1 := wAll_len (HLOK.out.take m) HML.out
          rw [← hb.out.eq, df_len] at h1
          exact h1
        go_wp2_with fail
        (with_reducible refine (mark_any (some ⟨gm, 0, none⟩) ⟨ao, lg.length, co⟩ hb.out.dk HGDB.out hb.out.tab hb.out.bks HLEN.out).mono ?_)
        rintro e w5 ⟨rfl, gm', Fm', cm', h', hd', hu, hfr⟩
        have HF := Lib.hid (hb.out.finish HDK.out (m : Int) HM.out h' hd' hu hfr)
        clear h' hd' hu hfr hb
        go_wp2_with fail
        go_end0
        exact ⟨rfl, HF.out⟩
  · have HM := Lib.hid hm
    clear hm
    go_wp2_with fail
    go_quiet (fail)
    have HBQ : Hid (BL w0 w (w1.drewN nq) gd gm Fn Fm B K cm ⟨ao, lg.length, co⟩ lg 0 Fm B K cm) := HBL.out.upd0 ((Upd.refl [] w1).drewN _)
    generalize w1.drewN nq = w2 at *
    clear HBL c2 c1 f0 c0
    go_wp2_with fail
    go_loopw [27] (fun i wr => ∃ (k : Nat) (F' B' : List Nat) (K' : KB) (c' : CF), k ≤ lg.length ∧ i = .int .i64 k ∧ Hid (BL w0 w wr gd gm Fn Fm B K cm ⟨ao, lg.length, co⟩ lg k F' B' K' c')) (fun i _ => lg.length - (intOf i).toNat)
    case atStart => exact ⟨0, Fm, B, K, cm, Nat.zero_le _, rfl, HBQ⟩
    case round =>
      obtain ⟨k, F', B', K', c', hk, rfl, hb⟩ := hrel
      clear HBQ
      by_cases hlt : k < lg.length
      · have hkl : k < lg.length := by omega
        obtain ⟨la, lc, he, -, -, hcell⟩ := hb.out.log.rd lwCells_len
        have e1 : ao = la := (Value.slice.inj he).1
        obtain ⟨lb, loff, e2, hcell⟩ := hcell (by intro h; simp [h] at hkl)
        obtain rfl : ao = some ⟨lb, loff, none⟩ := e1.trans e2
        have d0 : wr.cell? ⟨lb, loff + k * 5, none⟩ = some (.int .i64 (nth lg k).1.kd) := hcell k hkl 0 (by omega)
        have d1 : wr.cell? ⟨lb, loff + k * 5 + 1, none⟩ = some (sv (nth lg k).1.nm) := hcell k hkl 1 (by omega)
        have d2 : wr.cell? ⟨lb, loff + k * 5 + 2, none⟩ = some (sv (nth lg k).1.tn) := hcell k hkl 2 (by omega)
        have d3 : wr.cell? ⟨lb, loff + k * 5 + 3, none⟩ = some (slv (nth lg k).2) := hcell k hkl 3 (by omega)
        have d4 : wr.cell? ⟨lb, loff + k * 5 + 4, none⟩ = some (.int .i64 (nth lg k).1.n) := hcell k hkl 4 (by omega)
        have HW := Lib.hid (hb.out.wok HLOK.out hkl)
        have HSH := Lib.hid (hb.out.lsh (nth lg k) (by rw [nth_get _ _ hkl]; exact List.getElem_mem _))
        have HST := Lib.hid (fun w' hd => hb.out.step0 (w' := w') hkl hd)
        clear he hcell e1 e2
        generalize nth lg k = x at *
        obtain ⟨⟨kd, nm, tn, p, nn⟩, ⟨pa, pn, pk⟩⟩ := x
        simp only [slv, sv] at d0 d1 d2 d3 d4
        have q1 : (0 : Int) ≤ k := by omega
        have q2 : (k : Int) < lg.length := by omega
        have hua : Upd [] wr (wr.alloc (.cells #[.int .i64 kd, sv nm, sv tn, .slice pa pn pk, .int .i64 nn] 115)) := (Upd.refl [] wr).alloc _
        have HB := Lib.hid (hb.out.upd0 hua)
        have hbx := Blk.new wr 115 [.int .i64 kd, sv nm, sv tn, .slice pa pn pk, .int .i64 nn]
        have HBX := Lib.hid hbx
        have HUA := Lib.hid hua
        clear hb hua hbx
        go_wp2_with fail
        have b0 := HBX.out.cell 0
        have b1 := HBX.out.cell 1
        have b2 := HBX.out.cell 2
        have b3 := HBX.out.cell 3
        have b4 := HBX.out.cell 4
        simp only [List.getElem?_cons_zero, List.getElem?_cons_succ] at b0 b1 b2 b3 b4
        generalize wr.alloc (.cells #[.int .i64 kd, sv nm, sv tn, .slice pa pn pk, .int .i64 nn] 115) = w3 at *
        have c0 : w3.cell? ⟨gd, 0, none⟩ = some (.pointer (some ⟨gm, 0, none⟩)) := HB.out.dk.cell 0
        clear d0 d1 d2 d3 d4
        go_still_tail 5, (by kernel_rfl)
        change wpList _ _ _ _ _ w3.drew
        go_wp2_with fail
        (with_reducible refine (apply_any ⟨kd, nm, tn, p, nn⟩ ⟨pa, pn, pk⟩ HW.out (HB.out.tab.upd0 (Upd.refl [] w3).drew) (HB.out.bks.upd (Upd.refl [] w3).drew (by simp)) HSH.out).mono ?_)
        rintro e w4 ⟨rfl, hd⟩
        have HD : Hid (TDoes w0 wr gm F' B' K' (wApply ⟨kd, nm, tn, p, nn⟩ (dfOf c')) w4) := hd.later HUA.out.drew
        clear hd c0
        obtain ⟨F4, B4, K4, c4, hb4⟩ := HST.out w4 HD.out
        have HB4 := Lib.hid hb4
        clear hb4 HST
        go_wp2_with fail
        go_roundw
        case rel => exact ⟨k + 1, F4, B4, K4, c4, by omega, by go_num, HB4⟩
        case measure => simp [intOf]; omega
      · obtain rfl : k = lg.length := by omega
        have HLEN : Hid (c'.length ≤ 100000) := by
          have h1 := wAll_len (HLOK.out.take lg.length) HML.out
          rw [← hb.out.eq, df_len] at h1
          exact h1
        go_wp2_with fail
        (with_reducible refine (mark_any (some ⟨gm, 0, none⟩) ⟨ao, lg.length, co⟩ hb.out.dk HGDB.out hb.out.tab hb.out.bks HLEN.out).mono ?_)
        rintro e w5 ⟨rfl, gm', Fm', cm', h', hd', hu, hfr⟩
        have HF := Lib.hid (hb.out.finish HDK.out n HM.out h' hd' hu hfr)
        clear h' hd' hu hfr hb
        go_wp2_with fail
        go_end0
        exact ⟨rfl, HF.out⟩
end
end Go.Proofs.YtmhojaiajhdlcaaGreat
namespace Go.Proofs.YtmhojaiajhdlcaaGreat
open Go.RowKit
set_option linter.unusedSimpArgs false
set_option linter.unusedVariables false
set_option maxRecDepth 20000 in
set_option maxHeartbeats 1000000 in
theorem dnamed_lo (w : World) (s : ByteArray) (h : s.size < 1) :
    Calls Tryz.prog 64 #[sv s] w fun e w' => e = .returned (.bool (nameOk s)) ∧ w = w' := by
  have q : ¬ (1 : Int) ≤ s.size := by omega
  have HN : Hid (nameOk s = false) := by unfold Hid nameOk; exact decide_eq_false (fun x => by omega)
  go_enter Tryz.func64, Tryz.ntmps64
  go_wp2_with fail
  go_loopw [3, 4] (fun x i wr => ∃ (k : Nat) (b : Bool), k ≤ s.size ∧ i = .int .i64 k ∧ x = .bool b ∧ w = wr ∧ Hid (b = true → 1 ≤ s.size ∧ s.size ≤ 32 ∧ ∀ j (h : j < s.size), j < k → 33 ≤ (s[j]).toNat ∧ (s[j]).toNat ≤ 126) ∧ Hid (b = false → nameOk s = false)) (fun _ i _ => s.size - (intOf i).toNat)
  case atStart => exact ⟨0, false, Nat.zero_le _, rfl, rfl, rfl, fun h => absurd h (by simp), fun _ => HN.out⟩
  case round =>
    obtain ⟨k, b, hk, rfl, rfl, rfl, ht, hf⟩ := hrel
    by_cases hlt : k < s.size
    · exact absurd hlt (by omega)
    · obtain rfl : k = s.size := by omega
      have HN : Hid (nameOk s = b) := by
        cases b with
        | false => exact hf.out rfl
        | true => obtain ⟨t1, t2, t3⟩ := ht.out rfl; unfold Hid nameOk; exact decide_eq_true ⟨t1, t2, fun j hj => t3 j hj hj⟩
      clear ht hf
      go_wp2_with fail
      go_ret
      exact ⟨by rw [HN.out]; rfl, rfl⟩
set_option maxRecDepth 20000 in
set_option maxHeartbeats 1000000 in
theorem dnamed_hi (w : World) (s : ByteArray) (h : 32 < s.size) :
    Calls Tryz.prog 64 #[sv s] w fun e w' => e = .returned (.bool (nameOk s)) ∧ w = w' := by
  have q : (1 : Int) ≤ s.size := by omega
  have q' : ¬ (s.size : Int) ≤ 32 := by omega
  have HN : Hid (nameOk s = false) := by unfold Hid nameOk; exact decide_eq_false (fun x => by omega)
  go_enter Tryz.func64, Tryz.ntmps64
  go_wp2_with fail
  go_loopw [3, 4] (fun x i wr => ∃ (k : Nat) (b : Bool), k ≤ s.size ∧ i = .int .i64 k ∧ x = .bool b ∧ w = wr ∧ Hid (b = true → 1 ≤ s.size ∧ s.size ≤ 32 ∧ ∀ j (h : j < s.size), j < k → 33 ≤ (s[j]).toNat ∧ (s[j]).toNat ≤ 126) ∧ Hid (b = false → nameOk s = false)) (fun _ i _ => s.size - (intOf i).toNat)
  case atStart => exact ⟨0, false, Nat.zero_le _, rfl, rfl, rfl, fun h => absurd h (by simp), fun _ => HN.out⟩
  case round =>
    obtain ⟨k, b, hk, rfl, rfl, rfl, ht, hf⟩ := hrel
    by_cases hlt : k < s.size
    · have q1 : (k : Int) < s.size := by omega
      have q0 : (0 : Int) ≤ k := by omega
      cases b with
      | true =>
        exact absurd (ht.out rfl).2.1 (by omega)
      | false =>
        have HN := Lib.hid (hf.out rfl)
        clear ht hf
        go_wp2_with fail
        go_ret
        exact ⟨by rw [HN.out]; rfl, rfl⟩
    · obtain rfl : k = s.size := by omega
      have HN : Hid (nameOk s = b) := by
        cases b with
        | false => exact hf.out rfl
        | true => obtain ⟨t1, t2, t3⟩ := ht.out rfl; unfold Hid nameOk; exact decide_eq_true ⟨t1, t2, fun j hj => t3 j hj hj⟩
      clear ht hf
      go_wp2_with fail
      go_ret
      exact ⟨by rw [HN.out]; rfl, rfl⟩
set_option maxRecDepth 20000 in
set_option maxHeartbeats 1000000 in
theorem dnamed_mid (w : World) (s : ByteArray) (h : 1 ≤ s.size) (h2 : s.size ≤ 32) :
    Calls Tryz.prog 64 #[sv s] w fun e w' => e = .returned (.bool (nameOk s)) ∧ w = w' := by
  have q : (1 : Int) ≤ s.size := by omega
  have q' : (s.size : Int) ≤ 32 := by omega
  go_enter Tryz.func64, Tryz.ntmps64
  go_wp2_with fail
  go_loopw [3, 4] (fun x i wr => ∃ (k : Nat) (b : Bool), k ≤ s.size ∧ i = .int .i64 k ∧ x = .bool b ∧ w = wr ∧ Hid (b = true → 1 ≤ s.size ∧ s.size ≤ 32 ∧ ∀ j (h : j < s.size), j < k → 33 ≤ (s[j]).toNat ∧ (s[j]).toNat ≤ 126) ∧ Hid (b = false → nameOk s = false)) (fun _ i _ => s.size - (intOf i).toNat)
  case atStart => exact ⟨0, true, Nat.zero_le _, rfl, rfl, rfl, fun _ => ⟨by omega, by omega, fun j _ h => absurd h (by omega)⟩, fun h => absurd h (by simp)⟩
  case round =>
    obtain ⟨k, b, hk, rfl, rfl, rfl, ht, hf⟩ := hrel
    by_cases hlt : k < s.size
    · have q1 : (k : Int) < s.size := by omega
      have q0 : (0 : Int) ≤ k := by omega
      cases b with
      | true =>
        obtain ⟨t1, t2, t3⟩ := ht.out rfl
        have HT3 := Lib.hid t3
        clear t3 ht hf
        by_cases b1 : 33 ≤ (s[k]).toNat
        · have c1 : ¬ ((s[k]).toNat : Int) < 33 := by omega
          by_cases b2 : (s[k]).toNat ≤ 126
          · have c2 : ¬ (126 : Int) < ((s[k]).toNat : Int) := by omega
            have HB1 := Lib.hid b1
            have HB2 := Lib.hid b2
            have e1 : decide (33 ≤ (s[k]).toNat) = true := decide_eq_true b1
            have e2 : decide ((s[k]).toNat ≤ 126) = true := decide_eq_true b2
            clear b1 b2
            go_wp2_with fail
            go_roundw
            case rel => exact ⟨k + 1, true, by omega, by go_num, by first | rfl | exact congrArg Value.bool (decide_eq_true (by omega)), by first | trivial | rfl, fun _ => ⟨t1, t2, fun j hj hjk => by
              rcases Nat.lt_or_eq_of_le (Nat.le_of_lt_succ hjk) with h | h
              · exact HT3.out j hj h
              · subst h; exact ⟨HB1.out, HB2.out⟩⟩, fun h => absurd h (by simp)⟩
            case measure => (try simp [intOf]) <;> omega
          · have c2 : (126 : Int) < ((s[k]).toNat : Int) := by omega
            have HN : Hid (nameOk s = false) := by unfold Hid nameOk; exact decide_eq_false (fun h => b2 (h.2.2 k hlt).2)
            have HB1 := Lib.hid b1
            have e1 : decide (33 ≤ (s[k]).toNat) = true := decide_eq_true b1
            have e2 : decide ((s[k]).toNat ≤ 126) = false := decide_eq_false b2
            clear b1 b2
            go_wp2_with fail
            go_roundw
            case rel => exact ⟨k + 1, false, by omega, by go_num, by first | rfl | exact congrArg Value.bool (decide_eq_false (by omega)), by first | trivial | rfl, fun h => absurd h (by simp), fun _ => HN.out⟩
            case measure => (try simp [intOf]) <;> omega
        · have c1 : ((s[k]).toNat : Int) < 33 := by omega
          have HN : Hid (nameOk s = false) := by unfold Hid nameOk; exact decide_eq_false (fun h => b1 (h.2.2 k hlt).1)
          have e1 : decide (33 ≤ (s[k]).toNat) = false := decide_eq_false b1
          clear b1
          go_wp2_with fail
          go_roundw
          case rel => exact ⟨k + 1, false, by omega, by go_num, by first | rfl | exact congrArg Value.bool (decide_eq_false (by omega)), by first | trivial | rfl, fun h => absurd h (by simp), fun _ => HN.out⟩
          case measure => (try simp [intOf]) <;> omega
      | false =>
        have HN := Lib.hid (hf.out rfl)
        clear ht hf
        go_wp2_with fail
        go_ret
        exact ⟨by rw [HN.out]; rfl, rfl⟩
    · obtain rfl : k = s.size := by omega
      have HN : Hid (nameOk s = b) := by
        cases b with
        | false => exact hf.out rfl
        | true => obtain ⟨t1, t2, t3⟩ := ht.out rfl; unfold Hid nameOk; exact decide_eq_true ⟨t1, t2, fun j hj => t3 j hj hj⟩
      clear ht hf
      go_wp2_with fail
      go_ret
      exact ⟨by rw [HN.out]; rfl, rfl⟩
theorem dnamed_any (w : World) (s : ByteArray) :
    Calls Tryz.prog 64 #[sv s] w fun e w' => e = .returned (.bool (nameOk s)) ∧ w = w' := by
  rcases (show s.size < 1 ∨ 32 < s.size ∨ (1 ≤ s.size ∧ s.size ≤ 32) by omega) with h | h | ⟨h, h2⟩
  · exact dnamed_lo w s h
  · exact dnamed_hi w s h
  · exact dnamed_mid w s h h2
end Go.Proofs.YtmhojaiajhdlcaaGreat
