/- Chapter 22: the bytes of all files together; a copy of the files; Mark. -/
import Derived.Test.YtmhdhnipljonlaaDiskRead
namespace Go.Proofs.Ytmhdhnipljonlaa
open Go.RowKit
set_option linter.unusedSimpArgs false
set_option linter.unusedVariables false
theorem snoc_set {ν : Type} [Inhabited ν] {l : List (ByteArray × ν)} (h : Rising strLt l) (k : Nat) (hk : k < l.length) : tSet strLt (l.take k) (nth l k).1 (nth l k).2 = l.take (k + 1) := by
  have hlt : (l.take k).length = k := by rw [List.length_take]; omega
  have hb : below strLt (l.take k) (nth l k).1 = k := below_eq _ _ _ (by rw [hlt]; exact Nat.le_refl _) (fun j hj => by rw [nth_take _ _ _ hj]; exact h j k hj hk) (fun q => absurd q (by rw [hlt]; omega))
  have hi : isIn strLt (l.take k) (nth l k).1 = false := by unfold isIn; rw [hb, hlt]; simp
  unfold tSet
  rw [hi, hb, if_neg (by simp), Nat.add_zero, take_succ_nth l k hk, List.take_of_length_le (by omega), List.drop_of_length_le (by omega)]
section
variable {w0 w w' : World} {gd : Nat} {G : List Nat} {s : DS}
set_option maxRecDepth 20000 in
set_option maxHeartbeats 2000000 in
theorem dTotal_any (h : DD w0 w gd G s) (hl : s.now.length ≤ 100000) :
    Calls Try.prog 41 #[.pointer (some ⟨gd, 0, none⟩)] w fun e w' => e = .returned (.int .i64 (dTotal s.now : Int)) ∧ Upd [] w w' := by
  have htot := h.ok.tot
  obtain ⟨gn, gm, Fn, Fm, B, K, cn, cm, lv, lg, hc, rfl, ho, rfl⟩ := h.ex
  have c0 : w.cell? ⟨gd, 0, none⟩ = some (.pointer (some ⟨gn, 0, none⟩)) := hc.dk.cell 0
  have HC := Lib.hid hc
  have hl2 : (rowsF cn).length ≤ 100000 := by rw [rowsF_len]; rwa [df_len] at hl
  have HL := Lib.hid hl2
  have hlc : cn.length ≤ 100000 := by rwa [df_len] at hl
  dsimp only at htot ⊢
  have HT := Lib.hid htot
  have C0 := Lib.hid c0
  clear hc h ho hl hl2 htot
  go_enter Try.func41, Try.ntmps41
  go_wp2_with fail
  (with_reducible refine (txSL_Len (cn.length : Int) HC.out.now.tab (by rw [rowsF_len])).mono ?_)
  rintro e w1 ⟨rfl, rfl⟩
  go_wp2_with fail
  go_loopw [3, 13] (fun v i wr => ∃ k : Nat, k ≤ cn.length ∧ i = .int .i64 k ∧ v = .int .i64 (dTotal ((dfOf cn).take k) : Int) ∧ Hid (Upd [] w wr)) (fun _ i _ => cn.length - (intOf i).toNat)
  case atStart => exact ⟨0, Nat.zero_le _, rfl, rfl, Upd.refl _ _⟩
  case round =>
    obtain ⟨k, hk, rfl, rfl, hu⟩ := hrel
    clear c0
    have c0 := hu.out.cell C0.out (by simp)
    by_cases hlt : k < cn.length
    · have hat : tAt (⟨#[]⟩ : ByteArray) (⟨none, 0, 0⟩ : Sl) (rowsF cn) (k : Int) = ((nth cn k).1, (nth cn k).2.1, true) := by
        rw [tAt_at _ _ (rowsF cn) k (by rw [rowsF_len]; exact hlt), tMap_nth id (fun x : Sl × List UInt8 => x.1) cn k hlt]; rfl
      have hst : dTotal ((dfOf cn).take (k + 1)) = dTotal ((dfOf cn).take k) + (nth cn k).2.2.length := by
        rw [total_take (dfOf cn) k (by rw [df_len]; exact hlt), tMap_nth id (fun x : Sl × List UInt8 => x.2) cn k hlt]
      have hle := total_le (dfOf cn) (k + 1)
      have hle2 := HT.out
      have hsh := (HC.out.now.sh _ (nth_mem k hlt)).n
      have HAT := Lib.hid hat
      have HST := Lib.hid hst
      rw [hst] at hle
      clear hat hst
      generalize nth cn k = c at *
      obtain ⟨key, ⟨a, n, cp⟩, bs⟩ := c
      dsimp only at hsh hle
      subst hsh
      generalize dTotal ((dfOf cn).take k) = T at *
      have hT : T + bs.length ≤ 16777216 := by omega
      have HI : Hid (I64 (k : Int)) := ⟨by omega, by omega⟩
      clear hle hle2
      go_wp2_with fail
      (with_reducible refine (txSL_At (k : Int) key ⟨a, bs.length, cp⟩ true HI.out (HC.out.now.tab.upd0 hu.out) HL.out HAT.out).mono ?_)
      rintro e w2 ⟨rfl, hu2⟩
      have HU2 := Lib.hid (hu.out.seq hu2)
      clear hu2 hu
      go_wp2_with fail
      go_roundw
      case rel => exact ⟨k + 1, by omega, by go_num, by rw [HST.out]; go_num, HU2⟩
      case measure => simp [intOf]; omega
    · obtain rfl : k = cn.length := by omega
      have he : (dfOf cn).take cn.length = dfOf cn := List.take_of_length_le (by rw [df_len]; exact Nat.le_refl _)
      obtain ⟨T, hT⟩ : ∃ T, dTotal (dfOf cn) = T := ⟨_, rfl⟩
      have HTT := Lib.hid hT
      rw [he, hT]
      clear hT
      go_wp2_with fail
      go_ret
      exact ⟨by rw [HTT.out]; rfl, hu.out⟩
end
section
variable {w0 w w' : World} {g : Nat} {F B : List Nat} {K : KB} {cs : CF}
set_option maxRecDepth 20000 in
set_option maxHeartbeats 2000000 in
theorem copied_any (ht : TD w0 w g F B K cs) (hB : Bks w0.heap.size w B K) (hlen : cs.length ≤ 100000) :
    Calls Try.prog 64 #[.pointer (some ⟨g, 0, none⟩)] w fun e w' => ∃ g' F' cs', e = .returned (.pointer (some ⟨g', 0, none⟩)) ∧ TD w0 w' g' F' B K cs' ∧ Full cs' ∧ dfOf cs' = dfOf cs ∧ Upd [] w w' ∧ (∀ x ∈ F', w.heap.size ≤ x) := by
  have HT := Lib.hid ht
  have HB := Lib.hid hB
  have HR := Lib.hid ht.risD
  have hrl : (rowsF cs).length ≤ 100000 := by rw [rowsF_len]; exact hlen
  have HRL := Lib.hid hrl
  clear ht hB hrl
  go_enter Try.func64, Try.ntmps64
  go_wp2_with fail
  (with_reducible refine (txSL_New w0 w HT.out.tab.old).mono ?_)
  rintro e w1 ⟨g1, F1, rfl, h1, hu1, hf1⟩
  have H1 : Hid (TD w0 w1 g1 F1 B K []) := ⟨h1, by simp, by simp, by simp⟩
  have HU1 := Lib.hid hu1
  have HF1 := Lib.hid hf1
  clear h1 hu1 hf1
  go_wp2_with fail
  (with_reducible refine (txSL_Len (cs.length : Int) (HT.out.tab.upd0 HU1.out) (by rw [rowsF_len])).mono ?_)
  rintro e w2 ⟨rfl, rfl⟩
  go_wp2_with fail
  go_loopw [11] (fun i wr => ∃ (k : Nat) (Fo : List Nat) (co : CF), k ≤ cs.length ∧ i = .int .i64 k ∧ Hid (TD w0 wr g1 Fo B K co) ∧ Hid (Full co) ∧ Hid (dfOf co = (dfOf cs).take k) ∧ Hid (Upd [] w wr) ∧ Hid (∀ x ∈ Fo, w.heap.size ≤ x)) (fun i _ => cs.length - (intOf i).toNat)
  case atStart => exact ⟨0, F1, [], Nat.zero_le _, rfl, H1, fun c hc => by simp at hc, rfl, HU1, HF1⟩
  case round =>
    obtain ⟨k, Fo, co, hk, rfl, ho, hfu, hdf, hu, hfr⟩ := hrel
    clear H1 HU1 HF1
    by_cases hlt : k < cs.length
    · have hat : tAt (⟨#[]⟩ : ByteArray) (⟨none, 0, 0⟩ : Sl) (rowsF cs) (k : Int) = ((nth cs k).1, (nth cs k).2.1, true) := by
        rw [tAt_at _ _ (rowsF cs) k (by rw [rowsF_len]; exact hlt), tMap_nth id (fun x : Sl × List UInt8 => x.1) cs k hlt]; rfl
      have hst : tSet strLt ((dfOf cs).take k) (nth cs k).1 (nth cs k).2.2 = (dfOf cs).take (k + 1) := by
        rw [← snoc_set HR.out k (by rw [df_len]; exact hlt), tMap_nth id (fun x : Sl × List UInt8 => x.2) cs k hlt]; rfl
      have hsh := HT.out.sh _ (nth_mem k hlt)
      have hol : co.length = k := by
        have := congrArg List.length hdf.out
        rw [df_len, List.length_take, df_len] at this; omega
      have HAT := Lib.hid hat
      have HST := Lib.hid hst
      clear hat hst
      generalize nth cs k = c at *
      obtain ⟨key, ⟨a, n, cp⟩, bs⟩ := c
      have hn := hsh.n
      have hcp := hsh.k
      dsimp only at hn hcp
      subst hn
      have HSC := Lib.hid (hsh.cut bs.length (Nat.le_refl _))
      have HI : Hid (I64 (k : Int)) := ⟨by omega, by omega⟩
      have HOL : Hid (co.length ≤ 100000) := by unfold Hid; omega
      have hcut := fun W => run_cut_hm (P := Try.prog) (size := 1) Try.underlying27 (by kernel_rfl) a bs.length cp bs.length hcp W
      clear hsh hol
      go_wp2_with fail
      (with_reducible refine (txSL_At (k : Int) key ⟨a, bs.length, cp⟩ true HI.out (HT.out.tab.upd0 hu.out) HRL.out HAT.out).mono ?_)
      rintro e w2 ⟨rfl, hu2⟩
      have HU2 := Lib.hid hu2
      clear hu2
      go_wp2_with fail
      (with_reducible refine (td_set key ⟨a, bs.length, bs.length⟩ (bs.take bs.length) (ho.out.tab.upd0 HU2.out) (HB.out.upd (hu.out.seq HU2.out) (by simp)) HOL.out (fun d hd hne => ⟨ho.out.sh d hd, ho.out.gr d hd, ap_full (Nat.le_refl _)⟩) ho.out.ap HSC.out (Gr.full (Nat.le_refl _))).mono ?_)
      rintro e w3 ⟨⟨r, rfl⟩, F3, h3, hb3, hu3, hf3⟩
      have hw := hu.out.size
      have hw2 := HU2.out.size
      have H3 := Lib.hid h3
      have HU3 : Hid (Upd [] w w3) := (hu.out.seq HU2.out).trans hu3 (by simp) (fun x hx => .inr (hfr.out x hx))
      have HF3 : Hid (∀ x ∈ F3, w.heap.size ≤ x) := fun x hx => by
        rcases hf3 x hx with q | q
        · exact hfr.out x q
        · omega
      have HD3 : Hid (dfOf (tSet strLt co key (⟨a, bs.length, bs.length⟩, bs.take bs.length)) = (dfOf cs).take (k + 1)) := by unfold Hid; rw [df_set, hdf.out, List.take_length]; exact HST.out
      have HFU3 : Hid (Full (tSet strLt co key (⟨a, bs.length, bs.length⟩, bs.take bs.length))) := fun c hc => by
        rcases tSet_memS ho.out.ris key _ c hc with rfl | ⟨q, -⟩
        · exact Nat.le_refl _
        · exact hfu.out c q
      clear h3 hb3 hu3 hf3 hw hw2 hcut
      go_wp2_with fail
      go_roundw
      case rel => exact ⟨k + 1, F3, _, by omega, by go_num, H3, HFU3, HD3, HU3, HF3⟩
      case measure => simp [intOf]; omega
    · obtain rfl : k = cs.length := by omega
      have he : (dfOf cs).take cs.length = dfOf cs := List.take_of_length_le (by rw [df_len]; exact Nat.le_refl _)
      rw [he] at hdf
      go_wp2_with fail
      go_ret
      exact ⟨g1, Fo, co, rfl, ho.out, hfu.out, hdf.out, hu.out, hfr.out⟩
end
end Go.Proofs.Ytmhdhnipljonlaa
