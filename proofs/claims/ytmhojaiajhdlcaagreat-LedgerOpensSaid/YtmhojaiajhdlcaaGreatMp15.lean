/- Texts of the proof, joined: Chapter 25 as plain law: what was opened and cut is opened again, and nothing is written. Chapter 25 as plain law: how much k calls add. The book's Same at records. Chapter 25 as plain law: a disk that has the ledger's file alone, wherever the power fails. No places; the law's own records. Both ledgers, the program's and the document's, each on its own disk. Arguments that are slices of structs. Arguments that are slices of records. Arguments that are asks of chapter 25. Drawn regions whose order is forced for the most part: their plain walk in the text's order, and forks where two operations may come up. -/
import Derived.Test.YtmhojaiajhdlcaaGreatMp4
import Derived.Test.YtmhojaiajhdlcaaGreatMp12
import Derived.Test.YtmhojaiajhdlcaaGreatMp1
import Derived.Deep.MidRow
import Derived.Test.YtmhojaiajhdlcaaGreatMp14
import Derived.Test.YtmhojaiajhdlcaaGreatMp2
import Derived.Deep.Fields
import Derived.ChangeSame
import Derived.OpenShut
import Derived.Deep.RegionHeld3
import Derived.RegionTactic
namespace Go.Proofs.YtmhojaiajhdlcaaGreat
open Go.RowKit
set_option linter.unusedSimpArgs false
set_option linter.unusedVariables false
/-- A frame that is whole in a beginning of the bytes is read there, too. -/
theorem nextF_take (b : List UInt8) (k n : Nat) (hk : k ≤ b.length) (he : (nextF b (k : Int)).2.2 = 0) (hn : (nextF b (k : Int)).2.1 ≤ (n : Int)) (hnb : n ≤ b.length) : nextF (b.take n) (k : Int) = nextF b (k : Int) := by
  obtain ⟨m, h1, h2, h3, h4, h5⟩ := nextF_to b k hk he
  rw [h4] at hn
  have hkn : k + 8 + m ≤ n := by omega
  have hlen : (b.take n).length = n := by rw [List.length_take]; omega
  rw [nextF_at b k hk] at he h4 h5 ⊢
  rw [nextF_at _ k (by omega), List.drop_take]
  have hl : (b.drop k).length = b.length - k := List.length_drop
  generalize b.drop k = rl at *
  have hrt : (rl.take (n - k)).length = n - k := by rw [List.length_take]; omega
  have hnum : num4 (rl.take (n - k)) = num4 rl := by
    unfold num4
    rw [nth_take _ _ _ (by omega), nth_take _ _ _ (by omega), nth_take _ _ _ (by omega), nth_take _ _ _ (by omega)]
  have hnum2 : num4 ((rl.take (n - k)).drop 4) = num4 (rl.drop 4) := by
    unfold num4
    simp only [nth_drop]
    rw [nth_take _ _ _ (by omega), nth_take _ _ _ (by omega), nth_take _ _ _ (by omega), nth_take _ _ _ (by omega)]
  have hm : m = num4 rl := by
    unfold nextR at h4 he
    split at he
    · exact absurd he (by simp)
    · rename_i q1
      split at he
      · exact absurd he (by simp)
      · rename_i q2
        split at he
        · exact absurd he (by simp)
        · rename_i q3
          split at he
          · exact absurd he (by simp)
          · rename_i q4
            rw [if_neg q1, if_neg q2, if_neg q3, if_neg q4] at h4
            dsimp only at h4
            omega
  have ht4 : (rl.take (n - k)).take 4 = rl.take 4 := by rw [List.take_take, Nat.min_eq_left (by omega)]
  have htp : ((rl.take (n - k)).drop 8).take (num4 rl) = (rl.drop 8).take (num4 rl) := by
    rw [List.drop_take, List.take_take, Nat.min_eq_left (by omega)]
  unfold nextR at he ⊢
  rw [hnum, hnum2, ht4, htp, hrt]
  split at he
  · exact absurd he (by simp)
  · rename_i q1
    split at he
    · exact absurd he (by simp)
    · rename_i q2
      split at he
      · exact absurd he (by simp)
      · rename_i q3
        rw [if_neg (by omega), if_neg q2, if_neg (by omega), if_neg q1, if_neg q2, if_neg q3]
theorem nxt_to {b : List UInt8} {k : Nat} {rl : List Rec} {q : Rec × Nat} (hk : k ≤ b.length) (h : nxt b k rl = some q) : k < q.2 ∧ q.2 ≤ b.length := by
  unfold nxt at h
  split at h
  · rename_i hc
    obtain ⟨m, h1, h2, h3, h4, h5⟩ := nextF_to b k hk hc.1
    injection h with h
    rw [← h, h4, Int.toNat_natCast]
    dsimp only
    omega
  · exact absurd h (by simp)
theorem nxt_take {b : List UInt8} {k n : Nat} {rl : List Rec} {q : Rec × Nat} (hk : k ≤ b.length) (h : nxt b k rl = some q) (hn : q.2 ≤ n) (hnb : n ≤ b.length) : nxt (b.take n) k rl = some q := by
  have h0 := h
  unfold nxt at h ⊢
  split at h
  · rename_i hc
    obtain ⟨m, h1, h2, h3, h4, h5⟩ := nextF_to b k hk hc.1
    have hq := h
    injection hq with hq
    have hto : (nextF b (k : Int)).2.1 ≤ (n : Int) := by
      rw [← hq] at hn
      rw [h4] at hn ⊢
      rw [Int.toNat_natCast] at hn
      omega
    rw [nextF_take b k n hk hc.1 hto hnb, if_pos hc]; exact h
  · exact absurd h (by simp)
theorem scan_ge (b : List UInt8) : ∀ (f k : Nat) (rl : List Rec), k ≤ b.length → k ≤ (scanL b f k rl).2 ∧ (scanL b f k rl).2 ≤ b.length
  | 0, k, rl, hk => ⟨Nat.le_refl _, hk⟩
  | f + 1, k, rl, hk => by
    have hgo : scanL b (f + 1) k rl = match nxt b k rl with | some q => scanL b f q.2 (rl ++ [q.1]) | none => (rl, k) := rfl
    rw [hgo]
    cases hx : nxt b k rl with
    | none => exact ⟨Nat.le_refl _, hk⟩
    | some q =>
      have h1 := nxt_to hk hx
      have h2 := scan_ge b f q.2 (rl ++ [q.1]) h1.2
      dsimp only
      omega
/-- More rounds than bytes are left change nothing. -/
theorem scan_fuel (b : List UInt8) : ∀ (f g k : Nat) (rl : List Rec), k ≤ b.length → b.length < f + k → b.length < g + k → scanL b f k rl = scanL b g k rl
  | 0, g, k, rl, hk, hf, hg => by omega
  | f + 1, 0, k, rl, hk, hf, hg => by omega
  | f + 1, g + 1, k, rl, hk, hf, hg => by
    have h1 : scanL b (f + 1) k rl = match nxt b k rl with | some q => scanL b f q.2 (rl ++ [q.1]) | none => (rl, k) := rfl
    have h2 : scanL b (g + 1) k rl = match nxt b k rl with | some q => scanL b g q.2 (rl ++ [q.1]) | none => (rl, k) := rfl
    rw [h1, h2]
    cases hx : nxt b k rl with
    | none => rfl
    | some q =>
      have h3 := nxt_to hk hx
      exact scan_fuel b f g q.2 _ h3.2 (by omega) (by omega)
theorem scan_again (b : List UInt8) (n : Nat) (hnb : n ≤ b.length) : ∀ (f k : Nat) (rl : List Rec), k ≤ n → (scanL b f k rl).2 = n → n < f + k → scanL (b.take n) f k rl = scanL b f k rl
  | 0, k, rl, hk, hs, hf => by omega
  | f + 1, k, rl, hk, hs, hf => by
    have h1 : scanL b (f + 1) k rl = match nxt b k rl with | some q => scanL b f q.2 (rl ++ [q.1]) | none => (rl, k) := rfl
    have h2 : scanL (b.take n) (f + 1) k rl = match nxt (b.take n) k rl with | some q => scanL (b.take n) f q.2 (rl ++ [q.1]) | none => (rl, k) := rfl
    rw [h1] at hs
    rw [h1, h2]
    cases hx : nxt b k rl with
    | none =>
      rw [hx] at hs
      have hs : k = n := hs
      subst hs
      have hlen : (b.take k).length = k := by rw [List.length_take]; omega
      have hy : nxt (b.take k) k rl = none := by
        unfold nxt
        rw [if_neg]
        rintro ⟨h1, -⟩
        rw [nextF_at _ _ (by omega), List.drop_of_length_le (by omega)] at h1
        exact next_nil _ h1
      rw [hy]
    | some q =>
      rw [hx] at hs
      have h3 := nxt_to (by omega) hx
      have h4 := (scan_ge b f q.2 (rl ++ [q.1]) h3.2).1
      have hs : (scanL b f q.2 (rl ++ [q.1])).2 = n := hs
      rw [nxt_take (by omega) hx (by omega) hnb]
      exact scan_again b n hnb f q.2 _ (by omega) hs (by omega)
theorem lScan_again (b : List UInt8) : lScan (b.take (lScan b).2) = lScan b := by
  obtain ⟨-, h2⟩ := scan_ge b (b.length + 1) 0 [] (Nat.zero_le _)
  have h := scan_again b (lScan b).2 h2 (b.length + 1) 0 [] (Nat.zero_le _) rfl (by have : (lScan b).2 ≤ b.length := h2; omega)
  have hlen : (b.take (lScan b).2).length = (lScan b).2 := by rw [List.length_take]; exact Nat.min_eq_left h2
  have h3 := scan_fuel (b.take (lScan b).2) ((b.take (lScan b).2).length + 1) (b.length + 1) 0 [] (Nat.zero_le _) (by omega) (by rw [hlen]; have : (lScan b).2 ≤ b.length := h2; omega)
  unfold lScan at h h3 ⊢
  exact h3.trans h
theorem lScan_le (b : List UInt8) : (lScan b).2 ≤ b.length := (scan_ge b (b.length + 1) 0 [] (Nat.zero_le _)).2
theorem lScan_cut (b : List UInt8) : lScan (b.take (lScan b).2) = ((lScan b).1, (b.take (lScan b).2).length) := by
  have hlen : (b.take (lScan b).2).length = (lScan b).2 := by rw [List.length_take]; exact Nat.min_eq_left (lScan_le b)
  rw [lScan_again, hlen]
/-- What the file has behind an opening. -/
theorem lOpen_get {s : DS} (h : DOk s) : (dGet (lOpen s).2.now nmL).1 = (dGet s.now nmL).1.take (lScan (dGet s.now nmL).1).2 := by
  have hle := lScan_le (dGet s.now nmL).1
  unfold lOpen
  dsimp only
  split
  · rename_i hlt
    have hin : inD s.now nmL = true := by
      cases hb : inD s.now nmL with
      | true => rfl
      | false => rw [dGet_no hb] at hlt; simp at hlt
    unfold dCut
    rw [hin, if_pos rfl, if_neg (by omega)]
    have : (dDo (wCut nmL ((lScan (dGet s.now nmL).1).2 : Int)) s).now = tSet strLt s.now nmL ((dGet s.now nmL).1.take ((lScan (dGet s.now nmL).1).2 : Int).toNat) := rfl
    rw [this, Int.toNat_natCast, get_set h.ris]
  · rename_i hlt
    rw [List.take_of_length_le (by omega)]
/-- Opened again: the same records, and nothing is written. -/
theorem lOpen_again {s : DS} (h : DOk s) : lOpen (dMark (lOpen s).2) = ((lOpen s).1, dMark (lOpen s).2) := by
  have h1 : (dGet (dMark (lOpen s).2).now nmL).1 = (dGet s.now nmL).1.take (lScan (dGet s.now nmL).1).2 := lOpen_get h
  have h2 := lScan_cut (dGet s.now nmL).1
  have h3 : (lOpen s).1 = (lScan (dGet s.now nmL).1).1 := rfl
  have h4 : lOpen (dMark (lOpen s).2) = ((lScan (dGet (dMark (lOpen s).2).now nmL).1).1, if (lScan (dGet (dMark (lOpen s).2).now nmL).1).2 < (dGet (dMark (lOpen s).2).now nmL).1.length then (dCut (dMark (lOpen s).2) nmL (lScan (dGet (dMark (lOpen s).2).now nmL).1).2).2 else dMark (lOpen s).2) := rfl
  rw [h4, h1, h2, h3]
  dsimp only
  rw [if_neg (Nat.lt_irrefl _)]
end Go.Proofs.YtmhojaiajhdlcaaGreat
namespace Go.Proofs.YtmhojaiajhdlcaaGreat
open Go.RowKit
set_option linter.unusedSimpArgs false
set_option linter.unusedVariables false
theorem Any.append2 {k : Nat} {s : DS} (h : Any k s) (nm : ByteArray) (p : List UInt8) (hp : p.length ≤ 500) (hk : k ≤ 250) : Any (k + 1) (dAppend s nm p).2 := by
  have hl := h.nlen
  have hok := h.ok.append nm p (by omega)
  have hcl := chunks_len p
  have hs := h.sum
  revert hok
  unfold dAppend
  cases hn : nameOk nm with
  | false => intro _; exact h.up
  | true =>
    rw [if_pos rfl]
    split
    · intro _; exact h.up
    · cases hin : inD s.now nm with
      | true =>
        rw [if_pos rfl]
        intro hok
        refine ⟨hok, ?_, by dsimp only; rw [dPut_mark]; exact h.mnm, ?_⟩
        · dsimp only; rw [dPut_mark, dPut_log, List.length_append, List.length_map]; omega
        · intro x hx
          dsimp only at hx
          rw [dPut_log] at hx
          rcases List.mem_append.1 hx with q | q
          · exact h.lnm x q
          · exact puts_nm hn _ x q
      | false =>
        rw [if_neg (by simp)]
        intro hok
        refine ⟨hok, ?_, by dsimp only; rw [dPut_mark]; exact h.mnm, ?_⟩
        · dsimp only; rw [dPut_mark, dPut_log, List.length_append, List.length_map]; unfold dDo; dsimp only; rw [List.length_append]; simp; omega
        · intro x hx
          dsimp only at hx
          rw [dPut_log] at hx
          rcases List.mem_append.1 hx with q | q
          · rcases List.mem_append.1 (show x ∈ s.log ++ [wMake nm] from q) with q | q
            · exact h.lnm x q
            · simp at q; subst q; exact ⟨hn, fun q => absurd q (show ¬ (1 : Int) = 3 by decide)⟩
          · exact puts_nm hn _ x q
theorem Any.cut2 {k : Nat} {s : DS} (h : Any k s) (nm : ByteArray) (n : Int) (hk : k ≤ 250) : Any (k + 1) (dCut s nm n).2 := by
  have hl := h.nlen
  unfold dCut
  cases hin : inD s.now nm with
  | false => exact h.up
  | true =>
    rw [if_pos rfl]
    split
    · exact h.up
    · rename_i hb
      exact h.do_ (h.ok.cut nm n hin (by omega) (by omega) (by omega)).1 ⟨h.nnm.has hin, fun q => absurd q (show ¬ (4 : Int) = 3 by decide)⟩
theorem scan_len (b : List UInt8) : ∀ (f k : Nat) (rl : List Rec), k ≤ b.length → (scanL b f k rl).1.length + k ≤ rl.length + (scanL b f k rl).2
  | 0, k, rl, hk => Nat.le_refl _
  | f + 1, k, rl, hk => by
    have hgo : scanL b (f + 1) k rl = match nxt b k rl with | some q => scanL b f q.2 (rl ++ [q.1]) | none => (rl, k) := rfl
    rw [hgo]
    cases hx : nxt b k rl with
    | none => exact Nat.le_refl _
    | some q =>
      have h1 := nxt_to hk hx
      have h2 := scan_len b f q.2 (rl ++ [q.1]) h1.2
      rw [List.length_append, List.length_singleton] at h2
      dsimp only
      omega
theorem lOpen_len {s : DS} (h : DOk s) : (lOpen s).1.length ≤ 16777216 := by
  have h1 := scan_len (dGet s.now nmL).1 ((dGet s.now nmL).1.length + 1) 0 [] (Nat.zero_le _)
  have h2 := lScan_le (dGet s.now nmL).1
  have h3 := get_le_total s.now nmL
  have h4 := h.tot
  unfold lScan at h2
  show (lScan (dGet s.now nmL).1).1.length ≤ _
  unfold lScan
  simp only [List.length_nil, Nat.zero_add, Nat.add_zero] at h1
  omega
/-- Behind k calls. -/
structure PJ (k : Nat) (rl : List Rec) (s : DS) : Prop where
  any : Any k s
  len : rl.length ≤ 16777216 + k
theorem PJ.zero : PJ 0 [] ⟨[], [], []⟩ := ⟨Any.zero, by simp⟩
theorem PJ.up {k : Nat} {rl : List Rec} {s : DS} (h : PJ k rl s) : PJ (k + 1) rl s := ⟨h.any.up, by have := h.len; omega⟩
theorem PJ.add {k : Nat} {rl : List Rec} {s : DS} (h : PJ k rl s) (hk : k ≤ 250) (r : Rec) : PJ (k + 1) (lAdd rl s r).2.1 (lAdd rl s r).2.2 := by
  have hl := h.len
  unfold lAdd
  split
  · rename_i hok
    split
    · exact h.up
    · have h1 := encRec_len hok
      have h2 := frameOf_len (encRec r)
      have h3 := h.any.append2 nmL (frameOf (encRec r)) (by omega) hk
      split
      · exact ⟨h3, by rw [List.length_append, List.length_singleton]; omega⟩
      · exact ⟨h3, by dsimp only; omega⟩
  · exact h.up
theorem PJ.open_ {k : Nat} {rl : List Rec} {s : DS} (h : PJ k rl s) (hk : k ≤ 250) : PJ (k + 1) (lOpen s).1 (lOpen s).2 := by
  refine ⟨?_, by have := lOpen_len h.any.ok; omega⟩
  unfold lOpen
  dsimp only
  split
  · exact h.any.cut2 nmL _ hk
  · exact h.any.up
theorem PJ.back {k : Nat} {rl : List Rec} {s : DS} (h : PJ k rl s) (n : Int) : PJ (k + 1) rl (dBack s n) := ⟨h.any.back n, by have := h.len; omega⟩
theorem PJ.now {k : Nat} {rl : List Rec} {s : DS} (h : PJ k rl s) (hk : k ≤ 250) : s.now.length ≤ 4999 ∧ s.log.length ≤ 500000000 ∧ s.mark.length ≤ 100000 ∧ rl.length ≤ 100000000 := by
  have h1 := h.any.nlen
  have h2 := h.any.sum
  have h3 := h.len
  omega
end Go.Proofs.YtmhojaiajhdlcaaGreat
namespace Go.Proofs.YtmhojaiajhdlcaaGreat
open Go.RowKit
set_option linter.unusedSimpArgs false
set_option linter.unusedVariables false
set_option maxRecDepth 20000 in
set_option maxHeartbeats 4000000 in
theorem sameRec_any (v u : Value) (l m : List Rec) (w : World) (h : RdN 15 recCells w v l) (h2 : RdN 15 recCells w u m) :
    Calls Tryz.prog 25 #[v, u] w fun e w' => e = .returned (.bool (decide (l = m))) ∧ ∃ n, w' = w.drewN n := by
  obtain ⟨a, cap, rfl, hlc, hm, hc⟩ := h
  obtain ⟨a2, cap2, rfl, hlc2, hm2, hc2⟩ := h2
  have hm' : l.length ≤ 9223372036854775807 := by unfold maxLen at hm; omega
  have hm2' : m.length ≤ 9223372036854775807 := by unfold maxLen at hm2; omega
  clear hm hlc hm2 hlc2
  by_cases hlen : l.length = m.length
  · have HL := Lib.hid hlen
    have t1 : ((l.length : Int) != (m.length : Int)) = false := by rw [bne_eq_false_iff_eq]; omega
    have H1 := Lib.hid hc
    have H2 := Lib.hid hc2
    clear hlen hc hc2
    go_enter Tryz.func25, Tryz.ntmps25
    go_wp2
    go_loopw [5] (fun i wr => ∃ k n : Nat, wr = w.drewN n ∧ k ≤ l.length ∧ i = .int .i64 k ∧ Hid (∀ j, j < k → nth l j = nth m j)) (fun i _ => l.length - (intOf i).toNat)
    case atStart => exact ⟨0, 0, rfl, Nat.zero_le _, rfl, fun j hj => absurd hj (by omega)⟩
    case round =>
      obtain ⟨k, n, rfl, hk, rfl, hs⟩ := hrel
      by_cases hlt : k < l.length
      · obtain ⟨b, off, rfl, hc⟩ := H1.out (by intro h; simp [h] at hlt)
        have hlt2 : k < m.length := by rw [← HL.out]; exact hlt
        obtain ⟨b2, off2, rfl, hc2⟩ := H2.out (by intro h; simp [h] at hlt2)
        obtain ⟨ino, gen, at_, rule, kind, c0, c1, c2, c3, c4, c5, c6, c7, c8, c9, hx⟩ := rec_mk (nth l k)
        obtain ⟨ino', gen', at', rule', kind', d0, d1, d2, d3, d4, d5, d6, d7, d8, d9, hy⟩ := rec_mk (nth m k)
        have hc : ∀ j, j < l.length → ∀ i, i < 15 → w.cell? ⟨b, off + (j * 15 + i), none⟩ = (recCells (nth l j))[i]? := hc
        have hc2 : ∀ j, j < m.length → ∀ i, i < 15 → w.cell? ⟨b2, off2 + (j * 15 + i), none⟩ = (recCells (nth m j))[i]? := hc2
        have hc := hc k hlt
        have hc2 := hc2 k hlt2
        rw [hx] at hc
        rw [hy] at hc2
        have HX := Lib.hid hx
        have HY := Lib.hid hy
        clear hx hy
        have e0 : w.cell? ⟨b, off + k * 15, none⟩ = some (.int .i64 ino) := hc 0 (by omega)
        have e1 : w.cell? ⟨b, off + k * 15 + 1, none⟩ = some (.int .i64 gen) := hc 1 (by omega)
        have e2 : w.cell? ⟨b, off + k * 15 + 2, none⟩ = some (.int .i64 at_) := hc 2 (by omega)
        have e3 : w.cell? ⟨b, off + k * 15 + 3, none⟩ = some (.string rule) := hc 3 (by omega)
        have e4 : w.cell? ⟨b, off + k * 15 + 4, none⟩ = some (.int .i64 kind) := hc 4 (by omega)
        have e5 : w.cell? ⟨b, off + k * 15 + 5, none⟩ = some (.int .i64 c0) := hc 5 (by omega)
        have e6 : w.cell? ⟨b, off + k * 15 + 6, none⟩ = some (.int .i64 c1) := hc 6 (by omega)
        have e7 : w.cell? ⟨b, off + k * 15 + 7, none⟩ = some (.int .i64 c2) := hc 7 (by omega)
        have e8 : w.cell? ⟨b, off + k * 15 + 8, none⟩ = some (.int .i64 c3) := hc 8 (by omega)
        have e9 : w.cell? ⟨b, off + k * 15 + 9, none⟩ = some (.int .i64 c4) := hc 9 (by omega)
        have e10 : w.cell? ⟨b, off + k * 15 + 10, none⟩ = some (.int .i64 c5) := hc 10 (by omega)
        have e11 : w.cell? ⟨b, off + k * 15 + 11, none⟩ = some (.int .i64 c6) := hc 11 (by omega)
        have e12 : w.cell? ⟨b, off + k * 15 + 12, none⟩ = some (.int .i64 c7) := hc 12 (by omega)
        have e13 : w.cell? ⟨b, off + k * 15 + 13, none⟩ = some (.int .i64 c8) := hc 13 (by omega)
        have e14 : w.cell? ⟨b, off + k * 15 + 14, none⟩ = some (.int .i64 c9) := hc 14 (by omega)
        have f0 : w.cell? ⟨b2, off2 + k * 15, none⟩ = some (.int .i64 ino') := hc2 0 (by omega)
        have f1 : w.cell? ⟨b2, off2 + k * 15 + 1, none⟩ = some (.int .i64 gen') := hc2 1 (by omega)
        have f2 : w.cell? ⟨b2, off2 + k * 15 + 2, none⟩ = some (.int .i64 at') := hc2 2 (by omega)
        have f3 : w.cell? ⟨b2, off2 + k * 15 + 3, none⟩ = some (.string rule') := hc2 3 (by omega)
        have f4 : w.cell? ⟨b2, off2 + k * 15 + 4, none⟩ = some (.int .i64 kind') := hc2 4 (by omega)
        have f5 : w.cell? ⟨b2, off2 + k * 15 + 5, none⟩ = some (.int .i64 d0) := hc2 5 (by omega)
        have f6 : w.cell? ⟨b2, off2 + k * 15 + 6, none⟩ = some (.int .i64 d1) := hc2 6 (by omega)
        have f7 : w.cell? ⟨b2, off2 + k * 15 + 7, none⟩ = some (.int .i64 d2) := hc2 7 (by omega)
        have f8 : w.cell? ⟨b2, off2 + k * 15 + 8, none⟩ = some (.int .i64 d3) := hc2 8 (by omega)
        have f9 : w.cell? ⟨b2, off2 + k * 15 + 9, none⟩ = some (.int .i64 d4) := hc2 9 (by omega)
        have f10 : w.cell? ⟨b2, off2 + k * 15 + 10, none⟩ = some (.int .i64 d5) := hc2 10 (by omega)
        have f11 : w.cell? ⟨b2, off2 + k * 15 + 11, none⟩ = some (.int .i64 d6) := hc2 11 (by omega)
        have f12 : w.cell? ⟨b2, off2 + k * 15 + 12, none⟩ = some (.int .i64 d7) := hc2 12 (by omega)
        have f13 : w.cell? ⟨b2, off2 + k * 15 + 13, none⟩ = some (.int .i64 d8) := hc2 13 (by omega)
        have f14 : w.cell? ⟨b2, off2 + k * 15 + 14, none⟩ = some (.int .i64 d9) := hc2 14 (by omega)
        have q1 : (k : Int) < (l.length : Int) := by omega
        have q2 : (k : Int) < (m.length : Int) := by omega
        clear hc hc2
        by_cases he : mkRec ino gen at_ rule kind c0 c1 c2 c3 c4 c5 c6 c7 c8 c9 = mkRec ino' gen' at' rule' kind' d0 d1 d2 d3 d4 d5 d6 d7 d8 d9
        · have hq := fun W => recEq_run W ino gen at_ rule kind c0 c1 c2 c3 c4 c5 c6 c7 c8 c9 ino' gen' at' rule' kind' d0 d1 d2 d3 d4 d5 d6 d7 d8 d9
          rw [decide_eq_true he] at hq
          have HE := Lib.hid he
          clear he
          go_wp2
          go_quiet (fail)
          go_wp2
          go_roundw
          case rel => exact ⟨k + 1, _, rfl, by omega, by go_num, fun j hj => by
            by_cases e : j = k
            · rw [e, HX.out, HY.out]; exact HE.out
            · exact hs.out j (by omega)⟩
          case measure => simp [intOf]; omega
        · have hq := fun W => recEq_run W ino gen at_ rule kind c0 c1 c2 c3 c4 c5 c6 c7 c8 c9 ino' gen' at' rule' kind' d0 d1 d2 d3 d4 d5 d6 d7 d8 d9
          rw [decide_eq_false he] at hq
          have HE := Lib.hid he
          clear he
          go_wp2
          go_quiet (fail)
          go_wp2
          go_ret
          exact ⟨congrArg (fun b => Ending.returned (.bool b)) (decide_eq_false (fun e => HE.out (by rw [← HX.out, ← HY.out, e]))).symm, _, World.drewN_drewN ..⟩
      · obtain rfl : k = l.length := by omega
        go_wp2
        go_ret
        exact ⟨congrArg (fun b => Ending.returned (.bool b)) (decide_eq_true (same_ext HL.out hs.out)).symm, _, rfl⟩
  · have t1 : ((l.length : Int) != (m.length : Int)) = true := by rw [bne_iff_ne]; omega
    have t2 : decide (l = m) = false := by simp; intro h; exact hlen (by rw [h])
    have T2 := Lib.hid t2
    clear hlen t2
    go_enter Tryz.func25, Tryz.ntmps25
    go_wp2
    go_ret
    exact ⟨congrArg (fun b => Ending.returned (.bool b)) T2.out.symm, 0, rfl⟩
theorem sameRec_yes (v u : Value) (l : List Rec) (w : World) (h : RdN 15 recCells w v l) (h2 : RdN 15 recCells w u l) :
    Calls Tryz.prog 25 #[v, u] w fun e w' => e = .returned (.bool true) ∧ Upd [] w w' := by
  refine (sameRec_any v u l l w h h2).mono ?_
  rw [decide_eq_true rfl]
  rintro e w' ⟨rfl, n, rfl⟩
  exact ⟨rfl, (Upd.refl [] w).drewN n⟩
end Go.Proofs.YtmhojaiajhdlcaaGreat
namespace Go.Proofs.YtmhojaiajhdlcaaGreat
open Go.RowKit
set_option linter.unusedSimpArgs false
set_option linter.unusedVariables false
/-- The ledger's file, or none; what it has. -/
def OneF (fs : DF) (c : List UInt8) : Prop := (fs = [] ∧ c = []) ∨ fs = [(nmL, c)]
theorem OneF.get {fs : DF} {c : List UInt8} (h : OneF fs c) : (dGet fs nmL).1 = c := by
  rcases h with ⟨rfl, rfl⟩ | rfl
  · rfl
  · rw [get_one]
theorem OneF.len {fs : DF} {c : List UInt8} (h : OneF fs c) : fs.length ≤ 1 := by
  rcases h with ⟨rfl, rfl⟩ | rfl <;> simp
theorem OneF.total {fs : DF} {c : List UInt8} (h : OneF fs c) : dTotal fs = c.length := by
  rcases h with ⟨rfl, rfl⟩ | rfl
  · rfl
  · simp [dTotal]
theorem OneF.full {fs : DF} {c : List UInt8} (h : OneF fs c) (hc : c ≠ []) : fs = [(nmL, c)] := by
  rcases h with ⟨_, q⟩ | q
  · exact absurd q hc
  · exact q
/-- At each raw write the file is a beginning of hi, no shorter than lo. -/
structure LInv (hi : List UInt8) (lo B : Nat) (s : DS) : Prop where
  ok : DOk s
  lg : s.log.length ≤ B
  pre : ∀ k, ∃ n, lo ≤ n ∧ n ≤ hi.length ∧ OneF (wAll s.mark (s.log.take k)) (hi.take n)
theorem LInv.zero : LInv [] 0 0 ⟨[], [], []⟩ := ⟨DOk.zero, Nat.le_refl _, fun k => ⟨0, Nat.le_refl _, Nat.le_refl _, .inl ⟨by simp [wAll], rfl⟩⟩⟩
theorem LInv.now {hi : List UInt8} {lo B : Nat} {s : DS} (h : LInv hi lo B s) : ∃ n, lo ≤ n ∧ n ≤ hi.length ∧ OneF s.now (hi.take n) := by
  obtain ⟨n, h1, h2, h3⟩ := h.pre s.log.length
  rw [List.take_length, ← h.ok.eq] at h3
  exact ⟨n, h1, h2, h3⟩
theorem LInv.nlen {hi : List UInt8} {lo B : Nat} {s : DS} (h : LInv hi lo B s) : s.now.length ≤ 1 := by
  obtain ⟨n, _, _, h3⟩ := h.now
  exact h3.len
theorem LInv.mlen {hi : List UInt8} {lo B : Nat} {s : DS} (h : LInv hi lo B s) : s.mark.length ≤ 1 := by
  obtain ⟨n, _, _, h3⟩ := h.pre 0
  exact h3.len
theorem LInv.step {hi : List UInt8} {lo B : Nat} {s : DS} (h : LInv hi lo B s) {x : Wr} (hx : WrOk x s.now) {n : Nat} (h1 : lo ≤ n) (h2 : n ≤ hi.length) (hn : OneF (wApply x s.now) (hi.take n)) : LInv hi lo (B + 1) (dDo x s) := by
  refine ⟨h.ok.do_ hx, by have := h.lg; unfold dDo; simp; omega, fun k => ?_⟩
  show ∃ n, lo ≤ n ∧ n ≤ hi.length ∧ OneF (wAll s.mark ((s.log ++ [x]).take k)) (hi.take n)
  rcases Nat.lt_or_ge s.log.length k with q | q
  · rw [List.take_of_length_le (by rw [List.length_append, List.length_singleton]; omega), wAll_snoc, ← h.ok.eq]
    exact ⟨n, h1, h2, hn⟩
  · rw [List.take_append_of_le_length q]
    exact h.pre k
theorem LInv.grow {hi : List UInt8} {lo B : Nat} {s : DS} (h : LInv hi lo B s) (x : List UInt8) : LInv (hi ++ x) lo B s :=
  ⟨h.ok, h.lg, fun k => by
    obtain ⟨n, h1, h2, h3⟩ := h.pre k
    exact ⟨n, h1, by rw [List.length_append]; omega, by rw [List.take_append_of_le_length h2]; exact h3⟩⟩
theorem LInv.bound {hi : List UInt8} {lo B B' : Nat} {s : DS} (h : LInv hi lo B s) (hb : B ≤ B') : LInv hi lo B' s := ⟨h.ok, Nat.le_trans h.lg hb, h.pre⟩
theorem one_put (c p : List UInt8) : wApply (wPut nmL p) [(nmL, c)] = [(nmL, c ++ p)] := by
  have : wApply (wPut nmL p) [(nmL, c)] = tSet strLt [(nmL, c)] nmL ((dGet [(nmL, c)] nmL).1 ++ p) := rfl
  rw [this, get_one, set_one]
theorem one_putok (c p : List UInt8) (hp : p ≠ []) (h : c.length + p.length ≤ 16777216) : WrOk (wPut nmL p) [(nmL, c)] :=
  ⟨by simp, ⟨by show (1 : Int) ≤ 2; decide, by show (2 : Int) ≤ 5; decide⟩, fun _ => ⟨hp, by rw [get_one]; exact h⟩, fun q => absurd q (show ¬ (2 : Int) = 4 by decide), by rw [one_put]; simp [dTotal]; omega, fun _ => isIn_one nmL c, fun q => absurd q (show ¬ (2 : Int) = 1 by decide)⟩
theorem LInv.puts {hi t : List UInt8} {lo : Nat} (hz : hi.length ≤ 16777216) : ∀ (l : List (List UInt8)) (s : DS) (c : List UInt8) (B : Nat), LInv hi lo B s → s.now = [(nmL, c)] → hi = c ++ (l.flatten ++ t) → (∀ p ∈ l, p ≠ []) → lo ≤ c.length →
    LInv hi lo (B + l.length) (dPut nmL s l) ∧ (dPut nmL s l).now = [(nmL, c ++ l.flatten)]
  | [], s, c, B, h, hn, he, hp, hl => ⟨by simpa [dPut] using h, by simp [dPut, hn]⟩
  | p :: l, s, c, B, h, hn, he, hp, hl => by
    have h1 : dPut nmL s (p :: l) = dPut nmL (dDo (wPut nmL p) s) l := rfl
    have he2 : hi = (c ++ p) ++ (l.flatten ++ t) := by rw [he]; simp
    have hlen : (c ++ p).length ≤ hi.length := by rw [he2]; simp only [List.length_append]; omega
    have hcp : c.length + p.length ≤ 16777216 := by rw [List.length_append] at hlen; omega
    have ht : hi.take (c ++ p).length = c ++ p := by rw [he2]; exact List.take_left
    have hs := h.step (x := wPut nmL p) (by rw [hn]; exact one_putok c p (hp p (by simp)) hcp) (n := (c ++ p).length) (by rw [List.length_append]; omega) hlen (by rw [hn, one_put, ht]; exact .inr rfl)
    have hnow : (dDo (wPut nmL p) s).now = [(nmL, c ++ p)] := by show wApply (wPut nmL p) s.now = _; rw [hn, one_put]
    obtain ⟨k1, k2⟩ := LInv.puts hz l (dDo (wPut nmL p) s) (c ++ p) (B + 1) hs hnow he2 (fun q hq => hp q (by simp [hq])) (by rw [List.length_append]; omega)
    rw [h1]
    refine ⟨k1.bound (by rw [List.length_cons]; omega), ?_⟩
    rw [k2]; simp
theorem chunks_ne (p : List UInt8) : ∀ c ∈ chunks p, c ≠ [] := by
  intro c hc
  unfold chunks at hc
  obtain ⟨i, hi, rfl⟩ := List.mem_map.1 hc
  rw [List.mem_range] at hi
  intro q
  have := congrArg List.length q
  rw [List.length_take, List.length_drop] at this
  simp at this
  omega
/-- A frame behind the file. -/
theorem LInv.append {hi : List UInt8} {lo B : Nat} {s : DS} (h : LInv hi lo B s) (hn : OneF s.now hi) (hlo : lo ≤ hi.length) (fr : List UInt8) (hz : hi.length + fr.length ≤ 16777216) :
    (dAppend s nmL fr).1 = 0 ∧ LInv (hi ++ fr) lo (B + 1 + fr.length) (dAppend s nmL fr).2 ∧ (fr ≠ [] → OneF (dAppend s nmL fr).2.now (hi ++ fr)) := by
  have hcl := chunks_len fr
  have hfl := chunks_all fr
  have hg := h.grow fr
  have hz2 : (hi ++ fr).length ≤ 16777216 := by rw [List.length_append]; exact hz
  have hcl2 : (chunks fr).length ≤ fr.length := by omega
  unfold dAppend
  rw [nmL_ok, if_pos rfl, hn.total, if_neg (by omega)]
  refine ⟨rfl, ?_⟩
  dsimp only
  rcases hn with ⟨h1, h2⟩ | h1
  · have hin : inD s.now nmL = false := by rw [h1]; rfl
    subst h2
    rw [hin, if_neg (by simp)]
    have hw := (h.ok.make nmL hin (by rw [h1]; simp)).1
    have hnow : (dDo (wMake nmL) s).now = [(nmL, [])] := by show wApply (wMake nmL) s.now = _; rw [h1]; rfl
    have hm := hg.step hw (n := 0) (by simpa using hlo) (Nat.zero_le _) (.inr (by rw [h1]; rfl))
    obtain ⟨k1, k2⟩ := LInv.puts (t := []) hz2 (chunks fr) (dDo (wMake nmL) s) [] (B + 1) hm hnow (by rw [hfl]; simp) (chunks_ne fr) (by simpa using hlo)
    exact ⟨k1.bound (by omega), fun _ => .inr (by rw [k2, hfl])⟩
  · have hin : inD s.now nmL = true := by rw [h1]; exact isIn_one nmL hi
    rw [hin, if_pos rfl]
    obtain ⟨k1, k2⟩ := LInv.puts (t := []) hz2 (chunks fr) s hi B hg h1 (by rw [hfl]; simp) (chunks_ne fr) hlo
    exact ⟨k1.bound (by omega), fun _ => .inr (by rw [k2, hfl])⟩
theorem LInv.cut {hi : List UInt8} {lo B : Nat} {s : DS} (h : LInv hi lo B s) {n : Nat} (hn : OneF s.now (hi.take n)) (hnl : n ≤ hi.length) (k : Nat) (h1 : lo ≤ k) (h2 : k < n) :
    LInv hi lo (B + 1) (dCut s nmL (k : Int)).2 ∧ OneF (dCut s nmL (k : Int)).2.now (hi.take k) := by
  have hlen : (hi.take n).length = n := by rw [List.length_take]; omega
  have hnow := hn.full (fun q => by rw [q] at hlen; simp at hlen; omega)
  have hin : inD s.now nmL = true := by rw [hnow]; exact isIn_one nmL _
  have hget : (dGet s.now nmL).1 = hi.take n := hn.get
  have hw := (h.ok.cut nmL (k : Int) hin (by omega) (by rw [hget, hlen]; omega) (by have := h.nlen; omega)).1
  have hap : wApply (wCut nmL (k : Int)) s.now = [(nmL, hi.take k)] := by
    have : wApply (wCut nmL (k : Int)) s.now = tSet strLt s.now nmL ((dGet s.now nmL).1.take (k : Int).toNat) := rfl
    rw [this, hget, hnow, set_one, Int.toNat_natCast, List.take_take, Nat.min_eq_left (by omega)]
  have he : (dCut s nmL (k : Int)).2 = dDo (wCut nmL (k : Int)) s := by
    unfold dCut
    rw [hin, if_pos rfl, if_neg (by rw [hget, hlen]; omega)]
  rw [he]
  refine ⟨h.step hw h1 (by omega) (.inr hap), .inr hap⟩
theorem LInv.mark {hi : List UInt8} {lo B n : Nat} {s : DS} (h : LInv hi lo B s) (hn : OneF s.now (hi.take n)) (hnl : n ≤ hi.length) : LInv hi n 0 (dMark s) :=
  ⟨h.ok.mark, Nat.le_refl _, fun k => ⟨n, Nat.le_refl _, hnl, by show OneF (wAll s.now (([] : List Wr).take k)) _; simpa [wAll] using hn⟩⟩
theorem LInv.back {hi : List UInt8} {lo B : Nat} {s : DS} (h : LInv hi lo B s) (k : Int) : LInv hi lo 0 (dBack s k) := by
  obtain ⟨n, h1, h2, h3⟩ := h.pre k.toNat
  exact ⟨h.ok.back k, Nat.le_refl _, fun j => ⟨n, h1, h2, by show OneF (wAll (wAll s.mark (s.log.take k.toNat)) (([] : List Wr).take j)) _; simpa [wAll] using h3⟩⟩
/-- What an opening finds: a beginning of the records, and the file cut behind them. -/
theorem lopen_take (all : List Rec) (hok : ∀ r ∈ all, recOk r = true) (hu : Uniq all) (m0 : Nat) (hm0 : m0 ≤ all.length) {B : Nat} {s : DS} (h : LInv (Fr all) (Ee all m0) B s) :
    ∃ M, m0 ≤ M ∧ M ≤ all.length ∧ (lOpen s).1 = all.take M ∧ LInv (Fr all) (Ee all m0) (B + 1) (lOpen s).2 ∧ OneF (lOpen s).2.now ((Fr all).take (Ee all M)) := by
  obtain ⟨n, h1, h2, h3⟩ := h.now
  obtain ⟨M, k1, k2, k3, k4⟩ := lScan_take all hok hu n h2 m0 hm0 h1
  have hlen : ((Fr all).take n).length = n := by rw [List.length_take]; omega
  have hmono := Ee_mono all k1
  refine ⟨M, k1, k2, ?_⟩
  unfold lOpen
  rw [h3.get, k4, hlen]
  dsimp only
  refine ⟨rfl, ?_⟩
  by_cases hlt : Ee all M < n
  · rw [if_pos hlt]
    obtain ⟨c1, c2⟩ := h.cut h3 h2 (Ee all M) hmono hlt
    exact ⟨c1, c2⟩
  · rw [if_neg hlt]
    have : Ee all M = n := by omega
    rw [this]
    exact ⟨h.bound (by omega), h3⟩
end Go.Proofs.YtmhojaiajhdlcaaGreat
namespace Go.Proofs.YtmhojaiajhdlcaaGreat
open Go.RowKit
set_option linter.unusedSimpArgs false
set_option linter.unusedVariables false
theorem infoCaps : (Tryz.prog.info? 25).map (·.size) = some 10 := by kernel_rfl
def setsAt (xs : List Value) (o : Nat) : List Value → List Value
  | [] => xs
  | v :: r => setsAt (xs.set o v) (o + 1) r
theorem Blk.setCells {b : Nat} {e : TypeId} : ∀ (vs : List Value) {w : World} {xs : List Value} (o : Nat), Blk w b e xs → Blk (w.setCells b o vs) b e (setsAt xs o vs)
  | [], w, xs, o, h => h
  | v :: r, w, xs, o, h => Blk.setCells r (o + 1) (h.set_ o v)
theorem upd_setCells (b : Nat) : ∀ (vs : List Value) (w : World) (o : Nat), Upd [b] w (w.setCells b o vs)
  | [], w, o => Upd.refl _ _
  | v :: r, w, o => ((Upd.refl [b] w).setCell ⟨b, o, none⟩ v (.inl (by simp))).trans (upd_setCells b r _ (o + 1)) (fun x hx => hx) (fun x hx => .inl hx)
theorem Blk.there {w : World} {b : Nat} {e : TypeId} {xs : List Value} (h : Blk w b e xs) (o n : Nat) (hn : o + n ≤ xs.length) : w.there b o n := fun j hj => by
  rw [h.cell]
  exact ⟨by rw [List.getElem?_eq_getElem (by omega)]; rfl, h.frozen _⟩
abbrev noCaps : Value := .agg #[.int .i64 (-1), .int .i64 (-1), .int .i64 (-1), .int .i64 (-1), .int .i64 (-1), .int .i64 (-1), .int .i64 (-1), .int .i64 (-1), .int .i64 (-1), .int .i64 (-1)]
set_option maxRecDepth 20000 in
set_option maxHeartbeats 2000000 in
theorem none12_any (w : World) : Calls Tryz.prog 129 #[] w fun e w' => e = .returned noCaps ∧ Upd [] w w' := by
  have hu0 : Upd [] w (w.alloc (.cells #[.int .i64 0, .int .i64 0, .int .i64 0, .int .i64 0, .int .i64 0, .int .i64 0, .int .i64 0, .int .i64 0, .int .i64 0, .int .i64 0] 25)) := (Upd.refl [] w).alloc _
  have hu1 : Upd [] w ((w.alloc (.cells #[.int .i64 0, .int .i64 0, .int .i64 0, .int .i64 0, .int .i64 0, .int .i64 0, .int .i64 0, .int .i64 0, .int .i64 0, .int .i64 0] 25)).alloc (.cells #[.int .i64 0, .int .i64 0, .int .i64 0, .int .i64 0, .int .i64 0, .int .i64 0, .int .i64 0, .int .i64 0, .int .i64 0, .int .i64 0] 25)) := hu0.alloc _
  have hb0 : Blk ((w.alloc (.cells #[.int .i64 0, .int .i64 0, .int .i64 0, .int .i64 0, .int .i64 0, .int .i64 0, .int .i64 0, .int .i64 0, .int .i64 0, .int .i64 0] 25)).alloc (.cells #[.int .i64 0, .int .i64 0, .int .i64 0, .int .i64 0, .int .i64 0, .int .i64 0, .int .i64 0, .int .i64 0, .int .i64 0, .int .i64 0] 25)) w.heap.size 25 [.int .i64 0, .int .i64 0, .int .i64 0, .int .i64 0, .int .i64 0, .int .i64 0, .int .i64 0, .int .i64 0, .int .i64 0, .int .i64 0] := (Blk.new w 25 [.int .i64 0, .int .i64 0, .int .i64 0, .int .i64 0, .int .i64 0, .int .i64 0, .int .i64 0, .int .i64 0, .int .i64 0, .int .i64 0]).upd ((Upd.refl [] _).alloc _) (by simp)
  have hb1 : Blk ((w.alloc (.cells #[.int .i64 0, .int .i64 0, .int .i64 0, .int .i64 0, .int .i64 0, .int .i64 0, .int .i64 0, .int .i64 0, .int .i64 0, .int .i64 0] 25)).alloc (.cells #[.int .i64 0, .int .i64 0, .int .i64 0, .int .i64 0, .int .i64 0, .int .i64 0, .int .i64 0, .int .i64 0, .int .i64 0, .int .i64 0] 25)) (w.heap.size + 1) 25 [.int .i64 0, .int .i64 0, .int .i64 0, .int .i64 0, .int .i64 0, .int .i64 0, .int .i64 0, .int .i64 0, .int .i64 0, .int .i64 0] := by
    have := Blk.new (w.alloc (.cells #[.int .i64 0, .int .i64 0, .int .i64 0, .int .i64 0, .int .i64 0, .int .i64 0, .int .i64 0, .int .i64 0, .int .i64 0, .int .i64 0] 25)) 25 [.int .i64 0, .int .i64 0, .int .i64 0, .int .i64 0, .int .i64 0, .int .i64 0, .int .i64 0, .int .i64 0, .int .i64 0, .int .i64 0]
    rwa [show (w.alloc (.cells #[.int .i64 0, .int .i64 0, .int .i64 0, .int .i64 0, .int .i64 0, .int .i64 0, .int .i64 0, .int .i64 0, .int .i64 0, .int .i64 0] 25)).heap.size = w.heap.size + 1 by simp] at this
  have HU1 := Lib.hid hu1
  have HB0 := Lib.hid hb0
  have HB1 := Lib.hid hb1
  clear hu0 hu1 hb0 hb1
  go_enter Tryz.func129, Tryz.ntmps129
  go_wp2_with fail
  generalize (w.alloc (.cells #[.int .i64 0, .int .i64 0, .int .i64 0, .int .i64 0, .int .i64 0, .int .i64 0, .int .i64 0, .int .i64 0, .int .i64 0, .int .i64 0] 25)).alloc (.cells #[.int .i64 0, .int .i64 0, .int .i64 0, .int .i64 0, .int .i64 0, .int .i64 0, .int .i64 0, .int .i64 0, .int .i64 0, .int .i64 0] 25) = w1 at *
  obtain ⟨g1, hg1⟩ : ∃ g, w.heap.size + 1 = g := ⟨_, rfl⟩
  have HG1 := Lib.hid hg1
  rw [hg1] at HB1
  simp only [hg1]
  clear hg1
  go_loopw [2] (fun i wr => ∃ k : Nat, k ≤ 10 ∧ i = .int .i64 k ∧ Hid (Blk wr g1 25 (List.replicate k (.int .i64 (-1)) ++ List.replicate (10 - k) (.int .i64 0))) ∧ Hid (Blk wr w.heap.size 25 [.int .i64 0, .int .i64 0, .int .i64 0, .int .i64 0, .int .i64 0, .int .i64 0, .int .i64 0, .int .i64 0, .int .i64 0, .int .i64 0]) ∧ Hid (Upd [] w wr)) (fun i _ => 10 - (intOf i).toNat)
  case atStart => exact ⟨0, Nat.zero_le _, rfl, HB1.out, HB0.out, HU1.out⟩
  case round =>
    obtain ⟨k, hk, rfl, hb, hr, hu⟩ := hrel
    clear HB0 HB1 HU1
    by_cases hlt : k < 10
    · have q0 : (0 : Int) ≤ k := by omega
      have q1 : (k : Int) < 10 := by omega
      have f1 := hb.out.frozen k
      obtain ⟨u1, c1⟩ : ∃ u, wr.cell? ⟨g1, k, none⟩ = some u := by
        rw [hb.out.cell]
        exact ⟨_, List.getElem?_eq_getElem (by simp; omega)⟩
      have hs := hb.out.set_ k (.int .i64 (-1))
      have hse := set_mid ([] : List Value) k (10 - k) (.int .i64 (-1)) (.int .i64 0) k (by simp) (by omega)
      simp only [List.nil_append] at hse
      rw [hse, show 10 - k - 1 = 10 - (k + 1) by omega] at hs
      have hup : Upd [g1] wr (wr.setCell ⟨g1, k, none⟩ (.int .i64 (-1))) := (Upd.refl [g1] wr).setCell _ _ (.inl (by simp))
      have HS := Lib.hid hs
      have HR := Lib.hid (hr.out.upd hup (by have := HG1.out; simp; omega))
      have HU := Lib.hid (hu.out.trans (T := []) hup (by simp) (fun x hx => .inr (by have := HG1.out; simp at hx; omega)))
      clear hs hse hup hb hr hu
      go_wp2_with fail
      go_roundw
      case rel => exact ⟨k + 1, by omega, by go_num, HS.out, HR.out, HU.out⟩
      case measure => simp [intOf]; omega
    · obtain rfl : k = 10 := by omega
      have hb : Blk wr g1 25 [.int .i64 (-1), .int .i64 (-1), .int .i64 (-1), .int .i64 (-1), .int .i64 (-1), .int .i64 (-1), .int .i64 (-1), .int .i64 (-1), .int .i64 (-1), .int .i64 (-1)] := hb.out
      have HR := Lib.hid hr.out
      have e0 := hb.cell 0
      have e1 := hb.cell 1
      have e2 := hb.cell 2
      have e3 := hb.cell 3
      have e4 := hb.cell 4
      have e5 := hb.cell 5
      have e6 := hb.cell 6
      have e7 := hb.cell 7
      have e8 := hb.cell 8
      have e9 := hb.cell 9
      simp only [List.getElem?_cons_zero, List.getElem?_cons_succ] at e0 e1 e2 e3 e4 e5 e6 e7 e8 e9
      clear hb hr
      go_wp2_with (first | ((refine wpList_store_row rfl 25 (.tmp 0) (.tmp 9) rfl w.heap.size #[.int .i64 (-1), .int .i64 (-1), .int .i64 (-1), .int .i64 (-1), .int .i64 (-1), .int .i64 (-1), .int .i64 (-1), .int .i64 (-1), .int .i64 (-1), .int .i64 (-1)] rfl rfl 25 #[.int .i64 0, .int .i64 0, .int .i64 0, .int .i64 0, .int .i64 0, .int .i64 0, .int .i64 0, .int .i64 0, .int .i64 0, .int .i64 0] HR.out (by show _ = some 10; exact infoCaps) rfl (by simp [Value.oneCell']) ?_)) | fail)
      have hU := hu.out.trans (T := []) (upd_row _ w.heap.size #[.int .i64 (-1), .int .i64 (-1), .int .i64 (-1), .int .i64 (-1), .int .i64 (-1), .int .i64 (-1), .int .i64 (-1), .int .i64 (-1), .int .i64 (-1), .int .i64 (-1)]) (by simp) (fun y hy => .inr (by simp at hy; omega))
      have HB := Lib.hid (blk_row HR.out [.int .i64 (-1), .int .i64 (-1), .int .i64 (-1), .int .i64 (-1), .int .i64 (-1), .int .i64 (-1), .int .i64 (-1), .int .i64 (-1), .int .i64 (-1), .int .i64 (-1)])
      have f0 := HB.out.cell 0
      have f1 := HB.out.cell 1
      have f2 := HB.out.cell 2
      have f3 := HB.out.cell 3
      have f4 := HB.out.cell 4
      have f5 := HB.out.cell 5
      have f6 := HB.out.cell 6
      have f7 := HB.out.cell 7
      have f8 := HB.out.cell 8
      have f9 := HB.out.cell 9
      simp only [List.getElem?_cons_zero, List.getElem?_cons_succ] at f0 f1 f2 f3 f4 f5 f6 f7 f8 f9
      clear HB HR hu e0 e1 e2 e3 e4 e5 e6 e7 e8 e9
      generalize World.setRow _ _ _ = W at *
      exact bodyPost_ret (v := noCaps) (by simp [results, Tryz.results129, go_sem, f0, f1, f2, f3, f4, f5, f6, f7, f8, f9]; try rfl) rfl ⟨rfl, hU⟩
set_option maxRecDepth 20000 in
set_option maxHeartbeats 2000000 in
theorem none24_any (w : World) : Calls Tryz.prog 104 #[] w fun e w' => e = .returned noCaps ∧ Upd [] w w' := by
  have hu0 : Upd [] w (w.alloc (.cells #[.int .i64 0, .int .i64 0, .int .i64 0, .int .i64 0, .int .i64 0, .int .i64 0, .int .i64 0, .int .i64 0, .int .i64 0, .int .i64 0] 25)) := (Upd.refl [] w).alloc _
  have HU0 := Lib.hid hu0
  have HB0 := Lib.hid (Blk.new w 25 [.int .i64 0, .int .i64 0, .int .i64 0, .int .i64 0, .int .i64 0, .int .i64 0, .int .i64 0, .int .i64 0, .int .i64 0, .int .i64 0])
  clear hu0
  go_enter Tryz.func104, Tryz.ntmps104
  go_wp2_with fail
  (with_reducible refine (none12_any _).mono ?_)
  rintro e w1 ⟨rfl, hu1⟩
  have HR := Lib.hid (HB0.out.upd hu1 (by simp))
  have hu := Lib.hid (HU0.out.seq hu1)
  clear hu1
  go_wp2_with (first | ((refine wpList_store_row rfl 25 (.tmp 0) (.tmp 1) rfl w.heap.size #[.int .i64 (-1), .int .i64 (-1), .int .i64 (-1), .int .i64 (-1), .int .i64 (-1), .int .i64 (-1), .int .i64 (-1), .int .i64 (-1), .int .i64 (-1), .int .i64 (-1)] rfl rfl 25 #[.int .i64 0, .int .i64 0, .int .i64 0, .int .i64 0, .int .i64 0, .int .i64 0, .int .i64 0, .int .i64 0, .int .i64 0, .int .i64 0] HR.out (by show _ = some 10; exact infoCaps) rfl (by simp [Value.oneCell']) ?_)) | fail)
  have hU := hu.out.trans (T := []) (upd_row _ w.heap.size #[.int .i64 (-1), .int .i64 (-1), .int .i64 (-1), .int .i64 (-1), .int .i64 (-1), .int .i64 (-1), .int .i64 (-1), .int .i64 (-1), .int .i64 (-1), .int .i64 (-1)]) (by simp) (fun y hy => .inr (by simp at hy; omega))
  have HB := Lib.hid (blk_row HR.out [.int .i64 (-1), .int .i64 (-1), .int .i64 (-1), .int .i64 (-1), .int .i64 (-1), .int .i64 (-1), .int .i64 (-1), .int .i64 (-1), .int .i64 (-1), .int .i64 (-1)])
  have f0 := HB.out.cell 0
  have f1 := HB.out.cell 1
  have f2 := HB.out.cell 2
  have f3 := HB.out.cell 3
  have f4 := HB.out.cell 4
  have f5 := HB.out.cell 5
  have f6 := HB.out.cell 6
  have f7 := HB.out.cell 7
  have f8 := HB.out.cell 8
  have f9 := HB.out.cell 9
  simp only [List.getElem?_cons_zero, List.getElem?_cons_succ] at f0 f1 f2 f3 f4 f5 f6 f7 f8 f9
  clear HB HR hu
  generalize World.setRow _ _ _ = W at *
  exact bodyPost_ret (v := noCaps) (by simp [results, Tryz.results104, go_sem, f0, f1, f2, f3, f4, f5, f6, f7, f8, f9]; try rfl) rfl ⟨rfl, hU⟩
set_option maxRecDepth 20000 in
set_option maxHeartbeats 4000000 in
theorem recA_any (w : World) : Calls Tryz.prog 60 #[.int .i64 1, .int .i64 5, .string ⟨#[97]⟩] w fun e w' => e = .returned (.agg #[.int .i64 1, .int .i64 1, .int .i64 5, .string ⟨#[97]⟩, .int .i64 1, .int .i64 (-1), .int .i64 (-1), .int .i64 (-1), .int .i64 (-1), .int .i64 (-1), .int .i64 (-1), .int .i64 (-1), .int .i64 (-1), .int .i64 (-1), .int .i64 (-1)]) ∧ Upd [] w w' := by
  have hu0 : Upd [] w (w.alloc (.cells #[.int .i64 0, .int .i64 0, .int .i64 0, .string ⟨#[]⟩, .int .i64 0, .int .i64 0, .int .i64 0, .int .i64 0, .int .i64 0, .int .i64 0, .int .i64 0, .int .i64 0, .int .i64 0, .int .i64 0, .int .i64 0] 27)) := (Upd.refl [] w).alloc _
  have hu1 : Upd [] w ((w.alloc (.cells #[.int .i64 0, .int .i64 0, .int .i64 0, .string ⟨#[]⟩, .int .i64 0, .int .i64 0, .int .i64 0, .int .i64 0, .int .i64 0, .int .i64 0, .int .i64 0, .int .i64 0, .int .i64 0, .int .i64 0, .int .i64 0] 27)).alloc (.cells #[.int .i64 1, .int .i64 1, .int .i64 5, .string ⟨#[97]⟩, .int .i64 1, .int .i64 0, .int .i64 0, .int .i64 0, .int .i64 0, .int .i64 0, .int .i64 0, .int .i64 0, .int .i64 0, .int .i64 0, .int .i64 0] 27)) := hu0.alloc _
  have hb0 : Blk ((w.alloc (.cells #[.int .i64 0, .int .i64 0, .int .i64 0, .string ⟨#[]⟩, .int .i64 0, .int .i64 0, .int .i64 0, .int .i64 0, .int .i64 0, .int .i64 0, .int .i64 0, .int .i64 0, .int .i64 0, .int .i64 0, .int .i64 0] 27)).alloc (.cells #[.int .i64 1, .int .i64 1, .int .i64 5, .string ⟨#[97]⟩, .int .i64 1, .int .i64 0, .int .i64 0, .int .i64 0, .int .i64 0, .int .i64 0, .int .i64 0, .int .i64 0, .int .i64 0, .int .i64 0, .int .i64 0] 27)) w.heap.size 27 [.int .i64 0, .int .i64 0, .int .i64 0, .string ⟨#[]⟩, .int .i64 0, .int .i64 0, .int .i64 0, .int .i64 0, .int .i64 0, .int .i64 0, .int .i64 0, .int .i64 0, .int .i64 0, .int .i64 0, .int .i64 0] := (Blk.new w 27 [.int .i64 0, .int .i64 0, .int .i64 0, .string ⟨#[]⟩, .int .i64 0, .int .i64 0, .int .i64 0, .int .i64 0, .int .i64 0, .int .i64 0, .int .i64 0, .int .i64 0, .int .i64 0, .int .i64 0, .int .i64 0]).upd ((Upd.refl [] _).alloc _) (by simp)
  have hb1 : Blk ((w.alloc (.cells #[.int .i64 0, .int .i64 0, .int .i64 0, .string ⟨#[]⟩, .int .i64 0, .int .i64 0, .int .i64 0, .int .i64 0, .int .i64 0, .int .i64 0, .int .i64 0, .int .i64 0, .int .i64 0, .int .i64 0, .int .i64 0] 27)).alloc (.cells #[.int .i64 1, .int .i64 1, .int .i64 5, .string ⟨#[97]⟩, .int .i64 1, .int .i64 0, .int .i64 0, .int .i64 0, .int .i64 0, .int .i64 0, .int .i64 0, .int .i64 0, .int .i64 0, .int .i64 0, .int .i64 0] 27)) (w.heap.size + 1) 27 [.int .i64 1, .int .i64 1, .int .i64 5, .string ⟨#[97]⟩, .int .i64 1, .int .i64 0, .int .i64 0, .int .i64 0, .int .i64 0, .int .i64 0, .int .i64 0, .int .i64 0, .int .i64 0, .int .i64 0, .int .i64 0] := by
    have := Blk.new (w.alloc (.cells #[.int .i64 0, .int .i64 0, .int .i64 0, .string ⟨#[]⟩, .int .i64 0, .int .i64 0, .int .i64 0, .int .i64 0, .int .i64 0, .int .i64 0, .int .i64 0, .int .i64 0, .int .i64 0, .int .i64 0, .int .i64 0] 27)) 27 [.int .i64 1, .int .i64 1, .int .i64 5, .string ⟨#[97]⟩, .int .i64 1, .int .i64 0, .int .i64 0, .int .i64 0, .int .i64 0, .int .i64 0, .int .i64 0, .int .i64 0, .int .i64 0, .int .i64 0, .int .i64 0]
    rwa [show (w.alloc (.cells #[.int .i64 0, .int .i64 0, .int .i64 0, .string ⟨#[]⟩, .int .i64 0, .int .i64 0, .int .i64 0, .int .i64 0, .int .i64 0, .int .i64 0, .int .i64 0, .int .i64 0, .int .i64 0, .int .i64 0, .int .i64 0] 27)).heap.size = w.heap.size + 1 by simp] at this
  have HU1 := Lib.hid hu1
  have HB0 := Lib.hid hb0
  have HB1 := Lib.hid hb1
  clear hu0 hu1 hb0 hb1
  go_enter Tryz.func60, Tryz.ntmps60
  go_wp2_with fail
  generalize (w.alloc (.cells #[.int .i64 0, .int .i64 0, .int .i64 0, .string ⟨#[]⟩, .int .i64 0, .int .i64 0, .int .i64 0, .int .i64 0, .int .i64 0, .int .i64 0, .int .i64 0, .int .i64 0, .int .i64 0, .int .i64 0, .int .i64 0] 27)).alloc (.cells #[.int .i64 1, .int .i64 1, .int .i64 5, .string ⟨#[97]⟩, .int .i64 1, .int .i64 0, .int .i64 0, .int .i64 0, .int .i64 0, .int .i64 0, .int .i64 0, .int .i64 0, .int .i64 0, .int .i64 0, .int .i64 0] 27) = w1 at *
  (with_reducible refine (none24_any _).mono ?_)
  rintro e w2 ⟨rfl, hu2⟩
  have HBX := Lib.hid (HB1.out.upd hu2 (by simp))
  have HBY := Lib.hid (HB0.out.upd hu2 (by simp))
  have HU2 := Lib.hid (HU1.out.seq hu2)
  have hth := HBX.out.there 5 10 (by simp)
  clear hu2 HB0 HB1
  obtain ⟨W3, hW3⟩ : ∃ W, w2.setCells (w.heap.size + 1) 5 [.int .i64 (-1), .int .i64 (-1), .int .i64 (-1), .int .i64 (-1), .int .i64 (-1), .int .i64 (-1), .int .i64 (-1), .int .i64 (-1), .int .i64 (-1), .int .i64 (-1)] = W := ⟨_, rfl⟩
  have hb3 : Blk W3 (w.heap.size + 1) 27 [.int .i64 1, .int .i64 1, .int .i64 5, .string ⟨#[97]⟩, .int .i64 1, .int .i64 (-1), .int .i64 (-1), .int .i64 (-1), .int .i64 (-1), .int .i64 (-1), .int .i64 (-1), .int .i64 (-1), .int .i64 (-1), .int .i64 (-1), .int .i64 (-1)] := by
    rw [← hW3]
    exact HBX.out.setCells [.int .i64 (-1), .int .i64 (-1), .int .i64 (-1), .int .i64 (-1), .int .i64 (-1), .int .i64 (-1), .int .i64 (-1), .int .i64 (-1), .int .i64 (-1), .int .i64 (-1)] 5
  have hu3 : Upd [w.heap.size + 1] w2 W3 := by
    rw [← hW3]
    exact upd_setCells (w.heap.size + 1) [.int .i64 (-1), .int .i64 (-1), .int .i64 (-1), .int .i64 (-1), .int .i64 (-1), .int .i64 (-1), .int .i64 (-1), .int .i64 (-1), .int .i64 (-1), .int .i64 (-1)] w2 5
  have HR := Lib.hid (HBY.out.upd hu3 (by simp))
  have hu := Lib.hid (HU2.out.trans (T := []) hu3 (by simp) (fun y hy => .inr (by simp at hy; omega)))
  have HW3 := Lib.hid hW3
  clear hu3 HBX HBY HU2 hW3
  have g0 := hb3.cell 0
  have g1 := hb3.cell 1
  have g2 := hb3.cell 2
  have g3 := hb3.cell 3
  have g4 := hb3.cell 4
  have g5 := hb3.cell 5
  have g6 := hb3.cell 6
  have g7 := hb3.cell 7
  have g8 := hb3.cell 8
  have g9 := hb3.cell 9
  have g10 := hb3.cell 10
  have g11 := hb3.cell 11
  have g12 := hb3.cell 12
  have g13 := hb3.cell 13
  have g14 := hb3.cell 14
  simp only [List.getElem?_cons_zero, List.getElem?_cons_succ] at g0 g1 g2 g3 g4 g5 g6 g7 g8 g9 g10 g11 g12 g13 g14
  clear hb3
  go_wp2_with (first | ((refine wpList_store_mid rfl 25 (.tmp 16) (.tmp 15) rfl (w.heap.size + 1) 5 #[.int .i64 (-1), .int .i64 (-1), .int .i64 (-1), .int .i64 (-1), .int .i64 (-1), .int .i64 (-1), .int .i64 (-1), .int .i64 (-1), .int .i64 (-1), .int .i64 (-1)] rfl rfl hth (by show _ = some 10; exact infoCaps) (by simp [Value.oneCell']) ?_); rw [show World.setCells w2 (w.heap.size + 1) 5 (#[.int .i64 (-1), .int .i64 (-1), .int .i64 (-1), .int .i64 (-1), .int .i64 (-1), .int .i64 (-1), .int .i64 (-1), .int .i64 (-1), .int .i64 (-1), .int .i64 (-1)] : Array Value).toList = W3 from HW3.out]; clear hth) | ((refine wpList_store_row rfl 27 (.tmp 6) (.tmp 17) rfl w.heap.size #[.int .i64 1, .int .i64 1, .int .i64 5, .string ⟨#[97]⟩, .int .i64 1, .int .i64 (-1), .int .i64 (-1), .int .i64 (-1), .int .i64 (-1), .int .i64 (-1), .int .i64 (-1), .int .i64 (-1), .int .i64 (-1), .int .i64 (-1), .int .i64 (-1)] rfl rfl 27 #[.int .i64 0, .int .i64 0, .int .i64 0, .string ⟨#[]⟩, .int .i64 0, .int .i64 0, .int .i64 0, .int .i64 0, .int .i64 0, .int .i64 0, .int .i64 0, .int .i64 0, .int .i64 0, .int .i64 0, .int .i64 0] HR.out (by show _ = some 15; exact infoRec) rfl (by simp [Value.oneCell']) ?_)) | fail)
  have hU := hu.out.trans (T := []) (upd_row _ w.heap.size #[.int .i64 1, .int .i64 1, .int .i64 5, .string ⟨#[97]⟩, .int .i64 1, .int .i64 (-1), .int .i64 (-1), .int .i64 (-1), .int .i64 (-1), .int .i64 (-1), .int .i64 (-1), .int .i64 (-1), .int .i64 (-1), .int .i64 (-1), .int .i64 (-1)]) (by simp) (fun y hy => .inr (by simp at hy; omega))
  have HB := Lib.hid (blk_row HR.out [.int .i64 1, .int .i64 1, .int .i64 5, .string ⟨#[97]⟩, .int .i64 1, .int .i64 (-1), .int .i64 (-1), .int .i64 (-1), .int .i64 (-1), .int .i64 (-1), .int .i64 (-1), .int .i64 (-1), .int .i64 (-1), .int .i64 (-1), .int .i64 (-1)])
  have f0 := HB.out.cell 0
  have f1 := HB.out.cell 1
  have f2 := HB.out.cell 2
  have f3 := HB.out.cell 3
  have f4 := HB.out.cell 4
  have f5 := HB.out.cell 5
  have f6 := HB.out.cell 6
  have f7 := HB.out.cell 7
  have f8 := HB.out.cell 8
  have f9 := HB.out.cell 9
  have f10 := HB.out.cell 10
  have f11 := HB.out.cell 11
  have f12 := HB.out.cell 12
  have f13 := HB.out.cell 13
  have f14 := HB.out.cell 14
  simp only [List.getElem?_cons_zero, List.getElem?_cons_succ] at f0 f1 f2 f3 f4 f5 f6 f7 f8 f9 f10 f11 f12 f13 f14
  clear HB HR hu
  generalize World.setRow _ _ _ = W at *
  exact bodyPost_ret (v := .agg #[.int .i64 1, .int .i64 1, .int .i64 5, .string ⟨#[97]⟩, .int .i64 1, .int .i64 (-1), .int .i64 (-1), .int .i64 (-1), .int .i64 (-1), .int .i64 (-1), .int .i64 (-1), .int .i64 (-1), .int .i64 (-1), .int .i64 (-1), .int .i64 (-1)]) (by simp [results, Tryz.results60, go_sem, f0, f1, f2, f3, f4, f5, f6, f7, f8, f9, f10, f11, f12, f13, f14]; try rfl) rfl ⟨rfl, hU⟩
set_option maxRecDepth 20000 in
set_option maxHeartbeats 4000000 in
theorem recB_any (w : World) : Calls Tryz.prog 60 #[.int .i64 2, .int .i64 5, .string ⟨#[]⟩] w fun e w' => e = .returned (.agg #[.int .i64 1, .int .i64 1, .int .i64 5, .string ⟨#[]⟩, .int .i64 2, .int .i64 0, .int .i64 0, .int .i64 0, .int .i64 0, .int .i64 0, .int .i64 0, .int .i64 0, .int .i64 0, .int .i64 0, .int .i64 0]) ∧ Upd [] w w' := by
  have hu0 : Upd [] w (w.alloc (.cells #[.int .i64 0, .int .i64 0, .int .i64 0, .string ⟨#[]⟩, .int .i64 0, .int .i64 0, .int .i64 0, .int .i64 0, .int .i64 0, .int .i64 0, .int .i64 0, .int .i64 0, .int .i64 0, .int .i64 0, .int .i64 0] 27)) := (Upd.refl [] w).alloc _
  have hu1 : Upd [] w ((w.alloc (.cells #[.int .i64 0, .int .i64 0, .int .i64 0, .string ⟨#[]⟩, .int .i64 0, .int .i64 0, .int .i64 0, .int .i64 0, .int .i64 0, .int .i64 0, .int .i64 0, .int .i64 0, .int .i64 0, .int .i64 0, .int .i64 0] 27)).alloc (.cells #[.int .i64 1, .int .i64 1, .int .i64 5, .string ⟨#[]⟩, .int .i64 2, .int .i64 0, .int .i64 0, .int .i64 0, .int .i64 0, .int .i64 0, .int .i64 0, .int .i64 0, .int .i64 0, .int .i64 0, .int .i64 0] 27)) := hu0.alloc _
  have hb0 : Blk ((w.alloc (.cells #[.int .i64 0, .int .i64 0, .int .i64 0, .string ⟨#[]⟩, .int .i64 0, .int .i64 0, .int .i64 0, .int .i64 0, .int .i64 0, .int .i64 0, .int .i64 0, .int .i64 0, .int .i64 0, .int .i64 0, .int .i64 0] 27)).alloc (.cells #[.int .i64 1, .int .i64 1, .int .i64 5, .string ⟨#[]⟩, .int .i64 2, .int .i64 0, .int .i64 0, .int .i64 0, .int .i64 0, .int .i64 0, .int .i64 0, .int .i64 0, .int .i64 0, .int .i64 0, .int .i64 0] 27)) w.heap.size 27 [.int .i64 0, .int .i64 0, .int .i64 0, .string ⟨#[]⟩, .int .i64 0, .int .i64 0, .int .i64 0, .int .i64 0, .int .i64 0, .int .i64 0, .int .i64 0, .int .i64 0, .int .i64 0, .int .i64 0, .int .i64 0] := (Blk.new w 27 [.int .i64 0, .int .i64 0, .int .i64 0, .string ⟨#[]⟩, .int .i64 0, .int .i64 0, .int .i64 0, .int .i64 0, .int .i64 0, .int .i64 0, .int .i64 0, .int .i64 0, .int .i64 0, .int .i64 0, .int .i64 0]).upd ((Upd.refl [] _).alloc _) (by simp)
  have hb1 : Blk ((w.alloc (.cells #[.int .i64 0, .int .i64 0, .int .i64 0, .string ⟨#[]⟩, .int .i64 0, .int .i64 0, .int .i64 0, .int .i64 0, .int .i64 0, .int .i64 0, .int .i64 0, .int .i64 0, .int .i64 0, .int .i64 0, .int .i64 0] 27)).alloc (.cells #[.int .i64 1, .int .i64 1, .int .i64 5, .string ⟨#[]⟩, .int .i64 2, .int .i64 0, .int .i64 0, .int .i64 0, .int .i64 0, .int .i64 0, .int .i64 0, .int .i64 0, .int .i64 0, .int .i64 0, .int .i64 0] 27)) (w.heap.size + 1) 27 [.int .i64 1, .int .i64 1, .int .i64 5, .string ⟨#[]⟩, .int .i64 2, .int .i64 0, .int .i64 0, .int .i64 0, .int .i64 0, .int .i64 0, .int .i64 0, .int .i64 0, .int .i64 0, .int .i64 0, .int .i64 0] := by
    have := Blk.new (w.alloc (.cells #[.int .i64 0, .int .i64 0, .int .i64 0, .string ⟨#[]⟩, .int .i64 0, .int .i64 0, .int .i64 0, .int .i64 0, .int .i64 0, .int .i64 0, .int .i64 0, .int .i64 0, .int .i64 0, .int .i64 0, .int .i64 0] 27)) 27 [.int .i64 1, .int .i64 1, .int .i64 5, .string ⟨#[]⟩, .int .i64 2, .int .i64 0, .int .i64 0, .int .i64 0, .int .i64 0, .int .i64 0, .int .i64 0, .int .i64 0, .int .i64 0, .int .i64 0, .int .i64 0]
    rwa [show (w.alloc (.cells #[.int .i64 0, .int .i64 0, .int .i64 0, .string ⟨#[]⟩, .int .i64 0, .int .i64 0, .int .i64 0, .int .i64 0, .int .i64 0, .int .i64 0, .int .i64 0, .int .i64 0, .int .i64 0, .int .i64 0, .int .i64 0] 27)).heap.size = w.heap.size + 1 by simp] at this
  have HU1 := Lib.hid hu1
  have HB0 := Lib.hid hb0
  have HB1 := Lib.hid hb1
  clear hu0 hu1 hb0 hb1
  go_enter Tryz.func60, Tryz.ntmps60
  have hu := HU1
  have HR := HB0
  have hb3 := HB1.out
  have g0 := hb3.cell 0
  have g1 := hb3.cell 1
  have g2 := hb3.cell 2
  have g3 := hb3.cell 3
  have g4 := hb3.cell 4
  have g5 := hb3.cell 5
  have g6 := hb3.cell 6
  have g7 := hb3.cell 7
  have g8 := hb3.cell 8
  have g9 := hb3.cell 9
  have g10 := hb3.cell 10
  have g11 := hb3.cell 11
  have g12 := hb3.cell 12
  have g13 := hb3.cell 13
  have g14 := hb3.cell 14
  simp only [List.getElem?_cons_zero, List.getElem?_cons_succ] at g0 g1 g2 g3 g4 g5 g6 g7 g8 g9 g10 g11 g12 g13 g14
  go_wp2_with (first | ((refine wpList_store_row rfl 27 (.tmp 6) (.tmp 17) rfl w.heap.size #[.int .i64 1, .int .i64 1, .int .i64 5, .string ⟨#[]⟩, .int .i64 2, .int .i64 0, .int .i64 0, .int .i64 0, .int .i64 0, .int .i64 0, .int .i64 0, .int .i64 0, .int .i64 0, .int .i64 0, .int .i64 0] rfl rfl 27 #[.int .i64 0, .int .i64 0, .int .i64 0, .string ⟨#[]⟩, .int .i64 0, .int .i64 0, .int .i64 0, .int .i64 0, .int .i64 0, .int .i64 0, .int .i64 0, .int .i64 0, .int .i64 0, .int .i64 0, .int .i64 0] HR.out (by show _ = some 15; exact infoRec) rfl (by simp [Value.oneCell']) ?_)) | fail)
  have hU := hu.out.trans (T := []) (upd_row _ w.heap.size #[.int .i64 1, .int .i64 1, .int .i64 5, .string ⟨#[]⟩, .int .i64 2, .int .i64 0, .int .i64 0, .int .i64 0, .int .i64 0, .int .i64 0, .int .i64 0, .int .i64 0, .int .i64 0, .int .i64 0, .int .i64 0]) (by simp) (fun y hy => .inr (by simp at hy; omega))
  have HB := Lib.hid (blk_row HR.out [.int .i64 1, .int .i64 1, .int .i64 5, .string ⟨#[]⟩, .int .i64 2, .int .i64 0, .int .i64 0, .int .i64 0, .int .i64 0, .int .i64 0, .int .i64 0, .int .i64 0, .int .i64 0, .int .i64 0, .int .i64 0])
  have f0 := HB.out.cell 0
  have f1 := HB.out.cell 1
  have f2 := HB.out.cell 2
  have f3 := HB.out.cell 3
  have f4 := HB.out.cell 4
  have f5 := HB.out.cell 5
  have f6 := HB.out.cell 6
  have f7 := HB.out.cell 7
  have f8 := HB.out.cell 8
  have f9 := HB.out.cell 9
  have f10 := HB.out.cell 10
  have f11 := HB.out.cell 11
  have f12 := HB.out.cell 12
  have f13 := HB.out.cell 13
  have f14 := HB.out.cell 14
  simp only [List.getElem?_cons_zero, List.getElem?_cons_succ] at f0 f1 f2 f3 f4 f5 f6 f7 f8 f9 f10 f11 f12 f13 f14
  clear HB HR hu
  generalize World.setRow _ _ _ = W at *
  exact bodyPost_ret (v := .agg #[.int .i64 1, .int .i64 1, .int .i64 5, .string ⟨#[]⟩, .int .i64 2, .int .i64 0, .int .i64 0, .int .i64 0, .int .i64 0, .int .i64 0, .int .i64 0, .int .i64 0, .int .i64 0, .int .i64 0, .int .i64 0]) (by simp [results, Tryz.results60, go_sem, f0, f1, f2, f3, f4, f5, f6, f7, f8, f9, f10, f11, f12, f13, f14]; try rfl) rfl ⟨rfl, hU⟩
end Go.Proofs.YtmhojaiajhdlcaaGreat
namespace Go.Proofs.YtmhojaiajhdlcaaGreat
open Go.RowKit
set_option linter.unusedSimpArgs false
set_option linter.unusedVariables false
/-- The blocks of X are as they were in u; none of A or B is among them. -/
structure KX (w : World) (X : List Nat) (u : World) (A B : List Nat) : Prop where
  sz : u.heap.size ≤ w.heap.size
  lt : ∀ x ∈ X, x < u.heap.size
  outA : ∀ x ∈ X, x ∉ A
  outB : ∀ x ∈ X, x ∉ B
  eq : ∀ x ∈ X, w.heap[x]? = u.heap[x]?
theorem KX.step {w w' u : World} {X A B A' B' S : List Nat} (h : KX w X u A B) (hu : Upd S w w') (hS : ∀ x ∈ S, x ∈ A ∨ x ∈ B) (hA : ∀ x ∈ A', x ∈ A ∨ w.heap.size ≤ x) (hB : ∀ x ∈ B', x ∈ B ∨ w.heap.size ≤ x) : KX w' X u A' B' := by
  have hsz := h.sz
  refine ⟨Nat.le_trans hsz hu.size, h.lt, fun x hx q => ?_, fun x hx q => ?_, fun x hx => ?_⟩
  · rcases hA x q with q | q
    · exact h.outA x hx q
    · have := h.lt x hx; omega
  · rcases hB x q with q | q
    · exact h.outB x hx q
    · have := h.lt x hx; omega
  · rw [hu.block x (by have := h.lt x hx; omega) (fun q => ?_), h.eq x hx]
    rcases hS x q with q | q
    · exact h.outA x hx q
    · exact h.outB x hx q
structure L2 (w0 w : World) (X : List Nat) (u : World) (gd gl gr gk : Nat) (rl : List Rec) (s : DS) (rl2 : List Rec) (s2 : DS) : Prop where
  ex : ∃ F G H K, LD w0 w gd gl F G rl s ∧ RKD w0 w gr gk H K rl2 s2 ∧ Ap (F ++ G) (H ++ K) ∧ KX w X u (F ++ G) (H ++ K)
section
variable {w0 w w' u : World} {X : List Nat} {gd gl gl' gr gk gk' : Nat} {rl rl' rl2 : List Rec} {s s' s2 : DS}
theorem L2.old (h : L2 w0 w X u gd gl gr gk rl s rl2 s2) : Upd [] w0 w := by
  obtain ⟨F, G, H, K, h1, h2, h3, h9⟩ := h.ex
  exact h1.old
theorem L2.upd0 (h : L2 w0 w X u gd gl gr gk rl s rl2 s2) (hu : Upd [] w w') : L2 w0 w' X u gd gl gr gk rl s rl2 s2 := by
  obtain ⟨F, G, H, K, h1, h2, h3, h9⟩ := h.ex
  exact ⟨F, G, H, K, h1.upd0 hu, h2.upd0 hu, h3, h9.step hu (by simp) (fun x hx => .inl hx) (fun x hx => .inl hx)⟩
theorem ap_grow {X Y X' : List Nat} {n : Nat} (h : Ap X Y) (hx : ∀ x ∈ X', x ∈ X ∨ n ≤ x) (hy : ∀ y ∈ Y, y < n) : Ap X' Y := fun x hx' hy' => by
  rcases hx x hx' with q | q
  · exact h x q hy'
  · have := hy x hy'; omega
theorem ap_sym {X Y : List Nat} (h : Ap X Y) : Ap Y X := fun x hx hy => h x hy hx
theorem L2.stepD {F G H K : List Nat} {Y : List Nat} (h1 : LD w0 w gd gl F G rl s) (h2 : RKD w0 w gr gk H K rl2 s2) (h3 : Ap (F ++ G) (H ++ K)) (h9 : KX w X u (F ++ G) (H ++ K)) (hX : ∀ x ∈ Y, x ∈ F ++ G) (ho : LOut w0 w gd gl' Y rl' s' w') : L2 w0 w' X u gd gl' gr gk rl' s' rl2 s2 := by
  obtain ⟨F', G', k1, k2, k3, k4⟩ := (show ∃ F' G', _ from ho)
  replace k2 := k2.mono (T := F ++ G) (fun x hx => .inl (hX x hx))
  replace k3 := fun x hx => (k3 x hx).imp (hX x) id
  replace k4 := fun x hx => (k4 x hx).imp (hX x) id
  have hHK : ∀ x ∈ H ++ K, x < w.heap.size := fun x hx => by
    rcases List.mem_append.1 hx with q | q
    · exact (h2.geF x q).2
    · exact (h2.rd.ge x q).2
  refine ⟨F', G', H, K, k1, h2.upd k2 (fun x hx hs => h3 x hs (List.mem_append.2 (.inl hx))) (fun x hx hs => h3 x hs (List.mem_append.2 (.inr hx))) (fun x hx => ?_), ap_grow h3 (fun x hx => ?_) hHK, h9.step k2 (fun x hx => .inl hx) (fun x hx => ?_) (fun x hx => .inl hx)⟩
  · rcases List.mem_append.1 hx with q | q
    · exact (h1.geF x q).1
    · exact (h1.dd.ge x q).1
  · rcases List.mem_append.1 hx with q | q
    · exact k3 x q
    · exact k4 x q
  · rcases List.mem_append.1 hx with q | q
    · exact k3 x q
    · exact k4 x q
theorem L2.stepR {F G H K : List Nat} {Y : List Nat} (h2 : LD w0 w gd gl H K rl s) (h1 : RKD w0 w gr gk F G rl2 s2) (h3 : Ap (H ++ K) (F ++ G)) (h9 : KX w X u (H ++ K) (F ++ G)) (hX : ∀ x ∈ Y, x ∈ F ++ G) (ho : RKOut w0 w gr gk' Y rl' s' w') : L2 w0 w' X u gd gl gr gk' rl s rl' s' := by
  obtain ⟨F', G', k1, k2, k3, k4⟩ := (show ∃ F' G', _ from ho)
  replace k2 := k2.mono (T := F ++ G) (fun x hx => .inl (hX x hx))
  replace k3 := fun x hx => (k3 x hx).imp (hX x) id
  replace k4 := fun x hx => (k4 x hx).imp (hX x) id
  have hHK : ∀ x ∈ H ++ K, x < w.heap.size := fun x hx => by
    rcases List.mem_append.1 hx with q | q
    · exact (h2.geF x q).2
    · exact (h2.dd.ge x q).2
  refine ⟨H, K, F', G', h2.upd k2 (fun x hx hs => h3 x (List.mem_append.2 (.inl hx)) hs) (fun x hx hs => h3 x (List.mem_append.2 (.inr hx)) hs) (fun x hx => ?_), k1, ap_sym (ap_grow (ap_sym h3) (fun x hx => ?_) hHK), h9.step k2 (fun x hx => .inr hx) (fun x hx => .inl hx) (fun x hx => ?_)⟩
  · rcases List.mem_append.1 hx with q | q
    · exact (h1.geF x q).1
    · exact (h1.rd.ge x q).1
  · rcases List.mem_append.1 hx with q | q
    · exact k3 x q
    · exact k4 x q
  · rcases List.mem_append.1 hx with q | q
    · exact k3 x q
    · exact k4 x q
theorem l2Add (h : L2 w0 w X u gd gl gr gk rl s rl2 s2) (ino gen at_ : Int) (rule : ByteArray) (kind c0 c1 c2 c3 c4 c5 c6 c7 c8 c9 : Int) (hz : s.now.length ≤ 4999 ∧ s.log.length ≤ 500000000 ∧ s.mark.length ≤ 100000 ∧ rl.length ≤ 100000000) {b : Bool} {er : Int} (he : lAdd rl s (mkRec ino gen at_ rule kind c0 c1 c2 c3 c4 c5 c6 c7 c8 c9) = ((b, er), rl', s')) :
    Calls Tryz.prog 31 #[.pointer (some ⟨gl, 0, none⟩), .agg #[.int .i64 ino, .int .i64 gen, .int .i64 at_, .string rule, .int .i64 kind, .int .i64 c0, .int .i64 c1, .int .i64 c2, .int .i64 c3, .int .i64 c4, .int .i64 c5, .int .i64 c6, .int .i64 c7, .int .i64 c8, .int .i64 c9]] w fun e w' => e = .returned (.tuple #[.bool b, .int .i64 er]) ∧ L2 w0 w' X u gd gl gr gk rl' s' rl2 s2 := by
  obtain ⟨F, G, H, K, h1, h2, h3, h9⟩ := id h.ex
  have h4 := ledAdd_c h1 ino gen at_ rule kind c0 c1 c2 c3 c4 c5 c6 c7 c8 c9 hz.1 hz.2.1 hz.2.2.2
  rw [he] at h4
  have h5 : Calls Tryz.prog 31 #[.pointer (some ⟨gl, 0, none⟩), .agg #[.int .i64 ino, .int .i64 gen, .int .i64 at_, .string rule, .int .i64 kind, .int .i64 c0, .int .i64 c1, .int .i64 c2, .int .i64 c3, .int .i64 c4, .int .i64 c5, .int .i64 c6, .int .i64 c7, .int .i64 c8, .int .i64 c9]] w fun e w' => e = .returned (.tuple #[.bool b, .int .i64 er]) ∧ LOut w0 w gd gl (F ++ G) rl' s' w' := h4
  refine h5.mono ?_
  rintro e w' ⟨rfl, ho⟩
  exact ⟨rfl, L2.stepD h1 h2 h3 h9 (fun _ h => h) ho⟩
theorem l2AddR (h : L2 w0 w X u gd gl gr gk rl s rl2 s2) (ino gen at_ : Int) (rule : ByteArray) (kind c0 c1 c2 c3 c4 c5 c6 c7 c8 c9 : Int) (hz : s2.now.length ≤ 4999 ∧ s2.log.length ≤ 500000000 ∧ s2.mark.length ≤ 100000 ∧ rl2.length ≤ 100000000) {b : Bool} {er : Int} (he : lAdd rl2 s2 (mkRec ino gen at_ rule kind c0 c1 c2 c3 c4 c5 c6 c7 c8 c9) = ((b, er), rl', s')) :
    Calls Tryz.prog 32 #[.pointer (some ⟨gk, 0, none⟩), .agg #[.int .i64 ino, .int .i64 gen, .int .i64 at_, .string rule, .int .i64 kind, .int .i64 c0, .int .i64 c1, .int .i64 c2, .int .i64 c3, .int .i64 c4, .int .i64 c5, .int .i64 c6, .int .i64 c7, .int .i64 c8, .int .i64 c9]] w fun e w' => e = .returned (.tuple #[.bool b, .int .i64 er]) ∧ L2 w0 w' X u gd gl gr gk rl s rl' s' := by
  obtain ⟨F, G, H, K, h1, h2, h3, h9⟩ := id h.ex
  have h4 := rfAdd_c h2 ino gen at_ rule kind c0 c1 c2 c3 c4 c5 c6 c7 c8 c9 hz.1 hz.2.1 hz.2.2.2
  rw [he] at h4
  have h5 : Calls Tryz.prog 32 #[.pointer (some ⟨gk, 0, none⟩), .agg #[.int .i64 ino, .int .i64 gen, .int .i64 at_, .string rule, .int .i64 kind, .int .i64 c0, .int .i64 c1, .int .i64 c2, .int .i64 c3, .int .i64 c4, .int .i64 c5, .int .i64 c6, .int .i64 c7, .int .i64 c8, .int .i64 c9]] w fun e w' => e = .returned (.tuple #[.bool b, .int .i64 er]) ∧ RKOut w0 w gr gk (H ++ K) rl' s' w' := h4
  refine h5.mono ?_
  rintro e w' ⟨rfl, ho⟩
  exact ⟨rfl, L2.stepR h1 h2 h3 h9 (fun _ h => h) ho⟩
/-- A new block that is kept. -/
theorem L2.box (h : L2 w0 w X u gd gl gr gk rl s rl2 s2) (o : Obj) : L2 w0 (w.alloc o) [w.heap.size] (w.alloc o) gd gl gr gk rl s rl2 s2 := by
  obtain ⟨F, G, H, K, h1, h2, h3, h9⟩ := h.ex
  have hu : Upd [] w (w.alloc o) := (Upd.refl [] w).alloc _
  refine ⟨F, G, H, K, h1.upd0 hu, h2.upd0 hu, h3, Nat.le_refl _, fun x hx => ?_, fun x hx q => ?_, fun x hx q => ?_, fun _ _ => rfl⟩
  · simp at hx; subst hx; simp
  · simp at hx; subst hx
    rcases List.mem_append.1 q with q | q
    · have := (h1.geF _ q).2; omega
    · have := (h1.dd.ge _ q).2; omega
  · simp at hx; subst hx
    rcases List.mem_append.1 q with q | q
    · have := (h2.geF _ q).2; omega
    · have := (h2.rd.ge _ q).2; omega
theorem L2.kept (h : L2 w0 w X u gd gl gr gk rl s rl2 s2) {g : Nat} {e : TypeId} {xs : List Value} (hg : g ∈ X) (hb : Blk u g e xs) : Blk w g e xs := by
  obtain ⟨F, G, H, K, h1, h2, h3, h9⟩ := h.ex
  unfold Blk
  rw [h9.eq g hg]; exact hb
theorem L2.free (h : L2 w0 w X u gd gl gr gk rl s rl2 s2) : L2 w0 w [] w gd gl gr gk rl s rl2 s2 := by
  obtain ⟨F, G, H, K, h1, h2, h3, h9⟩ := h.ex
  exact ⟨F, G, H, K, h1, h2, h3, Nat.le_refl _, by simp, by simp, by simp, by simp⟩
/-- Behind a call on the program's disk. -/
theorem L2.diskD {F G H K : List Nat} (h1 : LD w0 w gd gl F G rl s) (h2 : RKD w0 w gr gk H K rl2 s2) (h3 : Ap (F ++ G) (H ++ K)) (h9 : KX w X u (F ++ G) (H ++ K)) (ho : DOut w0 w gd G s' w') : L2 w0 w' X u gd gl gr gk rl s' rl2 s2 := by
  obtain ⟨G', k1, k2, k3⟩ := h1.disk (Upd.refl [] w) ho
  exact L2.stepD h1 h2 h3 h9 (fun _ h => h) (h1.out k1 k2 k3)
theorem L2.diskR {F G H K : List Nat} (h1 : LD w0 w gd gl F G rl s) (h2 : RKD w0 w gr gk H K rl2 s2) (h3 : Ap (F ++ G) (H ++ K)) (h9 : KX w X u (F ++ G) (H ++ K)) (ho : ROut w0 w gr K s' w') : L2 w0 w' X u gd gl gr gk rl s rl2 s' := by
  obtain ⟨G', k1, k2, k3⟩ := h2.disk (Upd.refl [] w) ho
  exact L2.stepR h1 h2 h3 h9 (fun _ h => h) (h2.out k1 k2 k3)
theorem l2Open (h : L2 w0 w X u gd gl gr gk rl s rl2 s2) (hz : s.now.length ≤ 4999 ∧ s.log.length ≤ 500000000 ∧ s.mark.length ≤ 100000 ∧ rl.length ≤ 100000000) (he : lOpen s = (rl', s')) :
    Calls Tryz.prog 23 #[.pointer (some ⟨gd, 0, none⟩)] w fun e w' => ∃ gl', e = .returned (.tuple #[.pointer (some ⟨gl', 0, none⟩), .int .i64 0]) ∧ L2 w0 w' X u gd gl' gr gk rl' s' rl2 s2 := by
  obtain ⟨F, G, H, K, h1, h2, h3, h9⟩ := id h.ex
  have h4 := ledOpen_any h1.dd (by omega) (by omega)
  rw [he] at h4
  refine h4.mono ?_
  rintro e w' ⟨gl', rfl, ho⟩
  exact ⟨gl', rfl, L2.stepD h1 h2 h3 h9 (fun x hx => List.mem_append.2 (.inr hx)) ho⟩
theorem l2OpenR (h : L2 w0 w X u gd gl gr gk rl s rl2 s2) (hz : s2.now.length ≤ 4999 ∧ s2.log.length ≤ 500000000 ∧ s2.mark.length ≤ 100000 ∧ rl2.length ≤ 100000000) (he : lOpen s2 = (rl', s')) :
    Calls Tryz.prog 24 #[.pointer (some ⟨gr, 0, none⟩)] w fun e w' => ∃ gk', e = .returned (.pointer (some ⟨gk', 0, none⟩)) ∧ L2 w0 w' X u gd gl gr gk' rl s rl' s' := by
  obtain ⟨F, G, H, K, h1, h2, h3, h9⟩ := id h.ex
  have h4 := rfOpen_any h2.rd (by omega) (by omega)
  rw [he] at h4
  refine h4.mono ?_
  rintro e w' ⟨gl', rfl, ho⟩
  exact ⟨gl', rfl, L2.stepR h1 h2 h3 h9 (fun x hx => List.mem_append.2 (.inr hx)) ho⟩
theorem l2Back (h : L2 w0 w X u gd gl gr gk rl s rl2 s2) (n : Int) (hn : I64 n) (hz : s.now.length ≤ 4999 ∧ s.log.length ≤ 500000000 ∧ s.mark.length ≤ 100000 ∧ rl.length ≤ 100000000) (he : dBack s n = s') :
    Calls Tryz.prog 35 #[.pointer (some ⟨gd, 0, none⟩), .int .i64 n] w fun e w' => e = .returned (.tuple #[]) ∧ L2 w0 w' X u gd gl gr gk rl s' rl2 s2 := by
  subst he
  obtain ⟨F, G, H, K, h1, h2, h3, h9⟩ := id h.ex
  refine (dBack_any n hn h1.dd hz.2.2.1).mono ?_
  rintro e w' ⟨rfl, ho⟩
  exact ⟨rfl, L2.diskD h1 h2 h3 h9 ho⟩
theorem l2BackR (h : L2 w0 w X u gd gl gr gk rl s rl2 s2) (n : Int) (hn : I64 n) (hz : s2.now.length ≤ 4999 ∧ s2.log.length ≤ 500000000 ∧ s2.mark.length ≤ 100000 ∧ rl2.length ≤ 100000000) (he : dBack s2 n = s') :
    Calls Tryz.prog 36 #[.pointer (some ⟨gr, 0, none⟩), .int .i64 n] w fun e w' => e = .returned (.tuple #[]) ∧ L2 w0 w' X u gd gl gr gk rl s rl2 s' := by
  subst he
  obtain ⟨F, G, H, K, h1, h2, h3, h9⟩ := id h.ex
  refine (rBack_any n hn h2.rd (by omega)).mono ?_
  rintro e w' ⟨rfl, ho⟩
  exact ⟨rfl, L2.diskR h1 h2 h3 h9 ho⟩
theorem l2Mark (h : L2 w0 w X u gd gl gr gk rl s rl2 s2) (hz : s.now.length ≤ 4999 ∧ s.log.length ≤ 500000000 ∧ s.mark.length ≤ 100000 ∧ rl.length ≤ 100000000) :
    Calls Tryz.prog 21 #[.pointer (some ⟨gd, 0, none⟩)] w fun e w' => e = .returned (.tuple #[]) ∧ L2 w0 w' X u gd gl gr gk rl (dMark s) rl2 s2 := by
  obtain ⟨F, G, H, K, h1, h2, h3, h9⟩ := id h.ex
  refine (dMark_any h1.dd (by omega)).mono ?_
  rintro e w' ⟨rfl, ho⟩
  exact ⟨rfl, L2.diskD h1 h2 h3 h9 ho⟩
theorem l2Has (h : L2 w0 w X u gd gl gr gk rl s rl2 s2) (ino gen at_ : Int) (rule : ByteArray) (hk : Key64 ⟨ino, gen, at_, rule⟩) {b : Bool} (he : hasK rl ⟨ino, gen, at_, rule⟩ = b) :
    Calls Tryz.prog 33 #[.pointer (some ⟨gl, 0, none⟩), .agg #[.int .i64 ino, .int .i64 gen, .int .i64 at_, .string rule]] w fun e w' => e = .returned (.bool b) ∧ Upd [] w w' := by
  subst he
  obtain ⟨F, G, H, K, h1, h2, h3, h9⟩ := id h.ex
  obtain ⟨gm, lv, hl, -⟩ := h1.lc
  exact ledHas_c hl ino gen at_ rule hk
theorem l2HasR (h : L2 w0 w X u gd gl gr gk rl s rl2 s2) (ino gen at_ : Int) (rule : ByteArray) {b : Bool} (he : hasK rl2 ⟨ino, gen, at_, rule⟩ = b) :
    Calls Tryz.prog 34 #[.pointer (some ⟨gk, 0, none⟩), .agg #[.int .i64 ino, .int .i64 gen, .int .i64 at_, .string rule]] w fun e w' => e = .returned (.bool b) ∧ Upd [] w w' := by
  subst he
  obtain ⟨F, G, H, K, h1, h2, h3, h9⟩ := id h.ex
  obtain ⟨lv, hl, -⟩ := h2.rk
  exact rfHas_c hl ino gen at_ rule
theorem l2Len (h : L2 w0 w X u gd gl gr gk rl s rl2 s2) {n : Nat} (hn : rl.length = n) : Calls Tryz.prog 30 #[.pointer (some ⟨gl, 0, none⟩)] w fun e w' => e = .returned (.int .i64 (n : Int)) ∧ w = w' := by
  subst hn
  obtain ⟨F, G, H, K, h1, h2, h3, h9⟩ := id h.ex
  obtain ⟨gm, lv, hl, -⟩ := h1.lc
  exact ledLen_any hl
theorem l2Count (h : L2 w0 w X u gd gl gr gk rl s rl2 s2) {n : Nat} (hn : s.log.length = n) :
    Calls Tryz.prog 27 #[.pointer (some ⟨gd, 0, none⟩)] w fun e w' => e = .returned (.int .i64 (n : Int)) ∧ w = w' := by
  subst hn
  obtain ⟨F, G, H, K, h1, h2, h3, h9⟩ := id h.ex
  exact dCount_any h1.dd
theorem l2List (h : L2 w0 w X u gd gl gr gk rl s rl2 s2) (n : Int) (m : Nat) (hm : m ≤ rl.length) (hn : (n < 0 ∧ m = 0) ∨ (n = (m : Int)) ∨ (((rl.length : Int) < n) ∧ m = rl.length)) (hl : rl.length ≤ 100000000) {tl : List Rec} (ht : rl.drop m = tl) :
    Calls Tryz.prog 26 #[.pointer (some ⟨gl, 0, none⟩), .int .i64 n] w fun e w' => ∃ a q k, e = .returned (.slice a q k) ∧ Hid (RdN 15 recCells w' (.slice a q k) tl) ∧ Upd [] w w' := by
  subst ht
  obtain ⟨F, G, H, K, h1, h2, h3, h9⟩ := id h.ex
  obtain ⟨gm, lv, hc, -⟩ := h1.lc
  refine (ledList_any hc n m hm hn hl).mono ?_
  rintro e w' ⟨a, q, k, rfl, ho, hu⟩
  exact ⟨a, q, k, rfl, ho.rd recCells_len, hu⟩
theorem l2Read (h : L2 w0 w X u gd gl gr gk rl s rl2 s2) (nm : ByteArray) (hz : s.now.length ≤ 4999 ∧ s.log.length ≤ 500000000 ∧ s.mark.length ≤ 100000 ∧ rl.length ≤ 100000000) {b : List UInt8} {ok : Bool} (he : dGet s.now nm = (b, ok)) :
    Calls Tryz.prog 28 #[.pointer (some ⟨gd, 0, none⟩), sv nm] w fun e w' => ∃ a k, e = .returned (.tuple #[.slice a b.length k, .bool ok]) ∧ Hid (Bytes w' (.slice a b.length k) b) ∧ Upd [] w w' := by
  obtain ⟨F, G, H, K, h1, h2, h3, h9⟩ := id h.ex
  have h4 := dkRead_any nm h1.dd (by omega)
  rw [he] at h4
  refine h4.mono ?_
  rintro e w' ⟨v, rfl, ho, hu⟩
  have hr := ho.rd
  obtain ⟨a, k, rfl, -⟩ := id hr
  exact ⟨a, k, rfl, hr, hu⟩
theorem l2ReadR (h : L2 w0 w X u gd gl gr gk rl s rl2 s2) (nm : ByteArray) (hz : s2.now.length ≤ 4999 ∧ s2.log.length ≤ 500000000 ∧ s2.mark.length ≤ 100000 ∧ rl2.length ≤ 100000000) {b : List UInt8} {ok : Bool} (he : dGet s2.now nm = (b, ok)) :
    Calls Tryz.prog 29 #[.pointer (some ⟨gr, 0, none⟩), sv nm] w fun e w' => ∃ a k, e = .returned (.tuple #[.slice a b.length k, .bool ok]) ∧ Hid (Bytes w' (.slice a b.length k) b) ∧ Upd [] w w' := by
  obtain ⟨F, G, H, K, h1, h2, h3, h9⟩ := id h.ex
  have h4 := rdRead_any nm h2.rd (by omega)
  rw [he] at h4
  refine h4.mono ?_
  rintro e w' ⟨v, rfl, hr, -, hu⟩
  obtain ⟨a, k, rfl, -⟩ := id hr
  exact ⟨a, k, rfl, hr, hu⟩
/-- The document's rows, and its raw writes. -/
theorem L2.rows (h : L2 w0 w X u gd gl gr gk rl s rl2 s2) : ∃ a k, w.cell? ⟨gk, 1, none⟩ = some (.slice a rl2.length k) ∧ RdN 15 recCells w (.slice a rl2.length k) rl2 ∧ rl2.length ≤ k ∧ k ≤ 9223372036854775807 := by
  obtain ⟨F, G, H, K, h1, h2, h3, h9⟩ := id h.ex
  obtain ⟨lv, hc, -⟩ := h2.rk
  obtain ⟨a, k, rfl, hlk, hlm⟩ := own_slice hc.rows
  exact ⟨a, k, hc.top.cell 1, hc.rows.rd recCells_len, hlk, by unfold maxLen at hlm; omega⟩
theorem L2.ops (h : L2 w0 w X u gd gl gr gk rl s rl2 s2) : ∃ oa oc, w.cell? ⟨gr, 2, none⟩ = some (.slice oa s2.log.length oc) ∧ s2.log.length ≤ oc ∧ oc ≤ 9223372036854775807 := by
  obtain ⟨F, G, H, K, h1, h2, h3, h9⟩ := id h.ex
  obtain ⟨R, nv, mv, ln, lm, ov, ops, hc, rfl, ho, rfl⟩ := h2.rd.ex
  obtain ⟨ao, co, rfl, q1, q2, -⟩ := hc.opw.rd lwCells_len
  exact ⟨ao, co, by have := hc.dk.cell 2; simpa using this, by simpa using q1, by unfold maxLen at q2; omega⟩
end
end Go.Proofs.YtmhojaiajhdlcaaGreat
namespace Go.Proofs.YtmhojaiajhdlcaaGreat
open Go.ChangeShapes Go.WideShapes Go.ChangeAt Go.RowKit Go.Deep
set_option linter.unusedSimpArgs false
set_option linter.unusedVariables false
section
variable {H : Type} {enc : TypeId × Value → H} {P : Program} {w : World} {b0 : Nat} {held : Bool}
theorem el_fields {e : TypeId} {fs : Array Field} {n : Nat} {cs : List Value} {y : DataW H × List MemPlace} (he : P.underlying e = some (.struct fs)) (hone : oneCellFields P fs = true) (hC : cs.length = fs.size)
    (h : DataW.trod enc P w 0 (fun _ => true) held n e cs = some y) (j : Nat) (f : Field) (hj : fs[j]? = some f) : ∃ (n' : Nat) (v : Value) (z : DataW H × List MemPlace), cs[j]? = some v ∧ DataW.trod enc P w 0 (fun _ => true) held n' f.type [v] = some z := by
  obtain ⟨ys, n', hn', hy, hlen, hyl, hf⟩ := DataW.trod_struct he h
  obtain ⟨ho, hk⟩ := hone_of hone j f hj
  have hjl : j < fs.size := (Array.getElem?_eq_some_iff.1 hj).1
  have h1 := hf j f hj
  rw [ho, hk] at h1
  have hone' : (cs.drop j).take 1 = [cs[j]'(by omega)] := by
    rw [List.drop_eq_getElem_cons (by omega)]; rfl
  rw [hone'] at h1
  have hys : ys[j]? = some (ys[j]'(by omega)) := List.getElem?_eq_getElem (by omega)
  exact ⟨n', _, _, List.getElem?_eq_getElem (by omega), h1.trans hys⟩
theorem open_rdN {α : Type} [Inhabited α] (sz : Nat) (c : α → List Value) (good : α → Prop) {t e : TypeId} {v : Value} {d : DataW H} {p : List MemPlace} (ht : P.underlying t = some (.slice e)) (hc : P.cellsOf e = sz) (hpos : 0 < sz)
    (hel : ∀ n cs y, cs.length = sz → DataW.trod enc P w 0 (fun _ => true) held n e cs = some y → ∃ x, cs = c x ∧ good x)
    (hval : Value.okWide P w .any b0 t v) (h : DataW.Trod enc P w 0 (fun _ => true) held t v d p) :
    ∃ l : List α, RdN sz c w v l ∧ (∀ x ∈ l, good x) ∧ (∀ (ts : List TypeId) (ds : List (DataW H)) (j : Nat), (DataW.weightsEach P ts ds).all (· ≤ reachBytes) = true → ts[j]? = some t → ds[j]? = some d → l.length * P.bytesOf e ≤ reachBytes) ∧ DLen d l.length := by
  obtain ⟨a0, len0, cap0, rfl⟩ := okWide_slice ht hval
  obtain ⟨fuel, hf⟩ := h
  rcases open_slice ht hf with ⟨hcs, hx⟩ | ⟨a, len, cap, m, n, D, Pl, hcs, hb, hl, hm, hmm, hx, hi⟩
  · simp [Value.cells] at hcs
    obtain ⟨rfl, rfl, rfl⟩ := hcs
    exact ⟨[], ⟨none, 0, rfl, Nat.le_refl _, Nat.zero_le _, fun q => absurd rfl q⟩, by simp, by intros; simp, .inl rfl⟩
  · simp [Value.cells] at hcs
    obtain ⟨rfl, rfl, rfl⟩ := hcs
    simp only [if_true] at hmm
    subst hmm
    obtain ⟨l, hl', hp⟩ := exists_list len0 (fun i x => w.cells? 0 (a.add (i * sz)) sz = some (c x) ∧ good x) (fun i hi' => by
      obtain ⟨cs', hc1, hc2⟩ := hi i (by omega)
      rw [hc] at hc1
      obtain ⟨_, hcl, _⟩ := World.cells?_some hc1
      obtain ⟨x, rfl, hg⟩ := hel _ _ _ hcl hc2
      exact ⟨x, hc1, hg⟩)
    refine ⟨l, ?_, ?_, ?_, ?_⟩
    · refine ⟨_, _, by rw [hl'], by omega, hm, fun hne => ?_⟩
      have hpos' : 0 < len0 := by rw [← hl']; exact List.length_pos_iff.2 hne
      obtain ⟨b, off, spot⟩ := a
      have hspot : spot = none := by
        have h0 := (hp 0 (by omega)).1
        obtain ⟨_, hcl, hat⟩ := World.cells?_some h0
        have h1 := hat 0 hpos
        rw [List.getElem?_eq_getElem (by omega)] at h1
        simpa [Addr.add] using World.cell?_spot h1
      subst hspot
      refine ⟨b, off, rfl, fun j hj i hi' => ?_⟩
      obtain ⟨_, hcl, hat⟩ := World.cells?_some (hp j (by omega)).1
      have h1 := hat i hi'
      rw [add_none, add_none] at h1
      rw [← Nat.add_assoc]; exact h1
    · intro x hx'
      obtain ⟨i, hi', rfl⟩ := List.mem_iff_getElem.1 hx'
      have := (hp i (by omega)).2
      rwa [nth_get l i hi'] at this
    · intro ts ds j hall htj hdj
      have hd := congrArg Prod.fst hx
      simp only at hd
      rw [hd] at hdj
      have := sized_slice hall htj hdj ht
      simp only [List.length_map, List.length_range] at this
      exact Nat.le_trans (Nat.mul_le_mul_right _ (by omega)) this
    · exact .inr ⟨_, _, congrArg Prod.fst hx, by simp [hl']⟩
end
end Go.Proofs.YtmhojaiajhdlcaaGreat
namespace Go.Proofs.YtmhojaiajhdlcaaGreat
open Go.ChangeShapes Go.WideShapes Go.ChangeAt Go.RowKit Go.Deep
set_option linter.unusedSimpArgs false
set_option linter.unusedVariables false
section
variable {H : Type} {enc : TypeId × Value → H} {P : Program} {w : World} {held : Bool}
theorem el_part {e : TypeId} {fs : Array Field} {n : Nat} {cs : List Value} {y : DataW H × List MemPlace} (he : P.underlying e = some (.struct fs))
    (h : DataW.trod enc P w 0 (fun _ => true) held n e cs = some y) (j : Nat) (f : Field) (hj : fs[j]? = some f) : ∃ (n' : Nat) (z : DataW H × List MemPlace), DataW.trod enc P w 0 (fun _ => true) held n' f.type ((cs.drop f.offset).take (P.cellsOf f.type)) = some z := by
  obtain ⟨ys, n', hn', hy, hlen, hyl, hf⟩ := DataW.trod_struct he h
  have hjl : j < fs.size := (Array.getElem?_eq_some_iff.1 hj).1
  exact ⟨n', _, (hf j f hj).trans (List.getElem?_eq_getElem (by omega))⟩
theorem el_elem {t e : TypeId} {k n : Nat} {cs : List Value} {y : DataW H × List MemPlace} (he : P.underlying t = some (.array k e))
    (h : DataW.trod enc P w 0 (fun _ => true) held n t cs = some y) (i : Nat) (hi : i < k) : ∃ (m : Nat) (z : DataW H × List MemPlace), DataW.trod enc P w 0 (fun _ => true) held m e ((cs.drop (i * P.cellsOf e)).take (P.cellsOf e)) = some z := by
  obtain ⟨ys, m, hm, hy, hlen, hyl, hf⟩ := DataW.trod_array he h
  exact ⟨m, _, (hf i hi).trans (List.getElem?_eq_getElem (by omega))⟩
end
theorem cells_intR : Tryz.prog.cellsOf 3 = 1 := by kernel_rfl
theorem cells_strR : Tryz.prog.cellsOf 9 = 1 := by kernel_rfl
theorem cells_keyR : Tryz.prog.cellsOf 23 = 4 := by kernel_rfl
theorem cells_capsR : Tryz.prog.cellsOf 25 = 10 := by kernel_rfl
theorem cells_recR : Tryz.prog.cellsOf 27 = 15 := by kernel_rfl
set_option maxRecDepth 100000 in
theorem el_rec {H : Type} {enc : TypeId × Value → H} {w : World} (n : Nat) (cs : List Value) (y : DataW H × List MemPlace) (hl : cs.length = 15) (h : DataW.trod enc Tryz.prog w 0 (fun _ => true) true n 27 cs = some y) :
    ∃ r : Rec, cs = recCells r ∧ Rec64 r := by
  obtain ⟨n0, z0, t0⟩ := el_part Tryz.underlying27 h 0 _ rfl
  obtain ⟨n1, z1, t1⟩ := el_part Tryz.underlying27 h 1 _ rfl
  obtain ⟨n2, z2, t2⟩ := el_part Tryz.underlying27 h 2 _ rfl
  match cs, hl with
  | [c0, c1, c2, c3, c4, c5, c6, c7, c8, c9, c10, c11, c12, c13, c14], _ =>
    have t0 : DataW.trod enc Tryz.prog w 0 (fun _ => true) true n0 23 [c0, c1, c2, c3] = some z0 := t0
    have t1 : DataW.trod enc Tryz.prog w 0 (fun _ => true) true n1 3 [c4] = some z1 := t1
    have t2 : DataW.trod enc Tryz.prog w 0 (fun _ => true) true n2 25 [c5, c6, c7, c8, c9, c10, c11, c12, c13, c14] = some z2 := t2
    obtain ⟨a0, y0, u0⟩ := el_part Tryz.underlying23 t0 0 _ rfl
    obtain ⟨a1, y1, u1⟩ := el_part Tryz.underlying23 t0 1 _ rfl
    obtain ⟨a2, y2, u2⟩ := el_part Tryz.underlying23 t0 2 _ rfl
    obtain ⟨a3, y3, u3⟩ := el_part Tryz.underlying23 t0 3 _ rfl
    have u0 : DataW.trod enc Tryz.prog w 0 (fun _ => true) true a0 3 [c0] = some y0 := u0
    have u1 : DataW.trod enc Tryz.prog w 0 (fun _ => true) true a1 3 [c1] = some y1 := u1
    have u2 : DataW.trod enc Tryz.prog w 0 (fun _ => true) true a2 3 [c2] = some y2 := u2
    have u3 : DataW.trod enc Tryz.prog w 0 (fun _ => true) true a3 9 [c3] = some y3 := u3
    obtain ⟨k0, rfl, g0⟩ := el_int Tryz.underlying3 _ _ _ u0
    obtain ⟨k1, rfl, g1⟩ := el_int Tryz.underlying3 _ _ _ u1
    obtain ⟨k2, rfl, g2⟩ := el_int Tryz.underlying3 _ _ _ u2
    obtain ⟨s, hs, -, -⟩ := DataW.trod_string Tryz.underlying9 u3
    have hs : [c3] = [Value.string s] := hs
    obtain rfl : c3 = .string s := by simpa using hs
    obtain ⟨k4, rfl, g4⟩ := el_int Tryz.underlying3 _ _ _ t1
    obtain ⟨b0, x0, q0⟩ := el_elem Tryz.underlying25 t2 0 (by omega)
    have q0 : DataW.trod enc Tryz.prog w 0 (fun _ => true) true b0 3 [c5] = some x0 := q0
    obtain ⟨e0, rfl, g5⟩ := el_int Tryz.underlying3 _ _ _ q0
    obtain ⟨b1, x1, q1⟩ := el_elem Tryz.underlying25 t2 1 (by omega)
    have q1 : DataW.trod enc Tryz.prog w 0 (fun _ => true) true b1 3 [c6] = some x1 := q1
    obtain ⟨e1, rfl, g6⟩ := el_int Tryz.underlying3 _ _ _ q1
    obtain ⟨b2, x2, q2⟩ := el_elem Tryz.underlying25 t2 2 (by omega)
    have q2 : DataW.trod enc Tryz.prog w 0 (fun _ => true) true b2 3 [c7] = some x2 := q2
    obtain ⟨e2, rfl, g7⟩ := el_int Tryz.underlying3 _ _ _ q2
    obtain ⟨b3, x3, q3⟩ := el_elem Tryz.underlying25 t2 3 (by omega)
    have q3 : DataW.trod enc Tryz.prog w 0 (fun _ => true) true b3 3 [c8] = some x3 := q3
    obtain ⟨e3, rfl, g8⟩ := el_int Tryz.underlying3 _ _ _ q3
    obtain ⟨b4, x4, q4⟩ := el_elem Tryz.underlying25 t2 4 (by omega)
    have q4 : DataW.trod enc Tryz.prog w 0 (fun _ => true) true b4 3 [c9] = some x4 := q4
    obtain ⟨e4, rfl, g9⟩ := el_int Tryz.underlying3 _ _ _ q4
    obtain ⟨b5, x5, q5⟩ := el_elem Tryz.underlying25 t2 5 (by omega)
    have q5 : DataW.trod enc Tryz.prog w 0 (fun _ => true) true b5 3 [c10] = some x5 := q5
    obtain ⟨e5, rfl, g10⟩ := el_int Tryz.underlying3 _ _ _ q5
    obtain ⟨b6, x6, q6⟩ := el_elem Tryz.underlying25 t2 6 (by omega)
    have q6 : DataW.trod enc Tryz.prog w 0 (fun _ => true) true b6 3 [c11] = some x6 := q6
    obtain ⟨e6, rfl, g11⟩ := el_int Tryz.underlying3 _ _ _ q6
    obtain ⟨b7, x7, q7⟩ := el_elem Tryz.underlying25 t2 7 (by omega)
    have q7 : DataW.trod enc Tryz.prog w 0 (fun _ => true) true b7 3 [c12] = some x7 := q7
    obtain ⟨e7, rfl, g12⟩ := el_int Tryz.underlying3 _ _ _ q7
    obtain ⟨b8, x8, q8⟩ := el_elem Tryz.underlying25 t2 8 (by omega)
    have q8 : DataW.trod enc Tryz.prog w 0 (fun _ => true) true b8 3 [c13] = some x8 := q8
    obtain ⟨e8, rfl, g13⟩ := el_int Tryz.underlying3 _ _ _ q8
    obtain ⟨b9, x9, q9⟩ := el_elem Tryz.underlying25 t2 9 (by omega)
    have q9 : DataW.trod enc Tryz.prog w 0 (fun _ => true) true b9 3 [c14] = some x9 := q9
    obtain ⟨e9, rfl, g14⟩ := el_int Tryz.underlying3 _ _ _ q9
    refine ⟨⟨⟨k0, k1, k2, s⟩, k4, ⟨[e0, e1, e2, e3, e4, e5, e6, e7, e8, e9], rfl⟩⟩, rfl, ⟨i64_of g0, i64_of g1, i64_of g2, i64_of g4, fun c hc => ?_⟩⟩
    simp only [List.mem_cons, List.not_mem_nil, or_false] at hc
    rcases hc with rfl | rfl | rfl | rfl | rfl | rfl | rfl | rfl | rfl | rfl
    · exact i64_of g5
    · exact i64_of g6
    · exact i64_of g7
    · exact i64_of g8
    · exact i64_of g9
    · exact i64_of g10
    · exact i64_of g11
    · exact i64_of g12
    · exact i64_of g13
    · exact i64_of g14
set_option maxRecDepth 100000 in
/-- Records that are handed in. -/
theorem open_recs {H : Type} {enc : TypeId × Value → H} {w : World} {b0 : Nat} {v : Value} {d : DataW H} {p : List MemPlace} (hval : Value.okWide Tryz.prog w .any b0 36 v) (h : DataW.Trod enc Tryz.prog w 0 (fun _ => true) true 36 v d p) :
    ∃ l : List Rec, RdN 15 recCells w v l ∧ ∀ x ∈ l, Rec64 x := by
  obtain ⟨l, h1, h2, -⟩ := open_rdN 15 recCells Rec64 Tryz.underlying36 cells_recR (by omega) (fun n cs y hl h => el_rec n cs y hl h) hval h
  exact ⟨l, h1, h2⟩
set_option maxRecDepth 100000 in
/-- A record that is handed in. -/
theorem open_rec {H : Type} {enc : TypeId × Value → H} {w : World} {b0 : Nat} {v : Value} {d : DataW H} {p : List MemPlace} (hval : Value.okWide Tryz.prog w .any b0 27 v) (h : DataW.Trod enc Tryz.prog w 0 (fun _ => true) true 27 v d p) :
    ∃ r : Rec, v = recVal r ∧ Rec64 r := by
  obtain ⟨cs, rfl, hsz⟩ := okWide_struct Tryz.underlying27 hval
  obtain ⟨fuel, hf⟩ := h
  rw [cells_recR] at hsz
  have hcl : (Value.agg cs).cells.toList.length = 15 := by simpa [Value.cells] using hsz
  obtain ⟨x, hx, hg⟩ := el_rec fuel _ _ (by simpa [Value.cells] using hsz) hf
  refine ⟨x, ?_, hg⟩
  have h1 : cs.toList = recCells x := by simpa [Value.cells] using hx
  have h2 : cs = (recCells x).toArray := by rw [← h1]
  rw [h2]
end Go.Proofs.YtmhojaiajhdlcaaGreat
namespace Go.Proofs.YtmhojaiajhdlcaaGreat
open Go.ChangeShapes Go.WideShapes Go.ChangeAt Go.RowKit Go.Deep
set_option linter.unusedSimpArgs false
set_option linter.unusedVariables false
/-- An ask. -/
structure Ask25 where
  kd : Int
  n : Int
  r : Rec
instance : Inhabited Ask25 := ⟨⟨0, 0, rz⟩⟩
abbrev ask25Cells (x : Ask25) : List Value := .int .i64 x.kd :: .int .i64 x.n :: recCells x.r
structure Ask25Good (x : Ask25) : Prop where
  kd : I64 x.kd
  n : I64 x.n
  r : Rec64 x.r
  rule : x.r.key.rule.size ≤ maxLen
theorem ask25Cells_len (x : Ask25) : (ask25Cells x).length = 17 := by
  show ((recCells x.r).length + 1) + 1 = 17
  rw [recCells_len]
theorem cells_ask25 : Tryz.prog.cellsOf 64 = 17 := by kernel_rfl
set_option maxRecDepth 100000 in
theorem el_ask25 {H : Type} {enc : TypeId × Value → H} {w : World} (n : Nat) (cs : List Value) (y : DataW H × List MemPlace) (hl : cs.length = 17) (h : DataW.trod enc Tryz.prog w 0 (fun _ => true) true n 64 cs = some y) :
    ∃ x : Ask25, cs = ask25Cells x ∧ Ask25Good x := by
  obtain ⟨n0, z0, t0⟩ := el_part Tryz.underlying64 h 0 _ rfl
  obtain ⟨n1, z1, t1⟩ := el_part Tryz.underlying64 h 1 _ rfl
  obtain ⟨n2, z2, t2⟩ := el_part Tryz.underlying64 h 2 _ rfl
  match cs, hl with
  | [c0, c1, d0, d1, d2, d3, d4, d5, d6, d7, d8, d9, d10, d11, d12, d13, d14], _ =>
    have t0 : DataW.trod enc Tryz.prog w 0 (fun _ => true) true n0 3 [c0] = some z0 := t0
    have t1 : DataW.trod enc Tryz.prog w 0 (fun _ => true) true n1 3 [c1] = some z1 := t1
    have t2 : DataW.trod enc Tryz.prog w 0 (fun _ => true) true n2 27 [d0, d1, d2, d3, d4, d5, d6, d7, d8, d9, d10, d11, d12, d13, d14] = some z2 := t2
    obtain ⟨k0, rfl, g0⟩ := el_int Tryz.underlying3 _ _ _ t0
    obtain ⟨k1, rfl, g1⟩ := el_int Tryz.underlying3 _ _ _ t1
    obtain ⟨r, hr, hg⟩ := el_rec n2 [d0, d1, d2, d3, d4, d5, d6, d7, d8, d9, d10, d11, d12, d13, d14] z2 rfl t2
    obtain ⟨n3, z3, t3⟩ := el_part Tryz.underlying27 t2 0 _ rfl
    have t3 : DataW.trod enc Tryz.prog w 0 (fun _ => true) true n3 23 [d0, d1, d2, d3] = some z3 := t3
    obtain ⟨n4, z4, t4⟩ := el_part Tryz.underlying23 t3 3 _ rfl
    have t4 : DataW.trod enc Tryz.prog w 0 (fun _ => true) true n4 9 [d3] = some z4 := t4
    obtain ⟨s, hs, -, hsz⟩ := DataW.trod_string Tryz.underlying9 t4
    have hs : [d3] = [Value.string s] := hs
    have hd3 : d3 = .string s := by simpa using hs
    have hd3' : d3 = .string r.key.rule := by
      have h9 := congrArg (fun l : List Value => l[3]?) hr
      simpa using h9
    have hsr : r.key.rule = s := by rw [hd3] at hd3'; injection hd3' with q; exact q.symm
    exact ⟨⟨k0, k1, r⟩, by show _ :: _ :: [d0, d1, d2, d3, d4, d5, d6, d7, d8, d9, d10, d11, d12, d13, d14] = _; rw [hr], ⟨i64_of g0, i64_of g1, hg, by show r.key.rule.size ≤ maxLen; rw [hsr]; exact hsz⟩⟩
set_option maxRecDepth 100000 in
/-- Asks that are handed in. -/
theorem open_asks25 {H : Type} {enc : TypeId × Value → H} {w : World} {b0 : Nat} {v : Value} {d : DataW H} {p : List MemPlace} (hval : Value.okWide Tryz.prog w .any b0 62 v) (h : DataW.Trod enc Tryz.prog w 0 (fun _ => true) true 62 v d p) :
    ∃ l : List Ask25, RdN 17 ask25Cells w v l ∧ ∀ x ∈ l, Ask25Good x := by
  obtain ⟨l, h1, h2, -⟩ := open_rdN 17 ask25Cells Ask25Good Tryz.underlying62 cells_ask25 (by omega) (fun n cs y hl h => el_ask25 n cs y hl h) hval h
  exact ⟨l, h1, h2⟩
end Go.Proofs.YtmhojaiajhdlcaaGreat
namespace Go.Proofs.YtmhojaiajhdlcaaGreat
set_option linter.unusedSimpArgs false
set_option linter.unusedVariables false
section
variable {P : Program} {l : List Oper} {Q : Exit → Act → World → Prop} {K : Act → World → Prop} {md : Region.Mode}
/-- Q, but K at the end. -/
def QK (Q : Exit → Act → World → Prop) (K : Act → World → Prop) : Exit → Act → World → Prop
  | .normal, a, w => K a w
  | .exit i, a, w => Q (.exit i) a w
  | .goto i, a, w => Q (.goto i) a w
  | .ret, a, w => Q .ret a w
  | .panic c, a, w => Q (.panic c) a w
  | .outgrown, a, w => Q .outgrown a w
theorem QK.calm {Q : Exit → Act → World → Prop} {c : _} {a a' : Act} {w : World} (h : Q (.panic c) a' w → Q (.panic c) a w) : QK Q K (.panic c) a' w → QK Q K (.panic c) a w := h
def isMove (o : Oper) : Bool := match o.op with
  | .move _ => true
  | _ => false
/-- The first n of s are listed. -/
def tf (n s : Nat) : Array Bool := (List.replicate n true ++ List.replicate (s - n) false).toArray
def stepOk (md : Region.Mode) (ops : Array Oper) (n : Nat) : Bool :=
  Region.ready md ops (tf n ops.size) == [n] || ((Region.ready md ops (tf n ops.size)).contains n && Region.free md ops (tf n ops.size) n && (match ops[n]? with | some o => isMove o | none => false))
def natOk (md : Region.Mode) (ops : Array Oper) (n : Nat) : Nat → Bool
  | 0 => true
  | k + 1 => stepOk md ops n && natOk md ops (n + 1) k
theorem tf_set {n s : Nat} (h : n < s) : (tf n s).setIfInBounds n true = tf (n + 1) s := by
  unfold tf
  rw [List.setIfInBounds_toArray, List.set_append_right _ _ (by simp)]
  congr 1
  obtain ⟨d, hd⟩ : ∃ d, s - n = d + 1 := ⟨s - n - 1, by omega⟩
  rw [hd, List.length_replicate, Nat.sub_self, List.replicate_succ, List.set_cons_zero, show s - (n + 1) = d by omega, List.replicate_succ', List.append_assoc]
  rfl
theorem tf_zero (s : Nat) : tf 0 s = Array.replicate s false := by
  unfold tf; simp
theorem wp_QK {o : Oper} {a : Act} {w : World} {K' : Act → World → Prop} (hh : o.wp P a w K' (QK Q K)) : o.wp P a w K' Q := by
  unfold Oper.wp at *
  generalize (execOp a.eval o).run P w = r at *
  cases r with
  | ok n w' =>
    cases n <;> simp only [Oper.upon] at hh ⊢ <;>
      first
        | exact hh
        | exact Calls.mono hh (fun e w'' he => by cases e <;> exact he)
  | halt x w' => cases x <;> simp only [Oper.upon] at hh ⊢ <;> exact hh
theorem wpOp_of_list {i : Nat} {o : Oper} {ops : Array Oper} {rest : List Oper} {a : Act} {w : World} {K' : Act → World → Prop} (ho : ops[i]? = some o) (h : wpList P ops (QK Q K) (o :: rest) a w) (hK : ∀ a w, wpList P ops (QK Q K) rest a w → K' a w) : wpOp P ops Q i K' a w := by
  unfold wpOp
  rw [ho]
  unfold wpList at h
  show if Region.wanted o (yielded ops a.tmps) = true then _ else _
  split
  · rename_i hw
    rw [if_pos hw] at h
    exact h.imp (fun q => wp_QK (Oper.wp_mono hK q)) (fun q => ⟨q.1, q.2⟩)
  · rename_i hw
    rw [if_neg hw] at h
    exact hK _ _ h
theorem any_one_list {i : Nat} {o : Oper} {listed listed' : Array Bool} {fuel : Nat} {a : Act} {w : World} (hr : Region.ready md l.toArray listed = [i]) (ho : l.toArray[i]? = some o) (hl : listed.setIfInBounds i true = listed')
    (h : wpList P l.toArray (QK Q (fun a w => wpAny P md l.toArray Q fuel listed' a w)) [o] a w) : wpAny P md l.toArray Q (fuel + 1) listed a w := by
  subst hl
  refine wpAny_all hr (by simp) (fun j hj => ?_)
  obtain rfl : j = i := by simpa using hj
  exact wpOp_of_list ho h (fun a w q => q)
theorem any_two_list {i j : Nat} {oi oj : Oper} {listed li lj : Array Bool} {fuel : Nat} {a : Act} {w : World} (hr : Region.ready md l.toArray listed = [i, j]) (hoi : l.toArray[i]? = some oi) (hoj : l.toArray[j]? = some oj) (hli : listed.setIfInBounds i true = li) (hlj : listed.setIfInBounds j true = lj)
    (h1 : wpList P l.toArray (QK Q (fun a w => wpAny P md l.toArray Q fuel li a w)) [oi] a w) (h2 : wpList P l.toArray (QK Q (fun a w => wpAny P md l.toArray Q fuel lj a w)) [oj] a w) : wpAny P md l.toArray Q (fuel + 1) listed a w := by
  subst hli hlj
  refine wpAny_all hr (by simp) (fun k hk => ?_)
  rcases List.mem_cons.1 hk with rfl | hk
  · exact wpOp_of_list hoi h1 (fun a w q => q)
  · obtain rfl : k = j := by simpa using hk
    exact wpOp_of_list hoj h2 (fun a w q => q)
theorem any_seq (hs : Region.noSelect l.toArray = true) (hQ : ∀ c a d v w, Q (.panic c) (a.put d v) w → Q (.panic c) a w) {fuel : Nat} : ∀ (k n : Nat) (a : Act) (w : World), natOk md l.toArray n k = true → n + k ≤ l.length → wpList P l.toArray (QK Q K) ((l.drop n).take k) a w →
    (∀ a w, K a w → wpAny P md l.toArray Q fuel (tf (n + k) l.length) a w) → wpAny P md l.toArray Q (fuel + k) (tf n l.length) a w
  | 0, n, a, w, _, _, h, hK => by
    have h' : QK Q K .normal a w := by simpa [wpList] using h
    exact hK a w h'
  | k + 1, n, a, w, hn, hl, h, hK => by
    have hlt : n < l.length := by omega
    have ho : l.toArray[n]? = some l[n] := by simp
    have hd : (l.drop n).take (k + 1) = l[n] :: (l.drop (n + 1)).take k := by rw [List.drop_eq_getElem_cons hlt, List.take_succ_cons]
    rw [hd] at h
    unfold natOk at hn
    rw [Bool.and_eq_true] at hn
    have ih : ∀ a w, wpList P l.toArray (QK Q K) ((l.drop (n + 1)).take k) a w → wpAny P md l.toArray Q (fuel + k) (tf (n + 1) l.length) a w := fun a w q =>
      any_seq hs hQ k (n + 1) a w hn.2 (by omega) q (by rw [show n + 1 + k = n + (k + 1) by omega]; exact hK)
    have h1 := hn.1
    unfold stepOk at h1
    rw [show l.toArray.size = l.length by simp, Bool.or_eq_true, Bool.and_eq_true, Bool.and_eq_true, beq_iff_eq, ho] at h1
    show wpAny P md l.toArray Q ((fuel + k) + 1) (tf n l.length) a w
    rcases h1 with q | ⟨⟨q1, q2⟩, q3⟩
    · refine wpAny_all q (by simp) (fun j hj => ?_)
      obtain rfl : j = n := by simpa using hj
      rw [tf_set hlt]
      exact wpOp_of_list ho h ih
    · have hy : Yields P l.toArray l[n] (if Region.wanted l[n] (yielded l.toArray a.tmps) = true then (match l[n].op with | .move x => a.eval x | _ => undef) else undef) a := by
        by_cases hw : Region.wanted l[n] (yielded l.toArray a.tmps) = true
        · refine .inl ⟨hw, fun w => ?_⟩
          rw [if_pos hw]
          generalize hgo : l[n] = o at q3 ⊢
          obtain ⟨d, op, ty, pos, af, gd⟩ := o
          simp only [isMove] at q3
          cases op <;> simp at q3
          rfl
        · exact .inr ⟨by simpa using hw, by rw [if_neg hw]⟩
      refine wpAny_take ho hs q2 q1 (fun c a w => hQ c a _ _ w) hy ?_
      rw [tf_set hlt]
      refine ih _ _ ?_
      unfold wpList at h
      by_cases hw : Region.wanted l[n] (yielded l.toArray a.tmps) = true
      · rw [if_pos hw] at h
        rw [if_pos hw]
        rcases hy with ⟨_, y2⟩ | ⟨y1, _⟩
        · rw [if_pos hw] at y2
          rcases h with h | h
          · unfold Oper.wp at h
            rw [y2 w] at h
            exact h
          · have := h.1.1
            exfalso
            generalize hgo : l[n] = o at q3 this
            obtain ⟨d, op, ty, pos, af, gd⟩ := o
            simp only [isMove] at q3
            cases op <;> simp at q3
            rename_i xx
            have h0 : (Sem.runT P (execOp a.eval { dst := d, op := Op.move xx, type := ty, pos := pos, after := af, guard := gd }) w #[]).2 = #[] := rfl
            rw [h0] at this
            simp at this
        · rw [hw] at y1; cases y1
      · rw [if_neg hw] at h
        rw [if_neg hw]
        exact h
theorem QK_self (Q : Exit → Act → World → Prop) : QK Q (fun a w => Q .normal a w) = Q := by
  funext e a w
  cases e <;> rfl
variable {ops : Array Oper} {a : Act} {w : World} {s f F k n : Nat}
/-- The beginning: the first k in the text's order. -/
theorem reg_seq {id : Nat} (he : l.toArray = ops) (hl : l.length = s) (hm : P.follows .mixedOrders = true) (hs : Region.noSelect ops = true) (hQ : ∀ c a d v w, Q (.panic c) (a.put d v) w → Q (.panic c) a w) (hn : natOk .any ops 0 k = true) (hf : f + k = s)
    (h : wpList P l.toArray (QK Q (fun a w => wpAny P .any l.toArray Q f (tf k s) a w)) (l.take k) a w.drew) : (Code.region id l.toArray true).wp P Q a w := by
  subst he
  refine wp_region_any hm ?_
  subst hl
  have e0 : Array.replicate l.toArray.size false = tf 0 l.length := by rw [tf_zero]; simp
  rw [e0, show l.toArray.size = f + k by simp [hf]]
  exact any_seq hs hQ k 0 a _ hn (by omega) (by simpa using h) (fun a w q => by rw [Nat.zero_add]; exact q)
/-- The next k in the text's order. -/
theorem mid_seq (he : l.toArray = ops) (hl : l.length = s) (hs : Region.noSelect ops = true) (hQ : ∀ c a d v w, Q (.panic c) (a.put d v) w → Q (.panic c) a w) (n k f m : Nat) (hn : natOk .any ops n k = true) (hm : m = n + k) (hF : F = f + k) (hk : m ≤ s)
    (h : wpList P l.toArray (QK Q (fun a w => wpAny P .any l.toArray Q f (tf m s) a w)) ((l.drop n).take k) a w) : wpAny P .any l.toArray Q F (tf n s) a w := by
  subst he hm hF hl
  exact any_seq hs hQ k n a _ hn hk h (fun a w q => q)
/-- The rest in the text's order. -/
theorem end_seq (he : l.toArray = ops) (hl : l.length = s) (hs : Region.noSelect ops = true) (hQ : ∀ c a d v w, Q (.panic c) (a.put d v) w → Q (.panic c) a w) (n : Nat) (hn : natOk .any ops n F = true) (hk : n + F = s) (hr : Region.ready .any ops (tf s s) = [])
    (h : wpList P l.toArray Q (l.drop n) a w) : wpAny P .any l.toArray Q F (tf n s) a w := by
  subst he hl
  have h0 := any_seq (K := fun a w => Q .normal a w) (fuel := 0) hs hQ F n a w hn (by omega) (by rw [QK_self, List.take_of_length_le (by simp; omega)]; exact h) (fun a w q => by rw [hk]; exact wpAny_done hr q 0)
  rwa [Nat.zero_add] at h0
/-- One alone may come up. -/
theorem one_seq {i : Nat} {o : Oper} {listed : Array Bool} (he : l.toArray = ops) (listed' : Array Bool) (hr : Region.ready .any ops listed = [i]) (ho : l.toArray[i]? = some o) (hl : listed.setIfInBounds i true = listed')
    (h : wpList P l.toArray (QK Q (fun a w => wpAny P .any l.toArray Q f listed' a w)) [o] a w) : wpAny P .any l.toArray Q (f + 1) listed a w := by
  subst he
  exact any_one_list hr ho hl h
/-- Two may come up. -/
theorem two_seq {i j : Nat} {oi oj : Oper} {listed : Array Bool} (he : l.toArray = ops) (li lj : Array Bool) (hr : Region.ready .any ops listed = [i, j]) (hoi : l.toArray[i]? = some oi) (hoj : l.toArray[j]? = some oj) (hli : listed.setIfInBounds i true = li) (hlj : listed.setIfInBounds j true = lj)
    (h1 : wpList P l.toArray (QK Q (fun a w => wpAny P .any l.toArray Q f li a w)) [oi] a w) (h2 : wpList P l.toArray (QK Q (fun a w => wpAny P .any l.toArray Q f lj a w)) [oj] a w) : wpAny P .any l.toArray Q (f + 1) listed a w := by
  subst he
  exact any_two_list hr hoi hoj hli hlj h1 h2
theorem wpOp_ok {i : Nat} {o : Oper} {v : Value} {K' : Act → World → Prop} (ho : ops[i]? = some o) (hw : Region.wanted o (yielded ops a.tmps) = true) (hv : (execOp a.eval o).run P w = .ok (.value v) w) (h : K' (a.put o.dst v) w) : wpOp P ops Q i K' a w := by
  unfold wpOp
  simp only [ho]
  simp only [hw, if_true, Oper.wp, hv, Oper.upon]
  exact .inl h
/-- Two that read may come up: their order is all one. -/
theorem pair_seq {i j : Nat} {oi oj : Oper} {listed : Array Bool} {v u : Value} (he : l.toArray = ops) (listed' : Array Bool) (hs : Region.noSelect ops = true) (hr : Region.ready .any ops listed = [i, j]) (hri : Region.ready .any ops (listed.setIfInBounds i true) = [j]) (hrj : Region.ready .any ops (listed.setIfInBounds j true) = [i])
    (hoi : l.toArray[i]? = some oi) (hoj : l.toArray[j]? = some oj) (hap : oi.apart l.toArray oj = true) (hl : (listed.setIfInBounds i true).setIfInBounds j true = listed') (hl2 : (listed.setIfInBounds j true).setIfInBounds i true = listed')
    (hwi : Region.wanted oi (yielded l.toArray a.tmps) = true) (hwj : Region.wanted oj (yielded l.toArray a.tmps) = true) (hvi : (execOp a.eval oi).run P w = .ok (.value v) w) (hvj : (execOp a.eval oj).run P w = .ok (.value u) w)
    (h : wpAny P .any l.toArray Q f listed' ((a.put oi.dst v).put oj.dst u) w) : wpAny P .any l.toArray Q (f + 2) listed a w := by
  subst he
  obtain ⟨p1, p2, p3⟩ := Oper.apart_spec hap
  have si := Region.noSelect_spec hs i oi
  have sj := Region.noSelect_spec hs j oj
  refine wpAny_all hr (by simp) (fun k hk => ?_)
  rcases List.mem_cons.1 hk with rfl | hk
  · refine wpOp_ok hoi hwi hvi ?_
    refine wpAny_all hri (by simp) (fun m hm => ?_)
    obtain rfl : m = j := by simpa using hm
    refine wpOp_ok hoj (by rw [wanted_put oj a oi.dst v p1]; exact hwj) (by rw [execOp_put oj (fun cs b => sj cs b hoj) a oi.dst v p1]; exact hvj) ?_
    rw [hl]; exact h
  · obtain rfl : k = j := by simpa using hk
    refine wpOp_ok hoj hwj hvj ?_
    refine wpAny_all hrj (by simp) (fun m hm => ?_)
    obtain rfl : m = i := by simpa using hm
    refine wpOp_ok hoi (by rw [wanted_put oi a oj.dst u p3]; exact hwi) (by rw [execOp_put oi (fun cs b => si cs b hoi) a oj.dst u p3]; exact hvi) ?_
    rw [hl2, ← Act.put_comm a v u p2]; exact h
theorem qk_normal (h : K a w) : QK Q K .normal a w := h
end
/-- A region of a function's code, by its number. -/
def findReg (n : Nat) : Code → Option Code
  | .region id ops b => if id = n then some (.region id ops b) else none
  | .seq a b => match findReg n a with
    | some c => some c
    | none => findReg n b
  | .block _ c => findReg n c
  | .loop c => findReg n c
  | .scope c => findReg n c
  | .cond _ a b => match findReg n a with
    | some c => some c
    | none => findReg n b
  | _ => none
def rgOps (n : Nat) (o : Option Code) : Array Oper := match o.bind (findReg n) with
  | some (.region _ ops _) => ops
  | _ => #[]
end Go.Proofs.YtmhojaiajhdlcaaGreat
