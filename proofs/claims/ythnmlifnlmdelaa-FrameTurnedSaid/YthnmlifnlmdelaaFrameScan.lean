/- Chapter 23's Scan, the program's and the document's. -/
import Derived.Test.YthnmlifnlmdelaaFrameRef
import Derived.Test.YthnmlifnlmdelaaStrApp
namespace Go.Proofs.Ythnmlifnlmdelaa
open Go.RowKit
set_option linter.unusedSimpArgs false
set_option linter.unusedVariables false
/-- A slice's value. -/
structure Sl where
  a : Option Addr
  n : Nat
  k : Nat
instance : Inhabited Sl := ⟨⟨none, 0, 0⟩⟩
abbrev slv (s : Sl) : Value := .slice s.a s.n s.k
theorem slv_one (s : Sl) : (slv s).oneCell' = true := rfl
/-- Lists of bytes of the call's own. -/
def OwnParts (base : Nat) (w : World) (v : Value) (ls : List (List UInt8)) : Prop :=
  ∃ vs : List Sl, vs.length = ls.length ∧ Own slv base 22 w v vs ∧ ∀ j, j < ls.length → Own bv base 5 w (slv (nth vs j)) (nth ls j)
theorem infoSl : (Try.prog.info? 22).map (fun i => (i.zero, i.size, i.bytes)) = some (some (.slice none 0 0), 1, 24) := by kernel_rfl
theorem OwnParts.nil (base : Nat) (w : World) : OwnParts base w (.slice none 0 0) [] := ⟨[], rfl, Own.nil _ _ _, fun j hj => by simp at hj⟩
theorem OwnParts.form {base : Nat} {w : World} {v : Value} {ls : List (List UInt8)} (h : OwnParts base w v ls) : ∃ a k, v = .slice a ls.length k := by
  obtain ⟨vs, h1, h2, h3⟩ := h
  obtain ⟨a, k, rfl, -⟩ := h2.rd
  exact ⟨a, k, by rw [h1]⟩
theorem OwnParts.upd0 {base : Nat} {w w' : World} {v : Value} {ls : List (List UInt8)} (h : OwnParts base w v ls) (hu : Upd [] w w') : OwnParts base w' v ls := by
  obtain ⟨vs, h1, h2, h3⟩ := h
  exact ⟨vs, h1, h2.upd hu (by simp), fun j hj => (h3 j hj).upd hu (by simp)⟩
/-- One more. -/
theorem OwnParts.snoc {base : Nat} {w w' : World} {v v' : Value} {vs : List Sl} {ls : List (List UInt8)} {s : Sl} {p : List UInt8} (h1 : vs.length = ls.length) (h2 : Own slv base 22 w v vs) (h3 : ∀ j, j < ls.length → Own bv base 5 w (slv (nth vs j)) (nth ls j))
    (hp : Own bv base 5 w (slv s) p) (ho : Own slv base 22 w' v' (vs ++ [s])) (hu : Upd (blk v) w w') : OwnParts base w' v' (ls ++ [p]) := by
  refine ⟨vs ++ [s], by simp [h1], ho, fun j hj => ?_⟩
  have hne : ∀ {u : Value} {q : List UInt8}, Own bv base 5 w u q → Own bv base 5 w' u q := fun k => k.upd hu (Own.ne k h2 (by decide))
  rw [List.length_append, List.length_singleton] at hj
  by_cases hlt : j < ls.length
  · rw [nth_append_left _ _ _ hlt, nth_append_left _ _ _ (by omega)]; exact hne (h3 j hlt)
  · obtain rfl : j = ls.length := by omega
    rw [nth_append_right _ _ _ (Nat.le_refl _), nth_append_right _ _ _ (by omega), h1, Nat.sub_self]
    exact hne hp
theorem nextF_ok (l : List UInt8) (k : Nat) (h : (nextF l k).2.2 = 0) : ∃ n, 1 ≤ n ∧ n ≤ 262144 ∧ (nextF l k).2.1 = ((k + 8 + n : Nat) : Int) ∧ k + 8 + n ≤ l.length ∧ (nextF l k).1.length = n ∧ n = num4 (l.drop k) := by
  unfold nextF at h ⊢
  split at h
  · simp at h
  · rename_i hk
    rw [if_neg hk]
    have hk2 : k ≤ l.length := by omega
    simp only [Int.toNat_natCast] at h ⊢
    have hd : (l.drop k).length = l.length - k := List.length_drop
    generalize l.drop k = r at *
    unfold nextR at h ⊢
    split at h
    · simp at h
    · rename_i h1
      rw [if_neg h1]
      split at h
      · simp at h
      · rename_i h2
        rw [if_neg h2]
        split at h
        · simp at h
        · rename_i h3
          rw [if_neg h3]
          split at h
          · simp at h
          · rename_i h4
            rw [if_neg h4]
            refine ⟨num4 r, by omega, by omega, rfl, by omega, ?_, rfl⟩
            simp only [List.length_take, List.length_drop]; omega
/-- What Scan tells from a place on. -/
def scanF (b : List UInt8) : Nat → Nat → List (List UInt8) × Nat
  | 0, k => ([], k)
  | f + 1, k => if (nextF b k).2.2 = 0 then ((nextF b k).1 :: (scanF b f (nextF b k).2.1.toNat).1, (scanF b f (nextF b k).2.1.toNat).2) else ([], k)
def scanAll (b : List UInt8) : List (List UInt8) × Nat := scanF b (b.length + 1) 0
set_option maxHeartbeats 4000000 in
theorem fScan_any (v : Value) (l : List UInt8) (w : World) (h : Bytes w v l) (hz : l.length ≤ 1000000000) :
    Calls Try.prog 17 #[v] w fun e w' => ∃ u, e = .returned (.tuple #[u, .int .i64 ((scanAll l).2 : Int)]) ∧ OwnParts w.heap.size w' u (scanAll l).1 ∧ Upd [] w w' := by
  have H := Lib.hid h
  obtain ⟨a, cap, rfl, -, -, -⟩ := h
  have HS0 : Hid (scanAll l = ([] ++ (scanF l (l.length + 1) 0).1, (scanF l (l.length + 1) 0).2)) := rfl
  generalize scanAll l = R at *
  go_enter Try.func17, Try.ntmps17
  go_wp2_with fail
  go_loopw [4, 5] (fun o i wr => ∃ (k f : Nat) (acc : List (List UInt8)), i = .int .i64 (k : Int) ∧ k ≤ l.length ∧ acc.length ≤ k ∧ l.length + 1 ≤ k + f ∧ Hid (OwnParts w.heap.size wr o acc) ∧ Hid (Upd [] w wr) ∧ Hid (R = (acc ++ (scanF l f k).1, (scanF l f k).2))) (fun _ i _ => l.length - (intOf i).toNat)
  case atStart => exact ⟨0, l.length + 1, [], rfl, Nat.zero_le _, Nat.le_refl _, by omega, OwnParts.nil _ _, Upd.refl _ _, HS0⟩
  case round =>
    obtain ⟨k, f, acc, rfl, hk, hak, hkf, ho, hu, hR⟩ := hrel
    obtain ⟨ao, ko, rfl⟩ := ho.out.form
    obtain ⟨f, rfl⟩ : ∃ g, f = g + 1 := ⟨f - 1, by omega⟩
    have HN := Lib.hid (fNext_any _ l (k : Int) wr (H.out.upd0 hu.out) hz ⟨by omega, by omega⟩)
    clear HS0
    by_cases he : (nextF l k).2.2 = 0
    · have HK := Lib.hid (nextF_ok l k he)
      have HR2 : Hid (R = ((acc ++ [(nextF l k).1]) ++ (scanF l f (nextF l k).2.1.toNat).1, (scanF l f (nextF l k).2.1.toNat).2)) := by
        unfold Hid; rw [hR.out]; simp only [scanF, he, if_true, List.append_assoc, List.singleton_append]
      have HE := Lib.hid he
      generalize nextF l (k : Int) = r at *
      clear he hR
      obtain ⟨p, to, er⟩ := r
      obtain ⟨n, hn1, hn2, hn3, hn4, hn5, -⟩ := HK.out
      simp only at hn3 hn5
      subst hn3; subst hn5
      have he : er = 0 := HE.out
      subst he
      go_wp2_with fail
      refine HN.out.mono ?_
      rintro e w1 ⟨vp, rfl, hop, hu1⟩
      dsimp only at hop
      obtain ⟨ap, cp, rfl, -⟩ := hop.rd
      obtain ⟨vs, hvl, hvo, hve⟩ := ho.out.upd0 hu1
      have HVL := Lib.hid hvl
      have HVO := Lib.hid hvo
      have HVE := Lib.hid hve
      have HOP := Lib.hid (hop.base_le hu.out.size)
      have HU1 := Lib.hid (hu.out.seq hu1)
      have HU2 := Lib.hid (HU1.out.alloc (.cells #[.slice ap p.length cp] 22))
      have hs1 := HU2.out.size
      clear hop hu1 hvl hvo hve ho hu HN HE
      have hb0 : acc.length ≤ 1000000000 := by omega
      have HLIT := Lib.hid (Rd.lit (w := w1) (c := slv) [⟨ap, p.length, cp⟩] (C := #[.slice ap p.length cp]) (e := 22) (fr := (0, 0)) (g := w1.heap.size) (n := 1) (k := 1) rfl rfl rfl (Nat.le_refl _) (by decide))
      go_wp2_with (at_builtin; refine wpList_app slv_one rfl (.tmp 20) (.tmp 22) rfl Try.underlying27 infoSl rfl (.slice ao acc.length ko) (.slice (some ⟨w1.heap.size, 0, none⟩) 1 1) vs [⟨ap, p.length, cp⟩] rfl rfl (HVO.out.upd ((Upd.refl [] w1).alloc _) (by simp)) HLIT.out (by have := HVL.out; simp; omega) (by have := HVL.out; unfold maxLen; simp; omega) hs1 ?_; intro v3 w3 ho3 hu3 hbk; have HU3 : Hid (Upd [] w w3) := HU2.out.trans hu3 (by simp) (fun x hx => .inr (HVO.out.ge x hx).1); have HO3 : Hid (OwnParts w.heap.size w3 v3 (acc ++ [p])) := OwnParts.snoc HVL.out (HVO.out.upd ((Upd.refl [] w1).alloc _) (by simp)) (fun j hj => (HVE.out j hj).upd ((Upd.refl [] w1).alloc _) (by simp)) (HOP.out.upd ((Upd.refl [] w1).alloc _) (by simp)) ho3 hu3; clear ho3 hu3 hbk)
      go_roundw
      case rel => exact ⟨k + 8 + p.length, f, acc ++ [p], rfl, hn4, by simp; omega, by omega, HO3, HU3, HR2⟩
      case measure => simp [intOf]; omega
    · have HR2 : Hid (R = (acc, k)) := by
        unfold Hid; rw [hR.out]; simp only [scanF, he, if_false, List.append_nil]
      generalize nextF l (k : Int) = r at *
      obtain ⟨p, to, er⟩ := r
      have hne : (er != 0) = true := by rw [bne_iff_ne]; exact he
      have he2 : ¬ er = 0 := he
      clear he hR
      subst HR2
      go_wp2_with fail
      refine HN.out.mono ?_
      rintro e w1 ⟨vp, rfl, hop, hu1⟩
      have HO1 := Lib.hid (ho.out.upd0 hu1)
      have HU1 := Lib.hid (hu.out.seq hu1)
      clear hop hu1
      go_wp2_with fail
      go_ret2
      exact ⟨_, rfl, HO1.out, HU1.out⟩
set_option maxHeartbeats 4000000 in
theorem rScan_any (v : Value) (l : List UInt8) (w : World) (h : Bytes w v l) (hz : l.length ≤ 1000000000) :
    Calls Try.prog 23 #[v] w fun e w' => ∃ u, e = .returned (.tuple #[u, .int .i64 ((scanAll l).2 : Int)]) ∧ OwnParts w.heap.size w' u (scanAll l).1 ∧ Upd [] w w' := by
  have H := Lib.hid h
  obtain ⟨a, cap, rfl, -, -, -⟩ := h
  have HS0 : Hid (scanAll l = ([] ++ (scanF l (l.length + 1) 0).1, (scanF l (l.length + 1) 0).2)) := rfl
  generalize scanAll l = R at *
  go_enter Try.func23, Try.ntmps23
  go_wp2_with fail
  go_loopw [4, 5] (fun o i wr => ∃ (k f : Nat) (acc : List (List UInt8)), i = .int .i64 (k : Int) ∧ k ≤ l.length ∧ acc.length ≤ k ∧ l.length + 1 ≤ k + f ∧ Hid (OwnParts w.heap.size wr o acc) ∧ Hid (Upd [] w wr) ∧ Hid (R = (acc ++ (scanF l f k).1, (scanF l f k).2))) (fun _ i _ => l.length - (intOf i).toNat)
  case atStart => exact ⟨0, l.length + 1, [], rfl, Nat.zero_le _, Nat.le_refl _, by omega, OwnParts.nil _ _, Upd.refl _ _, HS0⟩
  case round =>
    obtain ⟨k, f, acc, rfl, hk, hak, hkf, ho, hu, hR⟩ := hrel
    obtain ⟨ao, ko, rfl⟩ := ho.out.form
    obtain ⟨f, rfl⟩ : ∃ g, f = g + 1 := ⟨f - 1, by omega⟩
    have HN := Lib.hid (rNext_any _ l (k : Int) wr (H.out.upd0 hu.out) hz ⟨by omega, by omega⟩)
    clear HS0
    by_cases he : (nextF l k).2.2 = 0
    · have HK := Lib.hid (nextF_ok l k he)
      have HR2 : Hid (R = ((acc ++ [(nextF l k).1]) ++ (scanF l f (nextF l k).2.1.toNat).1, (scanF l f (nextF l k).2.1.toNat).2)) := by
        unfold Hid; rw [hR.out]; simp only [scanF, he, if_true, List.append_assoc, List.singleton_append]
      have HE := Lib.hid he
      generalize nextF l (k : Int) = r at *
      clear he hR
      obtain ⟨p, to, er⟩ := r
      obtain ⟨n, hn1, hn2, hn3, hn4, hn5, -⟩ := HK.out
      simp only at hn3 hn5
      subst hn3; subst hn5
      have he : er = 0 := HE.out
      subst he
      go_wp2_with fail
      refine HN.out.mono ?_
      rintro e w1 ⟨vp, rfl, hop, hu1⟩
      dsimp only at hop
      obtain ⟨ap, cp, rfl, -⟩ := hop.rd
      obtain ⟨vs, hvl, hvo, hve⟩ := ho.out.upd0 hu1
      have HVL := Lib.hid hvl
      have HVO := Lib.hid hvo
      have HVE := Lib.hid hve
      have HOP := Lib.hid (hop.base_le hu.out.size)
      have HU1 := Lib.hid (hu.out.seq hu1)
      have HU2 := Lib.hid (HU1.out.alloc (.cells #[.slice ap p.length cp] 22))
      have hs1 := HU2.out.size
      clear hop hu1 hvl hvo hve ho hu HN HE
      have hb0 : acc.length ≤ 1000000000 := by omega
      have HLIT := Lib.hid (Rd.lit (w := w1) (c := slv) [⟨ap, p.length, cp⟩] (C := #[.slice ap p.length cp]) (e := 22) (fr := (0, 0)) (g := w1.heap.size) (n := 1) (k := 1) rfl rfl rfl (Nat.le_refl _) (by decide))
      go_wp2_with (at_builtin; refine wpList_app slv_one rfl (.tmp 20) (.tmp 22) rfl Try.underlying27 infoSl rfl (.slice ao acc.length ko) (.slice (some ⟨w1.heap.size, 0, none⟩) 1 1) vs [⟨ap, p.length, cp⟩] rfl rfl (HVO.out.upd ((Upd.refl [] w1).alloc _) (by simp)) HLIT.out (by have := HVL.out; simp; omega) (by have := HVL.out; unfold maxLen; simp; omega) hs1 ?_; intro v3 w3 ho3 hu3 hbk; have HU3 : Hid (Upd [] w w3) := HU2.out.trans hu3 (by simp) (fun x hx => .inr (HVO.out.ge x hx).1); have HO3 : Hid (OwnParts w.heap.size w3 v3 (acc ++ [p])) := OwnParts.snoc HVL.out (HVO.out.upd ((Upd.refl [] w1).alloc _) (by simp)) (fun j hj => (HVE.out j hj).upd ((Upd.refl [] w1).alloc _) (by simp)) (HOP.out.upd ((Upd.refl [] w1).alloc _) (by simp)) ho3 hu3; clear ho3 hu3 hbk)
      go_roundw
      case rel => exact ⟨k + 8 + p.length, f, acc ++ [p], rfl, hn4, by simp; omega, by omega, HO3, HU3, HR2⟩
      case measure => simp [intOf]; omega
    · have HR2 : Hid (R = (acc, k)) := by
        unfold Hid; rw [hR.out]; simp only [scanF, he, if_false, List.append_nil]
      generalize nextF l (k : Int) = r at *
      obtain ⟨p, to, er⟩ := r
      have hne : (er != 0) = true := by rw [bne_iff_ne]; exact he
      have he2 : ¬ er = 0 := he
      clear he hR
      subst HR2
      go_wp2_with fail
      refine HN.out.mono ?_
      rintro e w1 ⟨vp, rfl, hop, hu1⟩
      have HO1 := Lib.hid (ho.out.upd0 hu1)
      have HU1 := Lib.hid (hu.out.seq hu1)
      clear hop hu1
      go_wp2_with fail
      go_ret2
      exact ⟨_, rfl, HO1.out, HU1.out⟩
end Go.Proofs.Ythnmlifnlmdelaa
