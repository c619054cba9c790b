/- The law's own step on a ring. -/
import Derived.Test.YtjomecimbofnfaaRingRuns
import Derived.Test.YtjomecimbofnfaaSliceCut
import Derived.Deep.RegionHeld3
import Derived.Deep.DrawnRows
namespace Go.Proofs.Ytjomecimbofnfaa
open Go.RowKit
set_option linter.unusedSimpArgs false
set_option linter.unusedVariables false
theorem own_empty {α : Type} (c : α → Value) (base : Nat) (e : TypeId) (W : World) (G : Nat) (h : base ≤ G) (hW : Blk W G e []) : Own c base e W (.slice (some ⟨G, 0, none⟩) 0 0) [] :=
  ⟨by simp, .inr ⟨G, 0, #[], rfl, h, hW, Nat.le_refl _, Nat.zero_le _, rfl, rfl⟩⟩
def RStep (base g gl room : Nat) (l : List Int) (w : World) (e : Ending) (w' : World) : Prop :=
  ∃ v' l', e = .returned (.tuple #[v', .bool true]) ∧ Rd iv w' v' l' ∧ (∀ x ∈ blk v', base ≤ x ∧ x ≠ g ∧ x ≠ gl) ∧ RQInt base w' g gl room l' ∧ Upd [g, gl] w w' ∧ l'.length ≤ l.length + 1
set_option linter.unusedSectionVars false
section
variable (w : World) (base g gl room : Nat) (v : Value) (l : List Int) (hs : RQInt base w g gl room l) (hr : Rd iv w v l) (hv : ∀ x ∈ blk v, base ≤ x ∧ x ≠ g ∧ x ≠ gl) (hl : l.length ≤ 2000) (i : Int) (hi : I64 i)
include hs hr hv hl hi
set_option maxRecDepth 20000 in
set_option maxHeartbeats 4000000 in
theorem rStep_other (kd : Int) (h1 : kd ≠ 1) (h2 : kd ≠ 2) (h3 : kd ≠ 3) (h4 : kd ≠ 4) :
    Calls Try.prog 33 #[.pointer (some ⟨g, 0, none⟩), v, .int .i64 (room : Int), .agg #[.int .i64 kd, .int .i64 i]] w (RStep base g gl room l w) := by
  have HS := Lib.hid hs
  have HR := Lib.hid hr
  have HV := Lib.hid hv
  obtain ⟨ao, co, rfl, -⟩ := hr
  have t1 : (kd == 1) = false := by simpa using h1
  have t2 : (kd == 2) = false := by simpa using h2
  have t3 : (kd == 3) = false := by simpa using h3
  have t4 : (kd == 4) = false := by simpa using h4
  have hu0 := (Upd.refl [] w).alloc (Obj.cells #[.int .i64 kd, .int .i64 i] 48)
  have HU0 := Lib.hid hu0
  clear hs hi h1 h2 h3 h4 hv hu0
  go_enter Try.func33, Try.ntmps33
  go_wp2_with fail
  go_ret2
  exact ⟨_, l, rfl, HR.out.upd0 HU0.out, HV.out, HS.out.upd0 HU0.out, HU0.out.mono (by simp), by omega⟩
set_option maxRecDepth 20000 in
set_option maxHeartbeats 4000000 in
theorem rStep_at :
    Calls Try.prog 33 #[.pointer (some ⟨g, 0, none⟩), v, .int .i64 (room : Int), .agg #[.int .i64 3, .int .i64 i]] w (RStep base g gl room l w) := by
  have HS := Lib.hid hs
  have HR := Lib.hid hr
  have HV := Lib.hid hv
  have HI := Lib.hid hi
  obtain ⟨ao, co, rfl, hlc, hcm, hcell⟩ := hr
  have hu0 := (Upd.refl [] w).alloc (Obj.cells #[.int .i64 3, .int .i64 i] 48)
  have HU0 := Lib.hid hu0
  have HC := Lib.hid hcell
  have hlen : l.length ≤ 9223372036854775807 := by omega
  obtain ⟨hi1, hi2⟩ := hi
  clear hs hv hu0 hlc hcm hcell
  by_cases h : i < 0 ∨ (l.length : Int) ≤ i
  · have HA : Hid (qAt l 0 i = (0, false)) := qAt_no _ _ _ h
    have hd : (i < 0) ∨ (0 ≤ i ∧ (l.length : Int) ≤ i) := by omega
    clear h
    rcases hd with h | ⟨h, h'⟩
    all_goals
      go_enter Try.func33, Try.ntmps33
      go_wp2_with fail
      refine (rqAtInt_any _ i 0 false HI.out (HS.out.upd0 HU0.out) HA.out).mono ?_
      rintro e w2 ⟨rfl, hu2⟩
      have c1 : w2.cell? ⟨w.heap.size, 1, none⟩ = some (.int .i64 i) := hu2.cell (by go_simp) (by simp)
      have HU2 := Lib.hid (HU0.out.seq hu2)
      clear hu2
      go_wp2_with fail
      go_ret2
      exact ⟨_, l, rfl, HR.out.upd0 HU2.out, HV.out, HS.out.upd0 HU2.out, HU2.out.mono (by simp), by omega⟩
  · obtain ⟨k, rfl⟩ := Int.eq_ofNat_of_zero_le (show 0 ≤ i by omega)
    have hk : k < l.length := by omega
    have HA : Hid (qAt l 0 (k : Int) = (nth l k, true)) := qAt_ok _ _ _ hk
    obtain ⟨b, off, rfl, hc⟩ := HC.out (by intro h; simp [h] at hk)
    have D0 := Lib.hid (hc k hk)
    generalize nth l k = x at *
    have q0 : (0 : Int) ≤ k := by omega
    have q1 : (k : Int) < l.length := by omega
    clear h hc
    go_enter Try.func33, Try.ntmps33
    go_wp2_with fail
    refine (rqAtInt_any _ k x true HI.out (HS.out.upd0 HU0.out) HA.out).mono ?_
    rintro e w2 ⟨rfl, hu2⟩
    have c1 : w2.cell? ⟨w.heap.size, 1, none⟩ = some (.int .i64 (k : Int)) := hu2.cell (by go_simp) (by simp)
    have HU2 := Lib.hid (HU0.out.seq hu2)
    have c2 : w2.cell? ⟨b, off + k, none⟩ = some (.int .i64 x) := HU2.out.cell D0.out (by simp)
    clear hu2
    go_wp2_with fail
    go_ret2
    exact ⟨_, l, rfl, HR.out.upd0 HU2.out, HV.out, HS.out.upd0 HU2.out, HU2.out.mono (by simp), by omega⟩
set_option maxRecDepth 20000 in
set_option maxHeartbeats 4000000 in
theorem rStep_take :
    Calls Try.prog 33 #[.pointer (some ⟨g, 0, none⟩), v, .int .i64 (room : Int), .agg #[.int .i64 2, .int .i64 i]] w (RStep base g gl room l w) := by
  have HS := Lib.hid hs
  have HR := Lib.hid hr
  have HV := Lib.hid hv
  have hu0 := (Upd.refl [] w).alloc (Obj.cells #[.int .i64 2, .int .i64 i] 48)
  have HU0 := Lib.hid hu0
  clear hs hu0 hi
  cases l with
  | nil =>
    obtain ⟨ao, co, rfl, -⟩ := hr
    clear hv
    go_enter Try.func33, Try.ntmps33
    go_wp2_with fail
    refine (rqTakeInt_any _ 0 false (HS.out.upd0 HU0.out) (by decide)).mono ?_
    rintro e w2 ⟨rfl, hs2, hu2⟩
    have HS2 := Lib.hid hs2
    have HR2 := Lib.hid ((HR.out.upd0 HU0.out).upd hu2 (fun x hx hy => by have := HV.out x hx; simp at hy; omega))
    have HU2 := Lib.hid (HU0.out.trans (T := [g, gl]) hu2 (by simp) (fun y hy => .inl hy))
    clear hs2 hu2
    go_wp2_with fail
    go_ret2
    exact ⟨_, [], rfl, HR2.out, HV.out, HS2.out, HU2.out, by simp⟩
  | cons x l =>
    obtain ⟨ao, co, rfl, hlc, hcm, hcell⟩ := hr
    obtain ⟨b, off, rfl, hc⟩ := hcell (by simp)
    have D0 := Lib.hid (hc 0 (by simp))
    rw [nth_cons_zero, Nat.add_zero] at D0
    have hb := HV.out b (by simp [blk])
    have hq : qAt (x :: l) 0 0 = (x, true) := qAt_ok (x :: l) 0 0 (by simp)
    have HQ := Lib.hid hq
    rw [List.length_cons] at hlc hl HR HV ⊢
    have q1 : (1 : Int) ≤ (l.length : Int) + 1 := by omega
    have q2 : ((l.length : Int) + 1 == 0) = false := by rw [beq_eq_false_iff_ne]; omega
    have q3 : (l.length : Int) + 1 ≤ co := by omega
    have hco : co ≤ 9223372036854775807 := by unfold maxLen at hcm; omega
    clear hc hcell hcm hq hv
    go_enter Try.func33, Try.ntmps33
    go_wp2_with fail
    refine (rqTakeInt_any _ x true (HS.out.upd0 HU0.out) HQ.out).mono ?_
    rintro e w2 ⟨rfl, hs2, hu2⟩
    have HS2 := Lib.hid hs2
    have HR2 := Lib.hid ((HR.out.upd0 HU0.out).upd hu2 (fun x hx hy => by have := HV.out x hx; simp at hy; omega))
    have HU2 := Lib.hid (HU0.out.trans (T := [g, gl]) hu2 (by simp) (fun y hy => .inl hy))
    have c1 : w2.cell? ⟨b, off, none⟩ = some (.int .i64 x) := hu2.cell (HU0.out.cell D0.out (by simp)) (by simp; omega)
    have HD := Lib.hid (HR2.out.drop 1 (by simp))
    rw [List.drop_one, List.tail_cons] at HD
    clear hs2 hu2
    have q4 : (1 : Int) ≤ co := by omega
    by_cases hc1 : co = 1
    · obtain rfl : co = 1 := hc1
      obtain rfl : l = [] := List.eq_nil_of_length_eq_zero (by omega)
      go_wp2_with fail
      go_quiet (fail)
      go_wp2_with fail
      go_ret2
      exact ⟨_, [], rfl, HD.out.drewN _, HV.out, HS2.out.upd0 ((Upd.refl [] _).drewN _), HU2.out.drewN _, by simp⟩
    · have q5 : ¬ (co : Int) = 1 := by omega
      have q6 : (1 : Int) < co := by omega
      rw [if_neg hc1] at HD
      go_wp2_with fail
      go_quiet (fail)
      go_wp2_with fail
      go_ret2
      exact ⟨_, l, rfl, HD.out.drewN _, HV.out, HS2.out.upd0 ((Upd.refl [] _).drewN _), HU2.out.drewN _, by simp; omega⟩
set_option maxRecDepth 20000 in
set_option maxHeartbeats 4000000 in
theorem rStep_put :
    Calls Try.prog 33 #[.pointer (some ⟨g, 0, none⟩), v, .int .i64 (room : Int), .agg #[.int .i64 1, .int .i64 i]] w (RStep base g gl room l w) := by
  have HS := Lib.hid hs
  have HR := Lib.hid hr
  have HV := Lib.hid hv
  have hle := hs.le
  have hlt := Lib.hid hs.lt
  have hbg : base ≤ w.heap.size := by have := hs.lt g (by simp); omega
  have hu0 := (Upd.refl [] w).alloc (Obj.cells #[.int .i64 1, .int .i64 i] 48)
  have HU0 := Lib.hid hu0
  obtain ⟨ao, co, rfl, -⟩ := hr
  obtain ⟨hle1, hle2⟩ := hle
  clear hs hu0 hi hv
  by_cases hfull : room ≤ l.length
  · have q : (room : Int) ≤ l.length := by omega
    go_enter Try.func33, Try.ntmps33
    go_wp2_with fail
    refine (rqPutInt_no _ i (HS.out.upd0 HU0.out) hfull).mono ?_
    rintro e w2 ⟨rfl, hu2⟩
    have HU2 := Lib.hid (HU0.out.seq hu2)
    clear hu2
    go_wp2_with fail
    go_ret2
    exact ⟨_, l, rfl, HR.out.upd0 HU2.out, HV.out, HS.out.upd0 HU2.out, HU2.out.mono (by simp), by omega⟩
  · have hlr : l.length < room := by omega
    have q : (l.length : Int) < room := by omega
    clear hfull
    go_enter Try.func33, Try.ntmps33
    go_wp2_with fail
    refine (rqPutInt_ok _ i (HS.out.upd0 HU0.out) hlr).mono ?_
    rintro e w2 ⟨rfl, hs2, hu2⟩
    have HS2 := Lib.hid hs2
    have HR2 := Lib.hid ((HR.out.upd0 HU0.out).upd hu2 (fun x hx hy => by have := HV.out x hx; simp at hy; omega))
    have HU2 := Lib.hid (HU0.out.trans (T := [g, gl]) hu2 (by simp) (fun y hy => .inl hy))
    have hg1 := (hlt.out g (by simp)).2
    have hg2 := (hlt.out gl (by simp)).2
    have c1 : w2.cell? ⟨w.heap.size, 1, none⟩ = some (.int .i64 i) := hu2.cell (by go_simp) (by simp; omega)
    have hsz := HU2.out.size
    have hsz' : w.heap.size + 1 ≤ w2.heap.size := by have := hu2.size; simp at this; omega
    clear hs2 hu2
    have HA1 : Hid (∀ (W : World) (G : Nat), w2.heap.size ≤ G → Upd [] w2 W → Blk W G 3 [] → ∃ v' w', (Builtin.append_ #[30, 30] 30 #[.slice (some ⟨G, 0, none⟩) 0 0, .slice ao l.length co]).run Try.prog W = .ok v' w' ∧ (Own iv w2.heap.size 3 w' v' l ∧ Upd [G] W w' ∧ Upd [] w2 w' ∧ ∃ a1 k1, v' = .slice a1 l.length k1)) := by
      intro W G hG hU hB
      obtain ⟨v', w', h1, h2, h3, h4⟩ := run_app (P := Try.prog) (ty := 30) (base := w2.heap.size) (c := iv) (fun _ => rfl) Try.underlying30 infoElInt rfl _ (.slice ao l.length co) [] l (own_empty iv _ _ W G hG hB) (HR2.out.upd0 hU) (by simp; omega) (by unfold maxLen; simp; omega) hU.size
      rw [List.nil_append] at h2
      obtain ⟨a1, k1, h5, _⟩ := h2.rd
      exact ⟨v', w', h1, h2, h3, hU.trans h3 (by simp) (fun y hy => .inr (by simp [blk] at hy; omega)), a1, k1, h5⟩
    have HA2 : Hid (∀ (W : World) (a1 : Option Addr) (k1 GR : Nat), Own iv w2.heap.size 3 W (.slice a1 l.length k1) l → Upd [] w2 W → (∀ j u, ([.int .i64 i] : List Value)[j]? = some u → W.cell? ⟨GR, j, none⟩ = some u) → ∃ v' w', (Builtin.append_ #[30, 30] 30 #[.slice a1 l.length k1, .slice (some ⟨GR, 0, none⟩) 1 1]).run Try.prog W = .ok v' w' ∧ (Own iv w2.heap.size 3 w' v' (l ++ [i]) ∧ Upd [] w2 w' ∧ ∃ a2 k2, v' = .slice a2 (l.length + 1) k2)) := by
      intro W a1 k1 GR hO hU hc
      have hr : Rd iv W (.slice (some ⟨GR, 0, none⟩) 1 1) [i] := by
        refine ⟨_, 1, rfl, Nat.le_refl _, by decide, fun _ => ⟨GR, 0, rfl, fun j hj => ?_⟩⟩
        have hj0 : j = 0 := by simpa using hj
        subst hj0
        simpa [nth] using hc 0 _ rfl
      obtain ⟨v', w', h1, h2, h3, h4⟩ := run_app (P := Try.prog) (ty := 30) (base := w2.heap.size) (c := iv) (fun _ => rfl) Try.underlying30 infoElInt rfl _ _ l [i] hO hr (by simp; omega) (by unfold maxLen; simp; omega) hU.size
      obtain ⟨a2, k2, h5, _⟩ := h2.rd
      exact ⟨v', w', h1, h2, hU.trans h3 (by simp) (fun y hy => .inr (hO.ge y hy).1), a2, k2, by rw [h5]; simp⟩
    go_wp2_with fail
    go_region_held3 (fun w' => w'.cell? ⟨w.heap.size, 1, none⟩ = some (.int .i64 i)) (first | go_keep | exact hkeep2 | exact hkeep)
      (first
        | ((refine step_app_of rfl (.tmp 33) (.tmp 36) rfl (.slice a1 l.length k1) (.slice (some ⟨w3.heap.size, 0, none⟩) 1 1) (by rfl) (by rfl) (HA2.out _ a1 k1 (w3.heap.size) ?_ ?_ ?_) ?_); (refine Own.upd (S := []) ho3 ?_ (by simp); (repeat (first | exact Upd.refl _ _ | apply Upd.drew | apply Upd.drewN | apply Upd.alloc))); (refine hu23.seq ?_; (repeat (first | exact Upd.refl _ _ | apply Upd.drew | apply Upd.drewN | apply Upd.alloc))); exact fun j u h => ((Upd.refl [] _).drew).cell (cells_new (W := w3) rfl rfl j u h) (by simp); (rintro v2 w4 ⟨ho4, hu4, a2, k2, rfl⟩; have hkeep2 := hu4.cell c1 (by simp); dsimp only))
        | ((refine step_app_of rfl (.tmp 33) (.tmp 36) rfl (.slice a1 l.length k1) (.slice (some ⟨w2.heap.size + 1, 0, none⟩) 1 1) (by rfl) (by rfl) (HA2.out _ a1 k1 (w2.heap.size + 1) ?_ ?_ ?_) ?_); (refine Own.upd (S := []) ho3 ?_ (by simp); (repeat (first | exact Upd.refl _ _ | apply Upd.drew | apply Upd.drewN | apply Upd.alloc))); (refine hu23.seq ?_; (repeat (first | exact Upd.refl _ _ | apply Upd.drew | apply Upd.drewN | apply Upd.alloc))); exact fun j u h => ((Upd.refl [] _).drew).cell (hcr j u h) (by simp); (rintro v2 w4 ⟨ho4, hu4, a2, k2, rfl⟩; have hkeep2 := hu4.cell c1 (by simp); dsimp only))
        | ((refine step_app_of rfl (.tmp 33) (.tmp 36) rfl (.slice a1 l.length k1) (.slice (some ⟨w2.heap.size, 0, none⟩) 1 1) (by rfl) (by rfl) (HA2.out _ a1 k1 (w2.heap.size) ?_ ?_ ?_) ?_); (refine Own.upd (S := []) ho3 ?_ (by simp); (repeat (first | exact Upd.refl _ _ | apply Upd.drew | apply Upd.drewN | apply Upd.alloc))); (refine hu23.seq ?_; (repeat (first | exact Upd.refl _ _ | apply Upd.drew | apply Upd.drewN | apply Upd.alloc))); exact fun j u h => ((Upd.refl [] _).drew).cell (hcr j u h) (by simp); (rintro v2 w4 ⟨ho4, hu4, a2, k2, rfl⟩; have hkeep2 := hu4.cell c1 (by simp); dsimp only))
        | ((refine step_app_of rfl (.tmp 31) (.tmp 32) rfl (.slice (some ⟨w2.heap.size, 0, none⟩) 0 0) (.slice ao l.length co) (by rfl) (by rfl) (HA1.out _ (w2.heap.size) (by omega) ?_ ?_) ?_); (repeat (first | exact Upd.refl _ _ | apply Upd.drew | apply Upd.drewN | apply Upd.alloc)); (refine Blk.fresh (w := w2) (C := #[]) (xs := []) rfl rfl ?_; (repeat (first | exact Upd.refl _ _ | apply Upd.drew | apply Upd.drewN | apply Upd.alloc))); (rintro v1 w3 ⟨ho3, hu3, hu23, a1, k1, rfl⟩; have hkeep := hu3.cell (p := ⟨w.heap.size, 1, none⟩) (v := .int .i64 i) (by go_simp) (by simp; omega); have hcr : ∀ j u, ([.int .i64 i] : List Value)[j]? = some u → w3.cell? ⟨w2.heap.size + 1, j, none⟩ = some u := fun j u h => hu3.cell (((Upd.refl [] _).drew).cell (cells_new (W := w2.alloc (Obj.cells #[] 3)) (by simp) rfl j u h) (by simp)) (by simp); dsimp only))
        | ((refine step_app_of rfl (.tmp 31) (.tmp 32) rfl (.slice (some ⟨w2.heap.size, 0, none⟩) 0 0) (.slice ao l.length co) (by rfl) (by rfl) (HA1.out _ (w2.heap.size) (by omega) ?_ ?_) ?_); (repeat (first | exact Upd.refl _ _ | apply Upd.drew | apply Upd.drewN | apply Upd.alloc)); (refine Blk.fresh (w := w2) (C := #[]) (xs := []) rfl rfl ?_; (repeat (first | exact Upd.refl _ _ | apply Upd.drew | apply Upd.drewN | apply Upd.alloc))); (rintro v1 w3 ⟨ho3, hu3, hu23, a1, k1, rfl⟩; have hkeep := hu3.cell (p := ⟨w.heap.size, 1, none⟩) (v := .int .i64 i) (by go_simp) (by simp; omega); dsimp only))
        | ((refine step_app_of rfl (.tmp 31) (.tmp 32) rfl (.slice (some ⟨w2.heap.size + 1, 0, none⟩) 0 0) (.slice ao l.length co) (by rfl) (by rfl) (HA1.out _ (w2.heap.size + 1) (by omega) ?_ ?_) ?_); (repeat (first | exact Upd.refl _ _ | apply Upd.drew | apply Upd.drewN | apply Upd.alloc)); (refine Blk.fresh (w := w2.alloc (Obj.cells #[.int .i64 i] 3)) (C := #[]) (xs := []) (by simp) rfl ?_; (repeat (first | exact Upd.refl _ _ | apply Upd.drew | apply Upd.drewN | apply Upd.alloc))); (rintro v1 w3 ⟨ho3, hu3, hu23, a1, k1, rfl⟩; have hkeep := hu3.cell (p := ⟨w.heap.size, 1, none⟩) (v := .int .i64 i) (by go_simp) (by simp; omega); have hcr : ∀ j u, ([.int .i64 i] : List Value)[j]? = some u → w3.cell? ⟨w2.heap.size, j, none⟩ = some u := fun j u h => hu3.cell ((((Upd.refl [] _).alloc _).drew).cell (cells_new (W := w2) rfl rfl j u h) (by simp)) (by simp); dsimp only)))
    all_goals
      have HO4 := Lib.hid ho4
      have HU4 := Lib.hid hu4
      clear ho4 hu4 hkeep2 c1
      go_wp2_with fail
      go_ret2
      exact ⟨_, l ++ [i], rfl, HO4.out.rd, fun y hy => by have := (HO4.out.ge y hy).1; omega, HS2.out.upd0 HU4.out, HU2.out.trans HU4.out (fun y hy => hy) (by simp), by simp⟩
set_option maxRecDepth 20000 in
set_option maxHeartbeats 4000000 in
theorem rStep_drop :
    Calls Try.prog 33 #[.pointer (some ⟨g, 0, none⟩), v, .int .i64 (room : Int), .agg #[.int .i64 4, .int .i64 i]] w (RStep base g gl room l w) := by
  have HS := Lib.hid hs
  have HR := Lib.hid hr
  have HV := Lib.hid hv
  have HI := Lib.hid hi
  have hlt := Lib.hid hs.lt
  have hu0 := (Upd.refl [] w).alloc (Obj.cells #[.int .i64 4, .int .i64 i] 48)
  have HU0 := Lib.hid hu0
  obtain ⟨ao, co, rfl, hlc, hcm, -⟩ := hr
  have hco : co ≤ 9223372036854775807 := by unfold maxLen at hcm; omega
  obtain ⟨hi1, hi2⟩ := hi
  have hg1 := (hlt.out g (by simp)).2
  have hg2 := (hlt.out gl (by simp)).2
  clear hs hu0 hv hcm
  have hex : ∃ m : Nat, qN l i = m ∧ m ≤ l.length ∧ ((i < 0 ∧ m = 0) ∨ (0 ≤ i ∧ i ≤ l.length ∧ i = m) ∨ (0 ≤ i ∧ (l.length : Int) < i ∧ m = l.length)) := by
    refine ⟨_, rfl, ?_⟩
    unfold qN; omega
  obtain ⟨m, hm, hml, hcase⟩ := hex
  have HM := Lib.hid hm
  have HD := Lib.hid (HR.out.drop m hml)
  have hmc : (m : Int) ≤ co := by omega
  clear hm
  have finish : ∀ w2 : World, Hid (RQInt base w2 g gl room (l.drop m)) → Hid (Upd [g, gl] w w2) → ∀ v', v' = .slice (if co = m then ao else ao.map (·.add m)) (l.length - m) (co - m) → RStep base g gl room l w (.returned (.tuple #[v', .bool true])) w2 := by
    intro w2 hs2 hu2 v' hv'
    refine ⟨v', l.drop m, rfl, ?_, ?_, hs2.out, hu2.out, by simp; omega⟩
    · rw [hv']; exact HD.out.upd hu2.out (fun x hx hy => by
        have : x ∈ blk (.slice ao l.length co) := by
          split at hx
          · rw [blk_slice ao l.length co (l.length - m) (co - m)]; exact hx
          · cases ao with
            | none => simp [blk] at hx
            | some a => simp [blk, Addr.add] at hx ⊢; split at hx <;> simpa using hx
        have := HV.out x this; simp at hy; omega)
    · rw [hv']; intro x hx
      apply HV.out
      split at hx
      · rw [blk_slice ao l.length co (l.length - m) (co - m)]; exact hx
      · cases ao with
        | none => simp [blk] at hx
        | some a => simp [blk, Addr.add] at hx ⊢; split at hx <;> simpa using hx
  have FIN := Lib.hid finish
  obtain ⟨V, hV, hsl⟩ : ∃ V, V = .slice (if co = m then ao else ao.map (·.add m)) (l.length - m) (co - m) ∧ ∀ W : World, (Instr.slice 30 (.slice ao l.length co) (some (.int .i64 (m : Int))) none none).run Try.prog W = .ok V W :=
    ⟨_, rfl, fun W => by have h := run_cut (P := Try.prog) (size := 1) Try.underlying30 (by kernel_rfl) ao l.length co m hml W; simpa using h⟩
  have HV2 := Lib.hid hV
  clear finish HD HR HV hV
  have hwl : Hid (∀ W : World, RQInt base W g gl room l → Calls Try.prog 20 #[.pointer (some ⟨g, 0, none⟩), .int .i64 i] W fun e w' => e = .returned (.int .i64 (m : Int)) ∧ RQInt base w' g gl room (l.drop m) ∧ Upd [g, gl] W w') :=
    fun W hW => rqDropInt_any W i m m HI.out hW HM.out rfl
  have hb1 : w.heap.size ∉ [g, gl] := by simp; omega
  have HB1 := Lib.hid hb1
  clear hb1
  rcases hcase with ⟨h1, hm0⟩ | ⟨h1, h2, hm0⟩ | ⟨h1, h2, hm0⟩
  · subst hm0
    have hsl' : ∀ W : World, (Instr.slice 30 (.slice ao l.length co) (some (.int .i64 0)) none none).run Try.prog W = .ok V W := hsl
    clear hsl
    go_enter Try.func33, Try.ntmps33
    go_wp2_with fail
    have c1 : (w.alloc (Obj.cells #[.int .i64 4, .int .i64 i] 48)).cell? ⟨w.heap.size, 1, none⟩ = some (.int .i64 i) := by go_simp
    have HSB := Lib.hid (HS.out.upd0 HU0.out)
    generalize w.alloc (Obj.cells #[.int .i64 4, .int .i64 i] 48) = wb at *
    go_region_held3 (fun w' => w'.cell? ⟨w.heap.size, 1, none⟩ = some (.int .i64 i)) (first | go_keep | exact hk1)
      (first
        | (go_at_call 20; refine (hwl.out _ (HSB.out.upd0 ((Upd.refl [] wb).drew))).mono ?_; rintro e w3 ⟨rfl, hs3, hu3⟩; have hk1 := hu3.cell (p := ⟨w.heap.size, 1, none⟩) c1 HB1.out; have HS3 := Lib.hid hs3; have HU3 := Lib.hid (HU0.out.drew.trans (T := [g, gl]) hu3 (by simp) (fun y hy => .inl hy)); clear hs3 hu3; dsimp only))
    go_wp2_with fail
    go_ret2
    exact FIN.out w3 HS3 HU3 _ HV2.out
  · subst hm0
    have hsl' : ∀ W : World, (Instr.slice 30 (.slice ao l.length co) (some (.int .i64 (m : Int))) none none).run Try.prog W = .ok V W := hsl
    clear hsl
    go_enter Try.func33, Try.ntmps33
    go_wp2_with fail
    have c1 : (w.alloc (Obj.cells #[.int .i64 4, .int .i64 (m : Int)] 48)).cell? ⟨w.heap.size, 1, none⟩ = some (.int .i64 (m : Int)) := by go_simp
    have HSB := Lib.hid (HS.out.upd0 HU0.out)
    generalize w.alloc (Obj.cells #[.int .i64 4, .int .i64 (m : Int)] 48) = wb at *
    go_region_held3 (fun w' => w'.cell? ⟨w.heap.size, 1, none⟩ = some (.int .i64 (m : Int))) (first | go_keep | exact hk1)
      (first
        | (go_at_call 20; refine (hwl.out _ (HSB.out.upd0 ((Upd.refl [] wb).drew))).mono ?_; rintro e w3 ⟨rfl, hs3, hu3⟩; have hk1 := hu3.cell (p := ⟨w.heap.size, 1, none⟩) c1 HB1.out; have HS3 := Lib.hid hs3; have HU3 := Lib.hid (HU0.out.drew.trans (T := [g, gl]) hu3 (by simp) (fun y hy => .inl hy)); clear hs3 hu3; dsimp only))
    go_wp2_with fail
    go_ret2
    exact FIN.out w3 HS3 HU3 _ HV2.out
  · subst hm0
    have hsl' : ∀ W : World, (Instr.slice 30 (.slice ao l.length co) (some (.int .i64 (l.length : Int))) none none).run Try.prog W = .ok V W := hsl
    clear hsl
    go_enter Try.func33, Try.ntmps33
    go_wp2_with fail
    have c1 : (w.alloc (Obj.cells #[.int .i64 4, .int .i64 i] 48)).cell? ⟨w.heap.size, 1, none⟩ = some (.int .i64 i) := by go_simp
    have HSB := Lib.hid (HS.out.upd0 HU0.out)
    generalize w.alloc (Obj.cells #[.int .i64 4, .int .i64 i] 48) = wb at *
    go_region_held3 (fun w' => w'.cell? ⟨w.heap.size, 1, none⟩ = some (.int .i64 i)) (first | go_keep | exact hk1)
      (first
        | (go_at_call 20; refine (hwl.out _ (HSB.out.upd0 ((Upd.refl [] wb).drew))).mono ?_; rintro e w3 ⟨rfl, hs3, hu3⟩; have hk1 := hu3.cell (p := ⟨w.heap.size, 1, none⟩) c1 HB1.out; have HS3 := Lib.hid hs3; have HU3 := Lib.hid (HU0.out.drew.trans (T := [g, gl]) hu3 (by simp) (fun y hy => .inl hy)); clear hs3 hu3; dsimp only))
    go_wp2_with fail
    go_ret2
    exact FIN.out w3 HS3 HU3 _ HV2.out
theorem rStep_any (kd : Int) :
    Calls Try.prog 33 #[.pointer (some ⟨g, 0, none⟩), v, .int .i64 (room : Int), .agg #[.int .i64 kd, .int .i64 i]] w (RStep base g gl room l w) := by
  by_cases h1 : kd = 1
  · subst h1; exact rStep_put w base g gl room v l hs hr hv hl i hi
  by_cases h2 : kd = 2
  · subst h2; exact rStep_take w base g gl room v l hs hr hv hl i hi
  by_cases h3 : kd = 3
  · subst h3; exact rStep_at w base g gl room v l hs hr hv hl i hi
  by_cases h4 : kd = 4
  · subst h4; exact rStep_drop w base g gl room v l hs hr hv hl i hi
  exact rStep_other w base g gl room v l hs hr hv hl i hi kd h1 h2 h3 h4
end
end Go.Proofs.Ytjomecimbofnfaa
