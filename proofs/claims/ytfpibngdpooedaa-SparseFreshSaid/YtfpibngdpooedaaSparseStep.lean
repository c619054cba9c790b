/- The law's own step: a call of Add. -/
import Derived.Test.YtfpibngdpooedaaSparseFind
import Derived.Deep.RegionHeld3
import Derived.Deep.DrawnRows
namespace Go.Proofs.Ytfpibngdpooedaa
open Go.RowKit
set_option linter.unusedSimpArgs false
set_option linter.unusedVariables false
theorem infoRow : (Try.prog.info? 83).map (fun i => (i.zero, i.size, i.bytes)) = some (some (.agg #[.int .i64 0, .int .i64 0]), 2, 16) := by kernel_rfl
abbrev OwnRows (base : Nat) (w : World) (v : Value) (it : List (Nat × Int)) : Prop := OwnN 2 (itC iv) base 83 w v it
def StepPost (base g : Nat) (F : List Nat) (n : Nat) (it : List (Nat × Int)) (w : World) (e : Ending) (w' : World) : Prop :=
  ∃ lv' it' F', e = .returned (.tuple #[lv', .bool true]) ∧ OwnRows base w' lv' it' ∧ RowsInt base w' g F' n it' ∧ Upd F w w' ∧ it'.length ≤ it.length + 1
theorem ownRows_ne {base : Nat} {w : World} {g : Nat} {F : List Nat} {n : Nat} {it it2 : List (Nat × Int)} {v : Value} (h : OwnRows base w v it) (hs : RowsInt base w g F n it2) : ∀ x ∈ blk v, x ∉ F := by
  intro x hx hF
  obtain ⟨C, f, hq⟩ := h.typ x hx
  obtain ⟨gp, lv, pl, hS, rfl, _, _⟩ := hs
  simp only [spF, List.mem_cons] at hF
  rcases hF with rfl | rfl | hF
  · exact hS.set_.ne x hq (by decide) rfl
  · exact hS.place.ne x hq (by decide) rfl
  · obtain ⟨C', f', hq'⟩ := hS.things.typ x hF
    rw [hq] at hq'; simp at hq'
theorem OwnN.base_le {α : Type} {sz : Nat} {c : α → List Value} {base base' : Nat} {e : TypeId} {w : World} {v : Value} {l : List α} (h : OwnN sz c base e w v l) (hb : base' ≤ base) : OwnN sz c base' e w v l := by
  obtain ⟨h1, h2⟩ := h
  refine ⟨h1, ?_⟩
  rcases h2 with h2 | ⟨g, cap, cur, rfl, hb', hg, r⟩
  · exact .inl h2
  · exact .inr ⟨g, cap, cur, rfl, by omega, hg, r⟩
theorem ownRows_empty (base : Nat) (W : World) (G : Nat) (h : base ≤ G) (hW : Blk W G 83 []) : OwnRows base W (.slice (some ⟨G, 0, none⟩) 0 0) [] :=
  ⟨by simp, .inr ⟨G, 0, #[], rfl, h, hW, Nat.le_refl _, Nat.zero_le _, rfl, rfl⟩⟩
set_option maxRecDepth 20000 in
set_option maxHeartbeats 4000000 in
theorem spStep_add (w : World) (base g n : Nat) (F : List Nat) (lv : Value) (it : List (Nat × Int)) (hs : RowsInt base w g F n it) (ho : OwnRows base w lv it) (hit : it.length ≤ 2000) (i x : Int) (hi : I64 i) (hx : I64 x) :
    Calls Try.prog 21 #[.pointer (some ⟨g, 0, none⟩), lv, .int .i64 (n : Int), .agg #[.int .i64 1, .int .i64 i, .int .i64 x]] w (StepPost base g F n it w) := by
  have HR := Lib.hid (ho.rd (itC_len _))
  have HO := Lib.hid ho
  have HS := Lib.hid hs
  have HNE := Lib.hid (ownRows_ne ho hs)
  have hlt := Lib.hid hs.lt
  have hbase := hs.base_
  have hnl := hs.n_le
  obtain ⟨ao, co, rfl, -⟩ := ho.rd (itC_len _)
  have HXI := Lib.hid hi
  obtain ⟨hi1, hi2⟩ := hi
  obtain ⟨hx1, hx2⟩ := hx
  clear hs ho
  go_enter Try.func21, Try.ntmps21
  go_wp2_with fail
  refine (spFind_any _ _ it i (HR.out.upd0 (itC_len _) ((Upd.refl [] w).alloc _))).mono ?_
  rintro e w1 ⟨r, rfl, hf, rfl⟩
  have hcan : rCan n it i = (decide (r < 0) && (decide (0 ≤ i) && decide (i < n))) := by
    rcases hf with ⟨h, rfl⟩ | ⟨k, rfl, _, _, h, _⟩
    · unfold rCan; rw [h]; simp [Bool.decide_and]
    · unfold rCan; rw [h]; simp; omega
  have HCAN := Lib.hid hcan
  by_cases hc : rCan n it i = true
  · obtain ⟨hr, h0, h1⟩ : r < 0 ∧ 0 ≤ i ∧ i < n := by
      rw [hc] at hcan; have := hcan.symm; simp only [Bool.and_eq_true, decide_eq_true_iff] at this; exact this
    have HC : Hid (rCan n it i = true ∧ rAdd n it i x = it ++ [(i.toNat, x)]) := ⟨hc, by unfold rAdd; rw [hc]; rfl⟩
    clear hc hcan hf HCAN
    go_wp2_with fail
    refine (rAddInt_eq _ i x true _ HXI.out (HS.out.upd0 ((Upd.refl [] w).alloc _)) (by omega) HC.out).mono ?_
    rintro e w2 ⟨rfl, F2, hs2, hu2, -⟩
    have hsz := hu2.size
    simp at hsz
    have HS2 := Lib.hid hs2
    have HU2 := Lib.hid (((Upd.refl [] w).alloc (Obj.cells #[.int .i64 1, .int .i64 i, .int .i64 x] 42)).trans hu2 (T := F) (by simp) (fun y hy => .inl hy))
    have hnew : w.heap.size ∉ F := fun h => by have := (hlt.out _ h).2; omega
    have c1 : w2.cell? ⟨w.heap.size, 1, none⟩ = some (.int .i64 i) := hu2.cell (by go_simp) hnew
    have c2 : w2.cell? ⟨w.heap.size, 2, none⟩ = some (.int .i64 x) := hu2.cell (by go_simp) hnew
    have HR2 := Lib.hid ((HR.out.upd0 (itC_len _) ((Upd.refl [] w).alloc (Obj.cells #[.int .i64 1, .int .i64 i, .int .i64 x] 42))).upd (itC_len _) hu2 HNE.out)
    clear hs2 hu2 hnew
    go_wp2_with fail
    have HA1 : Hid (∀ (W : World) (G : Nat), w2.heap.size ≤ G → Upd [] w2 W → Blk W G 83 [] → ∃ v' w', (Builtin.append_ #[38, 38] 38 #[.slice (some ⟨G, 0, none⟩) 0 0, .slice ao it.length co]).run Try.prog W = .ok v' w' ∧ (OwnRows w2.heap.size w' v' it ∧ Upd [G] W w' ∧ Upd [] w2 w' ∧ ∃ a1 k1, v' = .slice a1 it.length k1)) := by
      intro W G hG hU hB
      obtain ⟨v', w', h1, h2, h3, h4⟩ := run_appN (P := Try.prog) (ty := 38) (base := w2.heap.size) (itC_len iv) (by decide) itoneInt Try.underlying38 infoRow rfl _ (.slice ao it.length co) [] it (ownRows_empty _ W G hG hB) (HR2.out.upd0 (itC_len _) hU) (by simp; omega) (by unfold maxLen; simp; omega) hU.size
      rw [List.nil_append] at h2
      obtain ⟨a1, k1, h5, _⟩ := h2.rd (itC_len _)
      exact ⟨v', w', h1, h2, h3, hU.trans h3 (by simp) (fun y hy => .inr (by simp [blk] at hy; omega)), a1, k1, h5⟩
    have HA2 : Hid (∀ (W : World) (a1 : Option Addr) (k1 GR : Nat), OwnRows w2.heap.size W (.slice a1 it.length k1) it → Upd [] w2 W → (∀ j u, ([.int .i64 i, .int .i64 x] : List Value)[j]? = some u → W.cell? ⟨GR, j, none⟩ = some u) → ∃ v' w', (Builtin.append_ #[38, 38] 38 #[.slice a1 it.length k1, .slice (some ⟨GR, 0, none⟩) 1 1]).run Try.prog W = .ok v' w' ∧ (OwnRows w2.heap.size w' v' (it ++ [(i.toNat, x)]) ∧ Upd [] w2 w' ∧ ∃ a2 k2, v' = .slice a2 (it.length + 1) k2)) := by
      intro W a1 k1 GR hO hU hc
      have hr : RdN 2 (itC iv) W (.slice (some ⟨GR, 0, none⟩) 1 1) [(i.toNat, x)] := by
        refine ⟨_, 1, rfl, Nat.le_refl _, by decide, fun _ => ⟨GR, 0, rfl, fun j hj q hq => ?_⟩⟩
        have hj0 : j = 0 := by simpa using hj
        subst hj0
        have hi' : ((i.toNat : Nat) : Int) = i := by omega
        match q, hq with
        | 0, _ => simpa [nth, itC, hi'] using hc 0 _ rfl
        | 1, _ => simpa [nth, itC] using hc 1 _ rfl
      obtain ⟨v', w', h1, h2, h3, h4⟩ := run_appN (P := Try.prog) (ty := 38) (base := w2.heap.size) (itC_len iv) (by decide) itoneInt Try.underlying38 infoRow rfl _ _ it [(i.toNat, x)] hO hr (by simp; omega) (by unfold maxLen; simp; omega) hU.size
      obtain ⟨a2, k2, h5, _⟩ := h2.rd (itC_len _)
      exact ⟨v', w', h1, h2, hU.trans h3 (by simp) (fun y hy => .inr (hO.ge y hy).1), a2, k2, by rw [h5]; simp⟩
    go_region_held3 (fun w' => w'.cell? ⟨w.heap.size, 1, none⟩ = some (.int .i64 i) ∧ w'.cell? ⟨w.heap.size, 2, none⟩ = some (.int .i64 x)) (first | go_keep | exact hkeep2 | exact hkeep)
      (first
        | ((refine step_app_of rfl (.tmp 50) (.tmp 56) rfl (.slice a1 it.length k1) (.slice (some ⟨w3.heap.size, 0, none⟩) 1 1) (by rfl) (by rfl) (HA2.out _ a1 k1 (w3.heap.size) ?_ ?_ ?_) ?_); (refine OwnN.upd (S := []) ho3 ?_ (by simp); (repeat (first | exact Upd.refl _ _ | apply Upd.drew | apply Upd.drewN | apply Upd.alloc))); (refine hu23.seq ?_; (repeat (first | exact Upd.refl _ _ | apply Upd.drew | apply Upd.drewN | apply Upd.alloc))); exact fun j u h => ((Upd.refl [] _).drew).cell (cells_new (W := w3) rfl rfl j u h) (by simp); (rintro v2 w4 ⟨ho4, hu4, a2, k2, rfl⟩; have hkeep2 := And.intro (hu4.cell c1 (by simp)) (hu4.cell c2 (by simp)); dsimp only))
        | ((refine step_app_of rfl (.tmp 50) (.tmp 56) rfl (.slice a1 it.length k1) (.slice (some ⟨w2.heap.size + 1, 0, none⟩) 1 1) (by rfl) (by rfl) (HA2.out _ a1 k1 (w2.heap.size + 1) ?_ ?_ ?_) ?_); (refine OwnN.upd (S := []) ho3 ?_ (by simp); (repeat (first | exact Upd.refl _ _ | apply Upd.drew | apply Upd.drewN | apply Upd.alloc))); (refine hu23.seq ?_; (repeat (first | exact Upd.refl _ _ | apply Upd.drew | apply Upd.drewN | apply Upd.alloc))); exact fun j u h => ((Upd.refl [] _).drew).cell (hcr j u h) (by simp); (rintro v2 w4 ⟨ho4, hu4, a2, k2, rfl⟩; have hkeep2 := And.intro (hu4.cell c1 (by simp)) (hu4.cell c2 (by simp)); dsimp only))
        | ((refine step_app_of rfl (.tmp 50) (.tmp 56) rfl (.slice a1 it.length k1) (.slice (some ⟨w2.heap.size, 0, none⟩) 1 1) (by rfl) (by rfl) (HA2.out _ a1 k1 (w2.heap.size) ?_ ?_ ?_) ?_); (refine OwnN.upd (S := []) ho3 ?_ (by simp); (repeat (first | exact Upd.refl _ _ | apply Upd.drew | apply Upd.drewN | apply Upd.alloc))); (refine hu23.seq ?_; (repeat (first | exact Upd.refl _ _ | apply Upd.drew | apply Upd.drewN | apply Upd.alloc))); exact fun j u h => ((Upd.refl [] _).drew).cell (hcr j u h) (by simp); (rintro v2 w4 ⟨ho4, hu4, a2, k2, rfl⟩; have hkeep2 := And.intro (hu4.cell c1 (by simp)) (hu4.cell c2 (by simp)); dsimp only))
        | ((refine step_app_of rfl (.tmp 48) (.tmp 49) rfl (.slice (some ⟨w2.heap.size, 0, none⟩) 0 0) (.slice ao it.length co) (by rfl) (by rfl) (HA1.out _ (w2.heap.size) (by omega) ?_ ?_) ?_); (repeat (first | exact Upd.refl _ _ | apply Upd.drew | apply Upd.drewN | apply Upd.alloc)); (refine Blk.fresh (w := w2) (C := #[]) (xs := []) rfl rfl ?_; (repeat (first | exact Upd.refl _ _ | apply Upd.drew | apply Upd.drewN | apply Upd.alloc))); (rintro v1 w3 ⟨ho3, hu3, hu23, a1, k1, rfl⟩; have hkeep := And.intro (hu3.cell (p := ⟨w.heap.size, 1, none⟩) (v := .int .i64 i) (by go_simp) (by simp; omega)) (hu3.cell (p := ⟨w.heap.size, 2, none⟩) (v := .int .i64 x) (by go_simp) (by simp; omega)); have hcr : ∀ j u, ([.int .i64 i, .int .i64 x] : List Value)[j]? = some u → w3.cell? ⟨w2.heap.size + 1, j, none⟩ = some u := fun j u h => hu3.cell (((Upd.refl [] _).drew).cell (cells_new (W := w2.alloc (Obj.cells #[] 83)) (by simp) rfl j u h) (by simp)) (by simp); dsimp only))
        | ((refine step_app_of rfl (.tmp 48) (.tmp 49) rfl (.slice (some ⟨w2.heap.size, 0, none⟩) 0 0) (.slice ao it.length co) (by rfl) (by rfl) (HA1.out _ (w2.heap.size) (by omega) ?_ ?_) ?_); (repeat (first | exact Upd.refl _ _ | apply Upd.drew | apply Upd.drewN | apply Upd.alloc)); (refine Blk.fresh (w := w2) (C := #[]) (xs := []) rfl rfl ?_; (repeat (first | exact Upd.refl _ _ | apply Upd.drew | apply Upd.drewN | apply Upd.alloc))); (rintro v1 w3 ⟨ho3, hu3, hu23, a1, k1, rfl⟩; have hkeep := And.intro (hu3.cell (p := ⟨w.heap.size, 1, none⟩) (v := .int .i64 i) (by go_simp) (by simp; omega)) (hu3.cell (p := ⟨w.heap.size, 2, none⟩) (v := .int .i64 x) (by go_simp) (by simp; omega)); dsimp only))
        | ((refine step_app_of rfl (.tmp 48) (.tmp 49) rfl (.slice (some ⟨w2.heap.size + 1, 0, none⟩) 0 0) (.slice ao it.length co) (by rfl) (by rfl) (HA1.out _ (w2.heap.size + 1) (by omega) ?_ ?_) ?_); (repeat (first | exact Upd.refl _ _ | apply Upd.drew | apply Upd.drewN | apply Upd.alloc)); (refine Blk.fresh (w := w2.alloc (Obj.cells #[.int .i64 i, .int .i64 x] 83)) (C := #[]) (xs := []) (by simp) rfl ?_; (repeat (first | exact Upd.refl _ _ | apply Upd.drew | apply Upd.drewN | apply Upd.alloc))); (rintro v1 w3 ⟨ho3, hu3, hu23, a1, k1, rfl⟩; have hkeep := And.intro (hu3.cell (p := ⟨w.heap.size, 1, none⟩) (v := .int .i64 i) (by go_simp) (by simp; omega)) (hu3.cell (p := ⟨w.heap.size, 2, none⟩) (v := .int .i64 x) (by go_simp) (by simp; omega)); have hcr : ∀ j u, ([.int .i64 i, .int .i64 x] : List Value)[j]? = some u → w3.cell? ⟨w2.heap.size, j, none⟩ = some u := fun j u h => hu3.cell ((((Upd.refl [] _).alloc _).drew).cell (cells_new (W := w2) rfl rfl j u h) (by simp)) (by simp); dsimp only)))
    all_goals
      have HO4 := Lib.hid ho4
      have HU4 := Lib.hid hu4
      clear ho4 hu4 hkeep2 c1 c2
      go_wp2_with fail
      go_ret2
      exact ⟨_, _, F2, rfl, HO4.out.base_le (by omega), HS2.out.upd0 HU4.out, HU2.out.trans HU4.out (fun y hy => hy) (by simp), by simp⟩
  · have HC : Hid (rCan n it i = false ∧ rAdd n it i x = it) := ⟨by simpa using hc, by unfold rAdd; rw [if_neg hc]⟩
    have hd : 0 ≤ r ∨ (r < 0 ∧ i < 0) ∨ (r < 0 ∧ 0 ≤ i ∧ n ≤ i) := by
      rw [hcan] at hc
      simp only [Bool.and_eq_true, decide_eq_true_iff] at hc
      omega
    clear hc hcan hf HCAN
    rcases hd with hr | ⟨hr, h0⟩ | ⟨hr, h0, h1⟩
    all_goals
      go_wp2_with fail
      refine (rAddInt_eq _ i x false _ HXI.out (HS.out.upd0 ((Upd.refl [] w).alloc _)) (by omega) HC.out).mono ?_
      rintro e w2 ⟨rfl, F2, hs2, hu2, -⟩
      have HS2 := Lib.hid hs2
      have HU2 := Lib.hid (((Upd.refl [] w).alloc (Obj.cells #[.int .i64 1, .int .i64 i, .int .i64 x] 42)).trans hu2 (T := F) (by simp) (fun y hy => .inl hy))
      clear hs2 hu2
      go_wp2_with fail
      go_ret2
      exact ⟨_, _, F2, rfl, HO.out.upd HU2.out HNE.out, HS2.out, HU2.out, by omega⟩
end Go.Proofs.Ytfpibngdpooedaa
