/- The law's own step on a table: the calls that write. -/
import Derived.Test.YtjomecimbofnfaaTabStep
import Derived.Test.YtjomecimbofnfaaSliceCut
import Derived.Deep.RegionHeld3
namespace Go.Proofs.Ytjomecimbofnfaa
open Go.RowKit
set_option linter.unusedSimpArgs false
set_option linter.unusedVariables false
theorem infoRow4 : (Try.prog.info? 81).map (fun i => (i.zero, i.size, i.bytes)) = some (some (.agg #[.int .i64 0, .int .i64 0]), 2, 16) := by kernel_rfl
theorem sizeRow4 : (Try.prog.info? 81).map (·.size) = some 2 := by kernel_rfl
theorem undRow4 : Try.prog.underlying 75 = some (.slice 81) := by kernel_rfl
theorem OwnN.base_le {α : Type} {sz : Nat} {c : α → List Value} {base base' : Nat} {e : TypeId} {w : World} {v : Value} {l : List α} (h : OwnN sz c base e w v l) (hb : base' ≤ base) : OwnN sz c base' e w v l := by
  obtain ⟨h1, h2⟩ := h
  refine ⟨h1, ?_⟩
  rcases h2 with h2 | ⟨g, cap, cur, rfl, hb', hg, r⟩
  · exact .inl h2
  · exact .inr ⟨g, cap, cur, rfl, by omega, hg, r⟩
theorem ownN_empty {α : Type} (sz : Nat) (c : α → List Value) (base : Nat) (e : TypeId) (W : World) (G : Nat) (h : base ≤ G) (hW : Blk W G e []) : OwnN sz c base e W (.slice (some ⟨G, 0, none⟩) 0 0) [] :=
  ⟨by simp, .inr ⟨G, 0, #[], rfl, h, hW, Nat.le_refl _, Nat.zero_le _, by simp, by simp⟩⟩
theorem RdN.take {α : Type} [Inhabited α] {sz : Nat} {c : α → List Value} {w : World} {a : Option Addr} {n cap : Nat} {l : List α} (h : RdN sz c w (.slice a n cap) l) (k : Nat) (hk : k ≤ l.length) : RdN sz c w (.slice a k cap) (l.take k) := by
  obtain ⟨a', cap', he, h1, h2, h3⟩ := h
  injection he with e1 e2 e3; subst e1; subst e3
  refine ⟨a, cap, by rw [List.length_take, Nat.min_eq_left hk], by rw [List.length_take]; omega, h2, fun hne => ?_⟩
  obtain ⟨b, off, rfl, hc⟩ := h3 (fun q => hne (by rw [q]; simp))
  exact ⟨b, off, rfl, fun j hj i hi => by rw [List.length_take] at hj; rw [nth_take _ _ _ (by omega)]; exact hc j (by omega) i hi⟩
theorem RdN.drop {α : Type} [Inhabited α] {sz : Nat} {c : α → List Value} {w : World} {a : Option Addr} {n cap : Nat} {l : List α} (h : RdN sz c w (.slice a n cap) l) (k : Nat) (hk : k ≤ l.length) :
    RdN sz c w (.slice (if cap = k then a else a.map (·.add (k * sz))) (n - k) (cap - k)) (l.drop k) := by
  obtain ⟨a', cap', he, h1, h2, h3⟩ := h
  injection he with e1 e2 e3; subst e1; subst e2; subst e3
  refine ⟨_, _, by rw [List.length_drop], by rw [List.length_drop]; omega, by omega, fun hne => ?_⟩
  have hlt : k < l.length := by
    rcases Nat.lt_or_ge k l.length with q | q
    · exact q
    · exact absurd (List.drop_eq_nil_of_le q) hne
  obtain ⟨b, off, rfl, hc⟩ := h3 (fun q => by rw [q] at hlt; simp at hlt)
  rw [if_neg (by omega)]
  refine ⟨b, off + k * sz, by simp [add_none], fun j hj i hi => ?_⟩
  rw [List.length_drop] at hj
  have := hc (k + j) (by omega) i hi
  rw [nth_drop]
  rw [show off + k * sz + (j * sz + i) = off + ((k + j) * sz + i) by rw [Nat.add_mul]; omega]
  exact this
set_option linter.unusedSectionVars false
section
variable (w0 w : World) (g : Nat) (F : List Nat) (v : Value) (l : List (Int × Int)) (hs : TXII w0 w g F l) (hr : Rows4 w0 w v l) (hl : l.length ≤ 2000) (hmem : ∀ p ∈ l, I64 p.1 ∧ I64 p.2) (ak av : Int) (hk : I64 ak) (hv : I64 av)
include hs hr hl hmem hk hv
set_option maxRecDepth 20000 in
set_option maxHeartbeats 4000000 in
theorem tStep_set_no (hin : isIn ltII l ak = false) :
    Calls Try.prog 45 #[.pointer (some ⟨g, 0, none⟩), v, .agg #[.int .i64 1, .int .i64 ak, .int .i64 av]] w (TStep w0 w g F l) := by
  have HS := Lib.hid hs
  have HR := Lib.hid hr
  have HM := Lib.hid hmem
  have HK := Lib.hid hk
  have HV := Lib.hid hv
  have HAP := Lib.hid (rows_apart hs hr)
  have HGE := Lib.hid hs.ge
  have hold := hs.old.size
  have hlen : l.length ≤ 100000 := by omega
  obtain ⟨ao, co, rfl, hlc, hcm, hcell⟩ := hr.rd rcII_len
  have hco : co ≤ 9223372036854775807 := by unfold maxLen at hcm; omega
  have HCM := Lib.hid hcm
  have hu0 := (Upd.refl [] w).alloc (Obj.cells #[.int .i64 1, .int .i64 ak, .int .i64 av] 79)
  have HU0 := Lib.hid hu0
  have hb := below_le (lt := ltII) l ak
  clear hs hr hu0 hmem hk hv hcm hcell
  have HSET : Hid (tSet ltII l ak av = l.take (below ltII l ak) ++ [(ak, av)] ++ l.drop (below ltII l ak)) := by unfold Hid tSet; rw [hin]; simp
  have HRB : Hid ((!isIn ltII l ak) = true) := by unfold Hid; rw [hin]; rfl
  go_enter Try.func45, Try.ntmps45
  go_wp2_with fail
  (with_reducible refine (place_any _ _ l ((HR.out.rd rcII_len).upd0 rcII_len HU0.out) hlen ak HK.out).mono ?_)
  rintro e w1 ⟨rfl, hu1⟩
  rw [hin]
  have HU1 := Lib.hid (HU0.out.seq hu1)
  have c1' : w1.cell? ⟨w.heap.size, 1, none⟩ = some (.int .i64 ak) := hu1.cell (by go_simp) (by simp)
  have c2' : w1.cell? ⟨w.heap.size, 2, none⟩ = some (.int .i64 av) := hu1.cell (by go_simp) (by simp)
  have c0' : w1.cell? ⟨w.heap.size, 0, none⟩ = some (.int .i64 1) := hu1.cell (by go_simp) (by simp)
  have C1 := Lib.hid c1'
  have C2 := Lib.hid c2'
  have hsz1 : w.heap.size + 1 ≤ w1.heap.size := by have := hu1.size; simp at this; omega
  clear hu1 hin
  generalize below ltII l ak = at_ at *
  go_wp2_with fail
  (with_reducible refine (txII_Set ak av _ _ (HS.out.upd0 HU1.out) hlen HK.out HRB.out rfl).mono ?_)
  rintro e w2 ⟨rfl, F2, hs2, hu2, hf2⟩
  have HS2 := Lib.hid hs2
  have hbF : w.heap.size ∉ F := fun h => by have := (HGE.out _ h).2; omega
  have c1 : w2.cell? ⟨w.heap.size, 1, none⟩ = some (.int .i64 ak) := hu2.cell C1.out hbF
  have c2 : w2.cell? ⟨w.heap.size, 2, none⟩ = some (.int .i64 av) := hu2.cell C2.out hbF
  have HR2 : Hid (Rows4 w0 w2 (.slice ao l.length co) l) := (HR.out.upd HU1.out (by simp)).upd hu2 HAP.out
  have hsz2 := hu2.size
  have hsz3 := HS2.out.old.size
  clear hu2 hf2 c0' c1' c2'
  have hcutA := fun W => run_cut_h (P := Try.prog) undRow4 sizeRow4 ao l.length co at_ (by omega) W
  obtain ⟨D, hD, hcutD⟩ : ∃ D : Option Addr, D = (if co = at_ then ao else ao.map (·.add ((at_) * 2))) ∧ ∀ W, (Instr.slice 75 (.slice ao l.length co) (some (.int .i64 ((at_ : Nat) : Int))) none none).run Try.prog W = .ok (.slice D (l.length - (at_)) (co - (at_))) W :=
    ⟨_, rfl, fun W => run_cut (P := Try.prog) undRow4 sizeRow4 ao l.length co (at_) (by omega) W⟩
  have HD : Hid (RdN 2 rcII w2 (.slice D (l.length - (at_)) (co - (at_))) (l.drop (at_))) := by unfold Hid; rw [hD]; exact (HR2.out.rd rcII_len).drop (at_) (by omega)
  have HA1 : Hid (∀ (W : World) (G : Nat), w2.heap.size ≤ G → Upd [] w2 W → Blk W G 81 [] → ∃ v' w', (Builtin.append_ #[75, 75] 75 #[.slice (some ⟨G, 0, none⟩) 0 0, .slice ao at_ co]).run Try.prog W = .ok v' w' ∧ (OwnN 2 rcII w2.heap.size 81 w' v' (l.take at_) ∧ Upd [G] W w' ∧ Upd [] w2 w' ∧ ∃ a1 k1, v' = .slice a1 at_ k1)) := by
    intro W G hG hU hB
    obtain ⟨v', w', h1, h2, h3, h4⟩ := run_appN (P := Try.prog) (ty := 75) (base := w2.heap.size) rcII_len (by decide) rcII_one undRow4 infoRow4 rfl _ (.slice ao at_ co) [] (l.take at_) (ownN_empty 2 rcII _ _ W G hG hB) ((HR2.out.rd rcII_len).take at_ hb |>.upd0 rcII_len hU) (by simp; omega) (by unfold maxLen; simp; omega) hU.size
    rw [List.nil_append] at h2
    obtain ⟨a1, k1, h5, _⟩ := h2.rd rcII_len
    exact ⟨v', w', h1, h2, h3, hU.trans h3 (by simp) (fun y hy => .inr (by simp [blk] at hy; omega)), a1, k1, by rw [h5, List.length_take, Nat.min_eq_left hb]⟩
  have HA2 : Hid (∀ (W : World) (a1 : Option Addr) (k1 GR : Nat), OwnN 2 rcII w2.heap.size 81 W (.slice a1 at_ k1) (l.take at_) → Upd [] w2 W → (∀ j u, ([.int .i64 ak, .int .i64 av] : List Value)[j]? = some u → W.cell? ⟨GR, j, none⟩ = some u) → ∃ v' w', (Builtin.append_ #[75, 75] 75 #[.slice a1 at_ k1, .slice (some ⟨GR, 0, none⟩) 1 1]).run Try.prog W = .ok v' w' ∧ (OwnN 2 rcII w2.heap.size 81 w' v' (l.take at_ ++ [(ak, av)]) ∧ Upd [] w2 w' ∧ ∃ a2 k2, v' = .slice a2 (at_ + 1) k2)) := by
    intro W a1 k1 GR hO hU hc
    have hr : RdN 2 rcII W (.slice (some ⟨GR, 0, none⟩) 1 1) [(ak, av)] := ⟨_, 1, rfl, by simp, by simp [maxLen], fun _ => ⟨GR, 0, rfl, fun j hj i hi => by
      simp at hj; subst hj
      have hi2 : i = 0 ∨ i = 1 := by omega
      rcases hi2 with rfl | rfl
      · simpa [nth_cons_zero] using hc 0 _ rfl
      · simpa [nth_cons_zero] using hc 1 _ rfl⟩⟩
    obtain ⟨v', w', h1, h2, h3, h4⟩ := run_appN (P := Try.prog) (ty := 75) (base := w2.heap.size) rcII_len (by decide) rcII_one undRow4 infoRow4 rfl _ _ (l.take at_) [(ak, av)] hO hr (by simp; omega) (by unfold maxLen; simp; omega) hU.size
    obtain ⟨a2, k2, h5, _⟩ := h2.rd rcII_len
    exact ⟨v', w', h1, h2, hU.trans h3 (by simp) (fun y hy => .inr (hO.ge y hy).1), a2, k2, by rw [h5, List.length_append, List.length_take, Nat.min_eq_left hb]; rfl⟩
  have HA3 : Hid (∀ (W : World) (a2 : Option Addr) (k2 : Nat), OwnN 2 rcII w2.heap.size 81 W (.slice a2 (at_ + 1) k2) (l.take at_ ++ [(ak, av)]) → Upd [] w2 W → ∃ v' w', (Builtin.append_ #[75, 75] 75 #[.slice a2 (at_ + 1) k2, (.slice D (l.length - (at_)) (co - (at_)))]).run Try.prog W = .ok v' w' ∧ (OwnN 2 rcII w2.heap.size 81 w' v' (l.take at_ ++ [(ak, av)] ++ l.drop (at_)) ∧ Upd [] w2 w' ∧ ∃ a3 n3 k3, v' = .slice a3 n3 k3)) := by
    intro W a2 k2 hO hU
    obtain ⟨v', w', h1, h2, h3, h4⟩ := run_appN (P := Try.prog) (ty := 75) (base := w2.heap.size) rcII_len (by decide) rcII_one undRow4 infoRow4 rfl _ (.slice D (l.length - (at_)) (co - (at_))) (l.take at_ ++ [(ak, av)]) (l.drop (at_)) hO (HD.out.upd0 rcII_len hU) (by simp; omega) (by unfold maxLen; simp; omega) hU.size
    obtain ⟨a3, k3, h5, _⟩ := h2.rd rcII_len
    exact ⟨v', w', h1, h2, hU.trans h3 (by simp) (fun y hy => .inr (hO.ge y hy).1), a3, _, k3, h5⟩
  have HLN : Hid ((l.take at_ ++ [(ak, av)] ++ l.drop (at_)).length ≤ l.length + 1) := by unfold Hid; simp; omega
  have HMN : Hid (∀ p ∈ l.take at_ ++ [(ak, av)] ++ l.drop (at_), I64 p.1 ∧ I64 p.2) := by
    intro p hp
    simp only [List.mem_append, List.mem_singleton] at hp
    rcases hp with (hp | rfl) | hp
    · exact HM.out p (List.mem_of_mem_take hp)
    · exact ⟨HK.out, HV.out⟩
    · exact HM.out p (List.mem_of_mem_drop hp)
  clear hD
  go_wp2_with fail
  go_region_held3 (fun w' => w'.cell? ⟨w.heap.size, 1, none⟩ = some (.int .i64 ak) ∧ w'.cell? ⟨w.heap.size, 2, none⟩ = some (.int .i64 av)) (first | go_keep | exact hkeep3 | exact hkeep2 | exact hkeep)
      (first
        | ((refine step_app_of rfl (.tmp 53) (.tmp 54) rfl (.slice a2 (at_ + 1) k2) (.slice D (l.length - (at_)) (co - (at_))) (by rfl) (by rfl) (HA3.out _ a2 k2 ?_ ?_) ?_); (refine OwnN.upd (S := []) ho4 ?_ (by simp); (repeat (first | exact Upd.refl _ _ | apply Upd.drew | apply Upd.drewN | apply Upd.alloc))); (refine hu4.seq ?_; (repeat (first | exact Upd.refl _ _ | apply Upd.drew | apply Upd.drewN | apply Upd.alloc))); (rintro v3 w5 ⟨ho5, hu5, a3, n3, k3, rfl⟩; have hkeep3 := (⟨hu5.cell c1 (by simp), hu5.cell c2 (by simp)⟩ : _ ∧ _); dsimp only))
        | ((refine step_app_of rfl (.tmp 46) (.tmp 52) rfl (.slice a1 at_ k1) (.slice (some ⟨w3.heap.size, 0, none⟩) 1 1) (by rfl) (by rfl) (HA2.out _ a1 k1 (w3.heap.size) ?_ ?_ ?_) ?_); (refine OwnN.upd (S := []) ho3 ?_ (by simp); (repeat (first | exact Upd.refl _ _ | apply Upd.drew | apply Upd.drewN | apply Upd.alloc))); (refine hu23.seq ?_; (repeat (first | exact Upd.refl _ _ | apply Upd.drew | apply Upd.drewN | apply Upd.alloc))); exact fun j u h => ((Upd.refl [] _).drew).cell (cells_new (W := w3) rfl rfl j u h) (by simp); (rintro v2 w4 ⟨ho4, hu4, a2, k2, rfl⟩; have hkeep2 := (⟨hu4.cell c1 (by simp), hu4.cell c2 (by simp)⟩ : _ ∧ _); dsimp only))
        | ((refine step_app_of rfl (.tmp 46) (.tmp 52) rfl (.slice a1 at_ k1) (.slice (some ⟨w2.heap.size + 1, 0, none⟩) 1 1) (by rfl) (by rfl) (HA2.out _ a1 k1 (w2.heap.size + 1) ?_ ?_ ?_) ?_); (refine OwnN.upd (S := []) ho3 ?_ (by simp); (repeat (first | exact Upd.refl _ _ | apply Upd.drew | apply Upd.drewN | apply Upd.alloc))); (refine hu23.seq ?_; (repeat (first | exact Upd.refl _ _ | apply Upd.drew | apply Upd.drewN | apply Upd.alloc))); exact fun j u h => ((Upd.refl [] _).drew).cell (hcr j u h) (by simp); (rintro v2 w4 ⟨ho4, hu4, a2, k2, rfl⟩; have hkeep2 := (⟨hu4.cell c1 (by simp), hu4.cell c2 (by simp)⟩ : _ ∧ _); dsimp only))
        | ((refine step_app_of rfl (.tmp 46) (.tmp 52) rfl (.slice a1 at_ k1) (.slice (some ⟨w2.heap.size, 0, none⟩) 1 1) (by rfl) (by rfl) (HA2.out _ a1 k1 (w2.heap.size) ?_ ?_ ?_) ?_); (refine OwnN.upd (S := []) ho3 ?_ (by simp); (repeat (first | exact Upd.refl _ _ | apply Upd.drew | apply Upd.drewN | apply Upd.alloc))); (refine hu23.seq ?_; (repeat (first | exact Upd.refl _ _ | apply Upd.drew | apply Upd.drewN | apply Upd.alloc))); exact fun j u h => ((Upd.refl [] _).drew).cell (hcr j u h) (by simp); (rintro v2 w4 ⟨ho4, hu4, a2, k2, rfl⟩; have hkeep2 := (⟨hu4.cell c1 (by simp), hu4.cell c2 (by simp)⟩ : _ ∧ _); dsimp only))
        | ((refine step_app_of rfl (.tmp 42) (.tmp 45) rfl (.slice (some ⟨w2.heap.size, 0, none⟩) 0 0) (.slice ao at_ co) (by rfl) (by rfl) (HA1.out _ (w2.heap.size) (by omega) ?_ ?_) ?_); (repeat (first | exact Upd.refl _ _ | apply Upd.drew | apply Upd.drewN | apply Upd.alloc)); (refine Blk.fresh (w := w2) (C := #[]) (xs := []) rfl rfl ?_; (repeat (first | exact Upd.refl _ _ | apply Upd.drew | apply Upd.drewN | apply Upd.alloc))); (rintro v1 w3 ⟨ho3, hu3, hu23, a1, k1, rfl⟩; have hkeep := (⟨hu23.cell c1 (by simp), hu23.cell c2 (by simp)⟩ : _ ∧ _); have hcr : ∀ j u, ([.int .i64 ak, .int .i64 av] : List Value)[j]? = some u → w3.cell? ⟨w2.heap.size + 1, j, none⟩ = some u := fun j u h => hu3.cell (((Upd.refl [] _).drew).cell (cells_new (W := w2.alloc (Obj.cells #[] 81)) (by simp) rfl j u h) (by simp)) (by simp); dsimp only))
        | ((refine step_app_of rfl (.tmp 42) (.tmp 45) rfl (.slice (some ⟨w2.heap.size, 0, none⟩) 0 0) (.slice ao at_ co) (by rfl) (by rfl) (HA1.out _ (w2.heap.size) (by omega) ?_ ?_) ?_); (repeat (first | exact Upd.refl _ _ | apply Upd.drew | apply Upd.drewN | apply Upd.alloc)); (refine Blk.fresh (w := w2) (C := #[]) (xs := []) rfl rfl ?_; (repeat (first | exact Upd.refl _ _ | apply Upd.drew | apply Upd.drewN | apply Upd.alloc))); (rintro v1 w3 ⟨ho3, hu3, hu23, a1, k1, rfl⟩; have hkeep := (⟨hu23.cell c1 (by simp), hu23.cell c2 (by simp)⟩ : _ ∧ _); dsimp only))
        | ((refine step_app_of rfl (.tmp 42) (.tmp 45) rfl (.slice (some ⟨w2.heap.size + 1, 0, none⟩) 0 0) (.slice ao at_ co) (by rfl) (by rfl) (HA1.out _ (w2.heap.size + 1) (by omega) ?_ ?_) ?_); (repeat (first | exact Upd.refl _ _ | apply Upd.drew | apply Upd.drewN | apply Upd.alloc)); (refine Blk.fresh (w := w2.alloc (Obj.cells #[.int .i64 ak, .int .i64 av] 81)) (C := #[]) (xs := []) (by simp) rfl ?_; (repeat (first | exact Upd.refl _ _ | apply Upd.drew | apply Upd.drewN | apply Upd.alloc))); (rintro v1 w3 ⟨ho3, hu3, hu23, a1, k1, rfl⟩; have hkeep := (⟨hu23.cell c1 (by simp), hu23.cell c2 (by simp)⟩ : _ ∧ _); have hcr : ∀ j u, ([.int .i64 ak, .int .i64 av] : List Value)[j]? = some u → w3.cell? ⟨w2.heap.size, j, none⟩ = some u := fun j u h => hu3.cell ((((Upd.refl [] _).alloc _).drew).cell (cells_new (W := w2) rfl rfl j u h) (by simp)) (by simp); dsimp only)))
  all_goals
    have HO5 := Lib.hid ho5
    have HU5 := Lib.hid hu5
    clear ho5 hu5
    go_wp2_with fail
    go_ret2
    exact ⟨_, F2, _, rfl, HO5.out.base_le (by omega), by rw [← HSET.out]; exact HS2.out.upd0 HU5.out, HLN.out, HMN.out⟩
set_option maxRecDepth 20000 in
set_option maxHeartbeats 4000000 in
theorem tStep_set_in (hin : isIn ltII l ak = true) :
    Calls Try.prog 45 #[.pointer (some ⟨g, 0, none⟩), v, .agg #[.int .i64 1, .int .i64 ak, .int .i64 av]] w (TStep w0 w g F l) := by
  have HS := Lib.hid hs
  have HR := Lib.hid hr
  have HM := Lib.hid hmem
  have HK := Lib.hid hk
  have HV := Lib.hid hv
  have HAP := Lib.hid (rows_apart hs hr)
  have HGE := Lib.hid hs.ge
  have hold := hs.old.size
  have hlen : l.length ≤ 100000 := by omega
  obtain ⟨ao, co, rfl, hlc, hcm, hcell⟩ := hr.rd rcII_len
  have hco : co ≤ 9223372036854775807 := by unfold maxLen at hcm; omega
  have HCM := Lib.hid hcm
  have hu0 := (Upd.refl [] w).alloc (Obj.cells #[.int .i64 1, .int .i64 ak, .int .i64 av] 79)
  have HU0 := Lib.hid hu0
  have hb := below_le (lt := ltII) l ak
  clear hs hr hu0 hmem hk hv hcm hcell
  have hlt : below ltII l ak < l.length := by unfold isIn at hin; exact (of_decide_eq_true hin).1
  have HSET : Hid (tSet ltII l ak av = l.take (below ltII l ak) ++ [(ak, av)] ++ l.drop (below ltII l ak + 1)) := by unfold Hid tSet; rw [hin]; simp
  have HRB : Hid ((!isIn ltII l ak) = false) := by unfold Hid; rw [hin]; rfl
  go_enter Try.func45, Try.ntmps45
  go_wp2_with fail
  (with_reducible refine (place_any _ _ l ((HR.out.rd rcII_len).upd0 rcII_len HU0.out) hlen ak HK.out).mono ?_)
  rintro e w1 ⟨rfl, hu1⟩
  rw [hin]
  have HU1 := Lib.hid (HU0.out.seq hu1)
  have c1' : w1.cell? ⟨w.heap.size, 1, none⟩ = some (.int .i64 ak) := hu1.cell (by go_simp) (by simp)
  have c2' : w1.cell? ⟨w.heap.size, 2, none⟩ = some (.int .i64 av) := hu1.cell (by go_simp) (by simp)
  have c0' : w1.cell? ⟨w.heap.size, 0, none⟩ = some (.int .i64 1) := hu1.cell (by go_simp) (by simp)
  have C1 := Lib.hid c1'
  have C2 := Lib.hid c2'
  have hsz1 : w.heap.size + 1 ≤ w1.heap.size := by have := hu1.size; simp at this; omega
  clear hu1 hin
  generalize below ltII l ak = at_ at *
  go_wp2_with fail
  (with_reducible refine (txII_Set ak av _ _ (HS.out.upd0 HU1.out) hlen HK.out HRB.out rfl).mono ?_)
  rintro e w2 ⟨rfl, F2, hs2, hu2, hf2⟩
  have HS2 := Lib.hid hs2
  have hbF : w.heap.size ∉ F := fun h => by have := (HGE.out _ h).2; omega
  have c1 : w2.cell? ⟨w.heap.size, 1, none⟩ = some (.int .i64 ak) := hu2.cell C1.out hbF
  have c2 : w2.cell? ⟨w.heap.size, 2, none⟩ = some (.int .i64 av) := hu2.cell C2.out hbF
  have HR2 : Hid (Rows4 w0 w2 (.slice ao l.length co) l) := (HR.out.upd HU1.out (by simp)).upd hu2 HAP.out
  have hsz2 := hu2.size
  have hsz3 := HS2.out.old.size
  clear hu2 hf2 c0' c1' c2'
  have hcutA := fun W => run_cut_h (P := Try.prog) undRow4 sizeRow4 ao l.length co at_ (by omega) W
  obtain ⟨D, hD, hcutD⟩ : ∃ D : Option Addr, D = (if co = at_ + 1 then ao else ao.map (·.add ((at_ + 1) * 2))) ∧ ∀ W, (Instr.slice 75 (.slice ao l.length co) (some (.int .i64 ((at_ : Int) + 1))) none none).run Try.prog W = .ok (.slice D (l.length - (at_ + 1)) (co - (at_ + 1))) W :=
    ⟨_, rfl, fun W => by have h := run_cut (P := Try.prog) undRow4 sizeRow4 ao l.length co (at_ + 1) (by omega) W; simpa using h⟩
  have HD : Hid (RdN 2 rcII w2 (.slice D (l.length - (at_ + 1)) (co - (at_ + 1))) (l.drop (at_ + 1))) := by unfold Hid; rw [hD]; exact (HR2.out.rd rcII_len).drop (at_ + 1) (by omega)
  have HA1 : Hid (∀ (W : World) (G : Nat), w2.heap.size ≤ G → Upd [] w2 W → Blk W G 81 [] → ∃ v' w', (Builtin.append_ #[75, 75] 75 #[.slice (some ⟨G, 0, none⟩) 0 0, .slice ao at_ co]).run Try.prog W = .ok v' w' ∧ (OwnN 2 rcII w2.heap.size 81 w' v' (l.take at_) ∧ Upd [G] W w' ∧ Upd [] w2 w' ∧ ∃ a1 k1, v' = .slice a1 at_ k1)) := by
    intro W G hG hU hB
    obtain ⟨v', w', h1, h2, h3, h4⟩ := run_appN (P := Try.prog) (ty := 75) (base := w2.heap.size) rcII_len (by decide) rcII_one undRow4 infoRow4 rfl _ (.slice ao at_ co) [] (l.take at_) (ownN_empty 2 rcII _ _ W G hG hB) ((HR2.out.rd rcII_len).take at_ hb |>.upd0 rcII_len hU) (by simp; omega) (by unfold maxLen; simp; omega) hU.size
    rw [List.nil_append] at h2
    obtain ⟨a1, k1, h5, _⟩ := h2.rd rcII_len
    exact ⟨v', w', h1, h2, h3, hU.trans h3 (by simp) (fun y hy => .inr (by simp [blk] at hy; omega)), a1, k1, by rw [h5, List.length_take, Nat.min_eq_left hb]⟩
  have HA2 : Hid (∀ (W : World) (a1 : Option Addr) (k1 GR : Nat), OwnN 2 rcII w2.heap.size 81 W (.slice a1 at_ k1) (l.take at_) → Upd [] w2 W → (∀ j u, ([.int .i64 ak, .int .i64 av] : List Value)[j]? = some u → W.cell? ⟨GR, j, none⟩ = some u) → ∃ v' w', (Builtin.append_ #[75, 75] 75 #[.slice a1 at_ k1, .slice (some ⟨GR, 0, none⟩) 1 1]).run Try.prog W = .ok v' w' ∧ (OwnN 2 rcII w2.heap.size 81 w' v' (l.take at_ ++ [(ak, av)]) ∧ Upd [] w2 w' ∧ ∃ a2 k2, v' = .slice a2 (at_ + 1) k2)) := by
    intro W a1 k1 GR hO hU hc
    have hr : RdN 2 rcII W (.slice (some ⟨GR, 0, none⟩) 1 1) [(ak, av)] := ⟨_, 1, rfl, by simp, by simp [maxLen], fun _ => ⟨GR, 0, rfl, fun j hj i hi => by
      simp at hj; subst hj
      have hi2 : i = 0 ∨ i = 1 := by omega
      rcases hi2 with rfl | rfl
      · simpa [nth_cons_zero] using hc 0 _ rfl
      · simpa [nth_cons_zero] using hc 1 _ rfl⟩⟩
    obtain ⟨v', w', h1, h2, h3, h4⟩ := run_appN (P := Try.prog) (ty := 75) (base := w2.heap.size) rcII_len (by decide) rcII_one undRow4 infoRow4 rfl _ _ (l.take at_) [(ak, av)] hO hr (by simp; omega) (by unfold maxLen; simp; omega) hU.size
    obtain ⟨a2, k2, h5, _⟩ := h2.rd rcII_len
    exact ⟨v', w', h1, h2, hU.trans h3 (by simp) (fun y hy => .inr (hO.ge y hy).1), a2, k2, by rw [h5, List.length_append, List.length_take, Nat.min_eq_left hb]; rfl⟩
  have HA3 : Hid (∀ (W : World) (a2 : Option Addr) (k2 : Nat), OwnN 2 rcII w2.heap.size 81 W (.slice a2 (at_ + 1) k2) (l.take at_ ++ [(ak, av)]) → Upd [] w2 W → ∃ v' w', (Builtin.append_ #[75, 75] 75 #[.slice a2 (at_ + 1) k2, (.slice D (l.length - (at_ + 1)) (co - (at_ + 1)))]).run Try.prog W = .ok v' w' ∧ (OwnN 2 rcII w2.heap.size 81 w' v' (l.take at_ ++ [(ak, av)] ++ l.drop (at_ + 1)) ∧ Upd [] w2 w' ∧ ∃ a3 n3 k3, v' = .slice a3 n3 k3)) := by
    intro W a2 k2 hO hU
    obtain ⟨v', w', h1, h2, h3, h4⟩ := run_appN (P := Try.prog) (ty := 75) (base := w2.heap.size) rcII_len (by decide) rcII_one undRow4 infoRow4 rfl _ (.slice D (l.length - (at_ + 1)) (co - (at_ + 1))) (l.take at_ ++ [(ak, av)]) (l.drop (at_ + 1)) hO (HD.out.upd0 rcII_len hU) (by simp; omega) (by unfold maxLen; simp; omega) hU.size
    obtain ⟨a3, k3, h5, _⟩ := h2.rd rcII_len
    exact ⟨v', w', h1, h2, hU.trans h3 (by simp) (fun y hy => .inr (hO.ge y hy).1), a3, _, k3, h5⟩
  have HLN : Hid ((l.take at_ ++ [(ak, av)] ++ l.drop (at_ + 1)).length ≤ l.length + 1) := by unfold Hid; simp; omega
  have HMN : Hid (∀ p ∈ l.take at_ ++ [(ak, av)] ++ l.drop (at_ + 1), I64 p.1 ∧ I64 p.2) := by
    intro p hp
    simp only [List.mem_append, List.mem_singleton] at hp
    rcases hp with (hp | rfl) | hp
    · exact HM.out p (List.mem_of_mem_take hp)
    · exact ⟨HK.out, HV.out⟩
    · exact HM.out p (List.mem_of_mem_drop hp)
  clear hD
  have hwr : IntKind.i64.wrap ((at_ : Int) + 1) = (at_ : Int) + 1 := by rw [IntKind.wrap_i64]; omega
  go_wp2_with fail
  go_region_held3 (fun w' => w'.cell? ⟨w.heap.size, 1, none⟩ = some (.int .i64 ak) ∧ w'.cell? ⟨w.heap.size, 2, none⟩ = some (.int .i64 av)) (first | go_keep | exact hkeep3 | exact hkeep2 | exact hkeep)
      (first
        | ((refine step_app_of rfl (.tmp 53) (.tmp 54) rfl (.slice a2 (at_ + 1) k2) (.slice D (l.length - (at_ + 1)) (co - (at_ + 1))) (by rfl) (by rfl) (HA3.out _ a2 k2 ?_ ?_) ?_); (refine OwnN.upd (S := []) ho4 ?_ (by simp); (repeat (first | exact Upd.refl _ _ | apply Upd.drew | apply Upd.drewN | apply Upd.alloc))); (refine hu4.seq ?_; (repeat (first | exact Upd.refl _ _ | apply Upd.drew | apply Upd.drewN | apply Upd.alloc))); (rintro v3 w5 ⟨ho5, hu5, a3, n3, k3, rfl⟩; have hkeep3 := (⟨hu5.cell c1 (by simp), hu5.cell c2 (by simp)⟩ : _ ∧ _); dsimp only))
        | ((refine step_app_of rfl (.tmp 46) (.tmp 52) rfl (.slice a1 at_ k1) (.slice (some ⟨w3.heap.size, 0, none⟩) 1 1) (by rfl) (by rfl) (HA2.out _ a1 k1 (w3.heap.size) ?_ ?_ ?_) ?_); (refine OwnN.upd (S := []) ho3 ?_ (by simp); (repeat (first | exact Upd.refl _ _ | apply Upd.drew | apply Upd.drewN | apply Upd.alloc))); (refine hu23.seq ?_; (repeat (first | exact Upd.refl _ _ | apply Upd.drew | apply Upd.drewN | apply Upd.alloc))); exact fun j u h => ((Upd.refl [] _).drew).cell (cells_new (W := w3) rfl rfl j u h) (by simp); (rintro v2 w4 ⟨ho4, hu4, a2, k2, rfl⟩; have hkeep2 := (⟨hu4.cell c1 (by simp), hu4.cell c2 (by simp)⟩ : _ ∧ _); dsimp only))
        | ((refine step_app_of rfl (.tmp 46) (.tmp 52) rfl (.slice a1 at_ k1) (.slice (some ⟨w2.heap.size + 1, 0, none⟩) 1 1) (by rfl) (by rfl) (HA2.out _ a1 k1 (w2.heap.size + 1) ?_ ?_ ?_) ?_); (refine OwnN.upd (S := []) ho3 ?_ (by simp); (repeat (first | exact Upd.refl _ _ | apply Upd.drew | apply Upd.drewN | apply Upd.alloc))); (refine hu23.seq ?_; (repeat (first | exact Upd.refl _ _ | apply Upd.drew | apply Upd.drewN | apply Upd.alloc))); exact fun j u h => ((Upd.refl [] _).drew).cell (hcr j u h) (by simp); (rintro v2 w4 ⟨ho4, hu4, a2, k2, rfl⟩; have hkeep2 := (⟨hu4.cell c1 (by simp), hu4.cell c2 (by simp)⟩ : _ ∧ _); dsimp only))
        | ((refine step_app_of rfl (.tmp 46) (.tmp 52) rfl (.slice a1 at_ k1) (.slice (some ⟨w2.heap.size, 0, none⟩) 1 1) (by rfl) (by rfl) (HA2.out _ a1 k1 (w2.heap.size) ?_ ?_ ?_) ?_); (refine OwnN.upd (S := []) ho3 ?_ (by simp); (repeat (first | exact Upd.refl _ _ | apply Upd.drew | apply Upd.drewN | apply Upd.alloc))); (refine hu23.seq ?_; (repeat (first | exact Upd.refl _ _ | apply Upd.drew | apply Upd.drewN | apply Upd.alloc))); exact fun j u h => ((Upd.refl [] _).drew).cell (hcr j u h) (by simp); (rintro v2 w4 ⟨ho4, hu4, a2, k2, rfl⟩; have hkeep2 := (⟨hu4.cell c1 (by simp), hu4.cell c2 (by simp)⟩ : _ ∧ _); dsimp only))
        | ((refine step_app_of rfl (.tmp 42) (.tmp 45) rfl (.slice (some ⟨w2.heap.size, 0, none⟩) 0 0) (.slice ao at_ co) (by rfl) (by rfl) (HA1.out _ (w2.heap.size) (by omega) ?_ ?_) ?_); (repeat (first | exact Upd.refl _ _ | apply Upd.drew | apply Upd.drewN | apply Upd.alloc)); (refine Blk.fresh (w := w2) (C := #[]) (xs := []) rfl rfl ?_; (repeat (first | exact Upd.refl _ _ | apply Upd.drew | apply Upd.drewN | apply Upd.alloc))); (rintro v1 w3 ⟨ho3, hu3, hu23, a1, k1, rfl⟩; have hkeep := (⟨hu23.cell c1 (by simp), hu23.cell c2 (by simp)⟩ : _ ∧ _); have hcr : ∀ j u, ([.int .i64 ak, .int .i64 av] : List Value)[j]? = some u → w3.cell? ⟨w2.heap.size + 1, j, none⟩ = some u := fun j u h => hu3.cell (((Upd.refl [] _).drew).cell (cells_new (W := w2.alloc (Obj.cells #[] 81)) (by simp) rfl j u h) (by simp)) (by simp); dsimp only))
        | ((refine step_app_of rfl (.tmp 42) (.tmp 45) rfl (.slice (some ⟨w2.heap.size, 0, none⟩) 0 0) (.slice ao at_ co) (by rfl) (by rfl) (HA1.out _ (w2.heap.size) (by omega) ?_ ?_) ?_); (repeat (first | exact Upd.refl _ _ | apply Upd.drew | apply Upd.drewN | apply Upd.alloc)); (refine Blk.fresh (w := w2) (C := #[]) (xs := []) rfl rfl ?_; (repeat (first | exact Upd.refl _ _ | apply Upd.drew | apply Upd.drewN | apply Upd.alloc))); (rintro v1 w3 ⟨ho3, hu3, hu23, a1, k1, rfl⟩; have hkeep := (⟨hu23.cell c1 (by simp), hu23.cell c2 (by simp)⟩ : _ ∧ _); dsimp only))
        | ((refine step_app_of rfl (.tmp 42) (.tmp 45) rfl (.slice (some ⟨w2.heap.size + 1, 0, none⟩) 0 0) (.slice ao at_ co) (by rfl) (by rfl) (HA1.out _ (w2.heap.size + 1) (by omega) ?_ ?_) ?_); (repeat (first | exact Upd.refl _ _ | apply Upd.drew | apply Upd.drewN | apply Upd.alloc)); (refine Blk.fresh (w := w2.alloc (Obj.cells #[.int .i64 ak, .int .i64 av] 81)) (C := #[]) (xs := []) (by simp) rfl ?_; (repeat (first | exact Upd.refl _ _ | apply Upd.drew | apply Upd.drewN | apply Upd.alloc))); (rintro v1 w3 ⟨ho3, hu3, hu23, a1, k1, rfl⟩; have hkeep := (⟨hu23.cell c1 (by simp), hu23.cell c2 (by simp)⟩ : _ ∧ _); have hcr : ∀ j u, ([.int .i64 ak, .int .i64 av] : List Value)[j]? = some u → w3.cell? ⟨w2.heap.size, j, none⟩ = some u := fun j u h => hu3.cell ((((Upd.refl [] _).alloc _).drew).cell (cells_new (W := w2) rfl rfl j u h) (by simp)) (by simp); dsimp only)))
  all_goals
    have HO5 := Lib.hid ho5
    have HU5 := Lib.hid hu5
    clear ho5 hu5
    go_wp2_with fail
    go_ret2
    exact ⟨_, F2, _, rfl, HO5.out.base_le (by omega), by rw [← HSET.out]; exact HS2.out.upd0 HU5.out, HLN.out, HMN.out⟩
set_option maxRecDepth 20000 in
set_option maxHeartbeats 4000000 in
theorem tStep_del_no (hin : isIn ltII l ak = false) :
    Calls Try.prog 45 #[.pointer (some ⟨g, 0, none⟩), v, .agg #[.int .i64 3, .int .i64 ak, .int .i64 av]] w (TStep w0 w g F l) := by
  have HS := Lib.hid hs
  have HR := Lib.hid hr
  have HM := Lib.hid hmem
  have HK := Lib.hid hk
  have HV := Lib.hid hv
  have HAP := Lib.hid (rows_apart hs hr)
  have HGE := Lib.hid hs.ge
  have hold := hs.old.size
  have hlen : l.length ≤ 100000 := by omega
  obtain ⟨ao, co, rfl, hlc, hcm, hcell⟩ := hr.rd rcII_len
  have hco : co ≤ 9223372036854775807 := by unfold maxLen at hcm; omega
  have HCM := Lib.hid hcm
  have hu0 := (Upd.refl [] w).alloc (Obj.cells #[.int .i64 3, .int .i64 ak, .int .i64 av] 79)
  have HU0 := Lib.hid hu0
  have hb := below_le (lt := ltII) l ak
  clear hs hr hu0 hmem hk hv hcm hcell
  have HDEL : Hid (tDel ltII l ak = l) := by unfold Hid tDel; rw [hin]; simp
  have HRB : Hid (isIn ltII l ak = false) := hin
  go_enter Try.func45, Try.ntmps45
  go_wp2_with fail
  (with_reducible refine (place_any _ _ l ((HR.out.rd rcII_len).upd0 rcII_len HU0.out) hlen ak HK.out).mono ?_)
  rintro e w1 ⟨rfl, hu1⟩
  rw [hin]
  have HU1 := Lib.hid (HU0.out.seq hu1)
  have c1' : w1.cell? ⟨w.heap.size, 1, none⟩ = some (.int .i64 ak) := hu1.cell (by go_simp) (by simp)
  have c0' : w1.cell? ⟨w.heap.size, 0, none⟩ = some (.int .i64 3) := hu1.cell (by go_simp) (by simp)
  have hsz1 : w.heap.size + 1 ≤ w1.heap.size := by have := hu1.size; simp at this; omega
  clear hu1 hin
  generalize below ltII l ak = at_ at *
  go_wp2_with fail
  (with_reducible refine (txII_Del ak _ _ (HS.out.upd0 HU1.out) hlen HK.out HRB.out rfl).mono ?_)
  rintro e w2 ⟨rfl, F2, hs2, hu2, hf2⟩
  have HS2 := Lib.hid hs2
  have HR2 : Hid (Rows4 w0 w2 (.slice ao l.length co) l) := (HR.out.upd HU1.out (by simp)).upd hu2 HAP.out
  have hsz2 := hu2.size
  have hsz3 := HS2.out.old.size
  clear hu2 hf2 c0' c1'
  go_wp2_with fail
  go_ret2
  exact ⟨_, F2, l, rfl, HR2.out, by rw [← HDEL.out]; exact HS2.out, by omega, HM.out⟩
set_option maxRecDepth 20000 in
set_option maxHeartbeats 4000000 in
theorem tStep_del_in (hin : isIn ltII l ak = true) :
    Calls Try.prog 45 #[.pointer (some ⟨g, 0, none⟩), v, .agg #[.int .i64 3, .int .i64 ak, .int .i64 av]] w (TStep w0 w g F l) := by
  have HS := Lib.hid hs
  have HR := Lib.hid hr
  have HM := Lib.hid hmem
  have HK := Lib.hid hk
  have HV := Lib.hid hv
  have HAP := Lib.hid (rows_apart hs hr)
  have HGE := Lib.hid hs.ge
  have hold := hs.old.size
  have hlen : l.length ≤ 100000 := by omega
  obtain ⟨ao, co, rfl, hlc, hcm, hcell⟩ := hr.rd rcII_len
  have hco : co ≤ 9223372036854775807 := by unfold maxLen at hcm; omega
  have HCM := Lib.hid hcm
  have hu0 := (Upd.refl [] w).alloc (Obj.cells #[.int .i64 3, .int .i64 ak, .int .i64 av] 79)
  have HU0 := Lib.hid hu0
  have hb := below_le (lt := ltII) l ak
  clear hs hr hu0 hmem hk hv hcm hcell
  have hlt : below ltII l ak < l.length := by unfold isIn at hin; exact (of_decide_eq_true hin).1
  have HDEL : Hid (tDel ltII l ak = l.take (below ltII l ak) ++ l.drop (below ltII l ak + 1)) := by unfold Hid tDel; rw [hin]; simp
  have HRB : Hid (isIn ltII l ak = true) := hin
  go_enter Try.func45, Try.ntmps45
  go_wp2_with fail
  (with_reducible refine (place_any _ _ l ((HR.out.rd rcII_len).upd0 rcII_len HU0.out) hlen ak HK.out).mono ?_)
  rintro e w1 ⟨rfl, hu1⟩
  rw [hin]
  have HU1 := Lib.hid (HU0.out.seq hu1)
  have c1' : w1.cell? ⟨w.heap.size, 1, none⟩ = some (.int .i64 ak) := hu1.cell (by go_simp) (by simp)
  have c0' : w1.cell? ⟨w.heap.size, 0, none⟩ = some (.int .i64 3) := hu1.cell (by go_simp) (by simp)
  have hsz1 : w.heap.size + 1 ≤ w1.heap.size := by have := hu1.size; simp at this; omega
  clear hu1 hin
  generalize below ltII l ak = at_ at *
  go_wp2_with fail
  (with_reducible refine (txII_Del ak _ _ (HS.out.upd0 HU1.out) hlen HK.out HRB.out rfl).mono ?_)
  rintro e w2 ⟨rfl, F2, hs2, hu2, hf2⟩
  have HS2 := Lib.hid hs2
  have HR2 : Hid (Rows4 w0 w2 (.slice ao l.length co) l) := (HR.out.upd HU1.out (by simp)).upd hu2 HAP.out
  have hsz2 := hu2.size
  have hsz3 := HS2.out.old.size
  clear hu2 hf2 c0' c1'
  have hcutA := fun W => run_cut_h (P := Try.prog) undRow4 sizeRow4 ao l.length co at_ (by omega) W
  obtain ⟨D, hD, hcutD⟩ : ∃ D : Option Addr, D = (if co = at_ + 1 then ao else ao.map (·.add ((at_ + 1) * 2))) ∧ ∀ W, (Instr.slice 75 (.slice ao l.length co) (some (.int .i64 ((at_ : Int) + 1))) none none).run Try.prog W = .ok (.slice D (l.length - (at_ + 1)) (co - (at_ + 1))) W :=
    ⟨_, rfl, fun W => by have h := run_cut (P := Try.prog) undRow4 sizeRow4 ao l.length co (at_ + 1) (by omega) W; simpa using h⟩
  have HD : Hid (RdN 2 rcII w2 (.slice D (l.length - (at_ + 1)) (co - (at_ + 1))) (l.drop (at_ + 1))) := by unfold Hid; rw [hD]; exact (HR2.out.rd rcII_len).drop (at_ + 1) (by omega)
  have HA1 : Hid (∀ (W : World) (G : Nat), w2.heap.size ≤ G → Upd [] w2 W → Blk W G 81 [] → ∃ v' w', (Builtin.append_ #[75, 75] 75 #[.slice (some ⟨G, 0, none⟩) 0 0, .slice ao at_ co]).run Try.prog W = .ok v' w' ∧ (OwnN 2 rcII w2.heap.size 81 w' v' (l.take at_) ∧ Upd [G] W w' ∧ Upd [] w2 w' ∧ ∃ a1 k1, v' = .slice a1 at_ k1)) := by
    intro W G hG hU hB
    obtain ⟨v', w', h1, h2, h3, h4⟩ := run_appN (P := Try.prog) (ty := 75) (base := w2.heap.size) rcII_len (by decide) rcII_one undRow4 infoRow4 rfl _ (.slice ao at_ co) [] (l.take at_) (ownN_empty 2 rcII _ _ W G hG hB) ((HR2.out.rd rcII_len).take at_ hb |>.upd0 rcII_len hU) (by simp; omega) (by unfold maxLen; simp; omega) hU.size
    rw [List.nil_append] at h2
    obtain ⟨a1, k1, h5, _⟩ := h2.rd rcII_len
    exact ⟨v', w', h1, h2, h3, hU.trans h3 (by simp) (fun y hy => .inr (by simp [blk] at hy; omega)), a1, k1, by rw [h5, List.length_take, Nat.min_eq_left hb]⟩
  have HA3 : Hid (∀ (W : World) (a2 : Option Addr) (k2 : Nat), OwnN 2 rcII w2.heap.size 81 W (.slice a2 (at_) k2) (l.take at_) → Upd [] w2 W → ∃ v' w', (Builtin.append_ #[75, 75] 75 #[.slice a2 (at_) k2, (.slice D (l.length - (at_ + 1)) (co - (at_ + 1)))]).run Try.prog W = .ok v' w' ∧ (OwnN 2 rcII w2.heap.size 81 w' v' (l.take at_ ++ l.drop (at_ + 1)) ∧ Upd [] w2 w' ∧ ∃ a3 n3 k3, v' = .slice a3 n3 k3)) := by
    intro W a2 k2 hO hU
    obtain ⟨v', w', h1, h2, h3, h4⟩ := run_appN (P := Try.prog) (ty := 75) (base := w2.heap.size) rcII_len (by decide) rcII_one undRow4 infoRow4 rfl _ (.slice D (l.length - (at_ + 1)) (co - (at_ + 1))) (l.take at_) (l.drop (at_ + 1)) hO (HD.out.upd0 rcII_len hU) (by simp; omega) (by unfold maxLen; simp; omega) hU.size
    obtain ⟨a3, k3, h5, _⟩ := h2.rd rcII_len
    exact ⟨v', w', h1, h2, hU.trans h3 (by simp) (fun y hy => .inr (hO.ge y hy).1), a3, _, k3, h5⟩
  have HLN : Hid ((l.take at_ ++ l.drop (at_ + 1)).length ≤ l.length + 1) := by unfold Hid; simp; omega
  have HMN : Hid (∀ p ∈ l.take at_ ++ l.drop (at_ + 1), I64 p.1 ∧ I64 p.2) := by
    intro p hp
    rcases List.mem_append.1 hp with hp | hp
    · exact HM.out p (List.mem_of_mem_take hp)
    · exact HM.out p (List.mem_of_mem_drop hp)
  clear hD
  have hwr : IntKind.i64.wrap ((at_ : Int) + 1) = (at_ : Int) + 1 := by rw [IntKind.wrap_i64]; omega
  go_wp2_with fail
  go_region_held3 (fun w' => True) (trivial)
      (first
        | ((refine step_app_of rfl (.tmp 102) (.tmp 106) rfl (.slice a1 at_ k1) (.slice D (l.length - (at_ + 1)) (co - (at_ + 1))) (by rfl) (by rfl) (HA3.out _ a1 k1 ?_ ?_) ?_); (refine OwnN.upd (S := []) ho3 ?_ (by simp); (repeat (first | exact Upd.refl _ _ | apply Upd.drew | apply Upd.drewN | apply Upd.alloc))); (refine hu23.seq ?_; (repeat (first | exact Upd.refl _ _ | apply Upd.drew | apply Upd.drewN | apply Upd.alloc))); (rintro v2 w4 ⟨ho4, hu4, a2, n2, k2, rfl⟩; dsimp only))
        | ((refine step_app_of rfl (.tmp 98) (.tmp 101) rfl (.slice (some ⟨w2.heap.size, 0, none⟩) 0 0) (.slice ao at_ co) (by rfl) (by rfl) (HA1.out _ w2.heap.size (by omega) ?_ ?_) ?_); (repeat (first | exact Upd.refl _ _ | apply Upd.drew | apply Upd.drewN | apply Upd.alloc)); (refine Blk.fresh (w := w2) (C := #[]) (xs := []) rfl rfl ?_; (repeat (first | exact Upd.refl _ _ | apply Upd.drew | apply Upd.drewN | apply Upd.alloc))); (rintro v1 w3 ⟨ho3, hu3, hu23, a1, k1, rfl⟩; dsimp only)))
  all_goals
    have HO4 := Lib.hid ho4
    have HU4 := Lib.hid hu4
    clear ho4 hu4
    go_wp2_with fail
    go_ret2
    exact ⟨_, F2, _, rfl, HO4.out.base_le (by omega), by rw [← HDEL.out]; exact HS2.out.upd0 HU4.out, HLN.out, HMN.out⟩
theorem tStep_any (kd : Int) :
    Calls Try.prog 45 #[.pointer (some ⟨g, 0, none⟩), v, .agg #[.int .i64 kd, .int .i64 ak, .int .i64 av]] w (TStep w0 w g F l) := by
  by_cases h1 : kd = 1
  · subst h1
    cases hin : isIn ltII l ak with
    | false => exact tStep_set_no w0 w g F v l hs hr hl hmem ak av hk hv hin
    | true => exact tStep_set_in w0 w g F v l hs hr hl hmem ak av hk hv hin
  · by_cases h2 : kd = 2
    · subst h2; exact tStep_get w0 w g F v l hs hr hl hmem ak av hk hv
    · by_cases h3 : kd = 3
      · subst h3
        cases hin : isIn ltII l ak with
        | false => exact tStep_del_no w0 w g F v l hs hr hl hmem ak av hk hv hin
        | true => exact tStep_del_in w0 w g F v l hs hr hl hmem ak av hk hv hin
      · by_cases h4 : kd = 4
        · subst h4; exact tStep_at w0 w g F v l hs hr hl hmem ak av hk hv
        · by_cases h5 : kd = 5
          · subst h5; exact tStep_least w0 w g F v l hs hr hl hmem ak av hk hv
          · exact tStep_other w0 w g F v l hs hr hl hmem ak av hk hv kd h1 h2 h3 h4 h5
end
end Go.Proofs.Ytjomecimbofnfaa
