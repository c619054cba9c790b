/- The law's own step on a table: the calls that read. -/
import Derived.Test.YtjomecimbofnfaaTabPlace
namespace Go.Proofs.Ytjomecimbofnfaa
open Go.RowKit
set_option linter.unusedSimpArgs false
set_option linter.unusedVariables false
abbrev rowT : TypeId := 81
/-- The law's rows: a list of the call's own. -/
abbrev Rows4 (w0 w : World) (v : Value) (l : List (Int × Int)) : Prop := OwnN 2 rcII w0.heap.size rowT w v l
def TStep (w0 w : World) (g : Nat) (F : List Nat) (l : List (Int × Int)) (e : Ending) (w' : World) : Prop :=
  ∃ v' F' l', e = .returned (.tuple #[v', .bool true]) ∧ Rows4 w0 w' v' l' ∧ TXII w0 w' g F' l' ∧ l'.length ≤ l.length + 1 ∧ (∀ p ∈ l', I64 p.1 ∧ I64 p.2)
theorem rows_apart {w0 w : World} {g : Nat} {F : List Nat} {l m : List (Int × Int)} {v : Value} (h : TXII w0 w g F l) (hv : Rows4 w0 w v m) : ∀ x ∈ blk v, x ∉ F := by
  intro x hx hF
  obtain ⟨lv, rfl, ht⟩ := h.ex
  obtain ⟨C, f, hq⟩ := hv.typ x hx
  rcases List.mem_cons.1 hF with rfl | hF
  · exact ht.tab.ne x hq (by decide) rfl
  · obtain ⟨C2, f2, hq2⟩ := ht.rows.typ x hF
    rw [hq] at hq2
    injection hq2 with h1; injection h1 with h2 h3 h4
    exact absurd h3 (by decide)
set_option linter.unusedSectionVars false
section
variable (w0 w : World) (g : Nat) (F : List Nat) (v : Value) (l : List (Int × Int)) (hs : TXII w0 w g F l) (hr : Rows4 w0 w v l) (hl : l.length ≤ 2000) (hmem : ∀ p ∈ l, I64 p.1 ∧ I64 p.2) (ak av : Int) (hk : I64 ak) (hv : I64 av)
include hs hr hl hmem hk hv
set_option maxRecDepth 20000 in
set_option maxHeartbeats 4000000 in
theorem tStep_other (kd : Int) (h1 : kd ≠ 1) (h2 : kd ≠ 2) (h3 : kd ≠ 3) (h4 : kd ≠ 4) (h5 : kd ≠ 5) :
    Calls Try.prog 45 #[.pointer (some ⟨g, 0, none⟩), v, .agg #[.int .i64 kd, .int .i64 ak, .int .i64 av]] w (TStep w0 w g F l) := by
  have t1 : (kd == 1) = false := by simpa using h1
  have t2 : (kd == 2) = false := by simpa using h2
  have t3 : (kd == 3) = false := by simpa using h3
  have t4 : (kd == 4) = false := by simpa using h4
  have t5 : (kd == 5) = false := by simpa using h5
  have HS := Lib.hid hs
  have HR := Lib.hid hr
  have HM := Lib.hid hmem
  have HK := Lib.hid hk
  have HV := Lib.hid hv
  have hlen : l.length ≤ 100000 := by omega
  obtain ⟨ao, co, rfl, hlc, hcm, hcell⟩ := hr.rd rcII_len
  have HC := Lib.hid hcell
  have hu0 := (Upd.refl [] w).alloc (Obj.cells #[.int .i64 kd, .int .i64 ak, .int .i64 av] 79)
  have HU0 := Lib.hid hu0
  clear hs hr hu0 hmem hk hv hcm hcell
  clear h1 h2 h3 h4 h5
  go_enter Try.func45, Try.ntmps45
  go_wp2_with fail
  (with_reducible refine (place_any _ _ l ((HR.out.rd rcII_len).upd0 rcII_len HU0.out) hlen ak HK.out).mono ?_)
  rintro e w1 ⟨rfl, hu1⟩
  have HU1 := Lib.hid (HU0.out.seq hu1)
  have c0 : w1.cell? ⟨w.heap.size, 0, none⟩ = some (.int .i64 kd) := hu1.cell (by go_simp) (by simp)
  clear hu1
  go_wp2_with fail
  go_ret2
  exact ⟨_, F, l, rfl, HR.out.upd HU1.out (by simp), HS.out.upd0 HU1.out, by omega, HM.out⟩
set_option maxRecDepth 20000 in
set_option maxHeartbeats 4000000 in
theorem tStep_least :
    Calls Try.prog 45 #[.pointer (some ⟨g, 0, none⟩), v, .agg #[.int .i64 5, .int .i64 ak, .int .i64 av]] w (TStep w0 w g F l) := by
  have HS := Lib.hid hs
  have HR := Lib.hid hr
  have HM := Lib.hid hmem
  have HK := Lib.hid hk
  have HV := Lib.hid hv
  have hlen : l.length ≤ 100000 := by omega
  obtain ⟨ao, co, rfl, hlc, hcm, hcell⟩ := hr.rd rcII_len
  have HC := Lib.hid hcell
  have hu0 := (Upd.refl [] w).alloc (Obj.cells #[.int .i64 5, .int .i64 ak, .int .i64 av] 79)
  have HU0 := Lib.hid hu0
  clear hs hr hu0 hmem hk hv hcm hcell
  go_enter Try.func45, Try.ntmps45
  go_wp2_with fail
  (with_reducible refine (place_any _ _ l ((HR.out.rd rcII_len).upd0 rcII_len HU0.out) hlen ak HK.out).mono ?_)
  rintro e w1 ⟨rfl, hu1⟩
  have HU1 := Lib.hid (HU0.out.seq hu1)
  have c0 : w1.cell? ⟨w.heap.size, 0, none⟩ = some (.int .i64 5) := hu1.cell (by go_simp) (by simp)
  have c1 : w1.cell? ⟨w.heap.size, 1, none⟩ = some (.int .i64 ak) := hu1.cell (by go_simp) (by simp)
  clear hu1
  go_wp2_with fail
  (with_reducible refine (txII_Least ak _ (HS.out.upd0 HU1.out) hlen HK.out rfl).mono ?_)
  rintro e w2 ⟨rfl, hu2⟩
  have HU2 := Lib.hid (HU1.out.seq hu2)
  clear hu2
  go_wp2_with fail
  go_ret2
  exact ⟨_, F, l, rfl, HR.out.upd HU2.out (by simp), HS.out.upd0 HU2.out, by omega, HM.out⟩
set_option maxRecDepth 20000 in
set_option maxHeartbeats 4000000 in
theorem tStep_get :
    Calls Try.prog 45 #[.pointer (some ⟨g, 0, none⟩), v, .agg #[.int .i64 2, .int .i64 ak, .int .i64 av]] w (TStep w0 w g F l) := by
  have HS := Lib.hid hs
  have HR := Lib.hid hr
  have HM := Lib.hid hmem
  have HK := Lib.hid hk
  have HV := Lib.hid hv
  have hlen : l.length ≤ 100000 := by omega
  obtain ⟨ao, co, rfl, hlc, hcm, hcell⟩ := hr.rd rcII_len
  have HC := Lib.hid hcell
  have hu0 := (Upd.refl [] w).alloc (Obj.cells #[.int .i64 2, .int .i64 ak, .int .i64 av] 79)
  have HU0 := Lib.hid hu0
  clear hs hr hu0 hmem hk hv hcm hcell
  have hb := below_le (lt := ltII) l ak
  have HIN : Hid (isIn ltII l ak = true → below ltII l ak < l.length) := fun h => by unfold isIn at h; exact (of_decide_eq_true h).1
  have HG0 : Hid (isIn ltII l ak = false → tGet ltII (0 : Int) l ak = (0, false)) := fun h => by unfold tGet; rw [h]; rfl
  have HG1 : Hid (isIn ltII l ak = true → tGet ltII (0 : Int) l ak = ((nth l (below ltII l ak)).2, true)) := fun h => by unfold tGet; rw [h]; rfl
  cases hin : isIn ltII l ak with
  | false =>
    have HG := Lib.hid (HG0.out hin)
    go_enter Try.func45, Try.ntmps45
    go_wp2_with fail
    (with_reducible refine (place_any _ _ l ((HR.out.rd rcII_len).upd0 rcII_len HU0.out) hlen ak HK.out).mono ?_)
    rintro e w1 ⟨rfl, hu1⟩
    rw [hin]
    have HU1 := Lib.hid (HU0.out.seq hu1)
    have c0 : w1.cell? ⟨w.heap.size, 0, none⟩ = some (.int .i64 2) := hu1.cell (by go_simp) (by simp)
    have c1 : w1.cell? ⟨w.heap.size, 1, none⟩ = some (.int .i64 ak) := hu1.cell (by go_simp) (by simp)
    clear hu1 hin HIN HG0 HG1
    generalize below ltII l ak = at_ at *
    go_wp2_with fail
    (with_reducible refine (txII_Get ak 0 false (HS.out.upd0 HU1.out) hlen HK.out HG.out).mono ?_)
    rintro e w2 ⟨rfl, hu2⟩
    have HU2 := Lib.hid (HU1.out.seq hu2)
    clear hu2
    go_wp2_with fail
    go_ret2
    exact ⟨_, F, l, rfl, HR.out.upd HU2.out (by simp), HS.out.upd0 HU2.out, by omega, HM.out⟩
  | true =>
    have HG := Lib.hid (HG1.out hin)
    have hlt := HIN.out hin
    obtain ⟨b, off, rfl, hc⟩ := HC.out (by intro h; simp [h] at hlt)
    have D1 := Lib.hid (show w.cell? ⟨b, off + below ltII l ak * 2 + 1, none⟩ = some (iv (nth l (below ltII l ak)).2) from hc _ hlt 1 (by omega))
    clear hc
    go_enter Try.func45, Try.ntmps45
    go_wp2_with fail
    (with_reducible refine (place_any _ _ l ((HR.out.rd rcII_len).upd0 rcII_len HU0.out) hlen ak HK.out).mono ?_)
    rintro e w1 ⟨rfl, hu1⟩
    rw [hin]
    have HU1 := Lib.hid (HU0.out.seq hu1)
    have c0 : w1.cell? ⟨w.heap.size, 0, none⟩ = some (.int .i64 2) := hu1.cell (by go_simp) (by simp)
    have c1 : w1.cell? ⟨w.heap.size, 1, none⟩ = some (.int .i64 ak) := hu1.cell (by go_simp) (by simp)
    clear hu1 hin HIN HG0 HG1 hb
    generalize (nth l (below ltII l ak)).2 = y at *
    generalize below ltII l ak = at_ at *
    have q1 : (0 : Int) ≤ at_ := by omega
    have q2 : (at_ : Int) < l.length := by omega
    go_wp2_with fail
    (with_reducible refine (txII_Get ak y true (HS.out.upd0 HU1.out) hlen HK.out HG.out).mono ?_)
    rintro e w2 ⟨rfl, hu2⟩
    have HU2 := Lib.hid (HU1.out.seq hu2)
    have d1 := HU2.out.cell D1.out (by simp)
    clear hu2
    go_wp2_with fail
    go_ret2
    exact ⟨_, F, l, rfl, HR.out.upd HU2.out (by simp), HS.out.upd0 HU2.out, by omega, HM.out⟩
set_option maxRecDepth 20000 in
set_option maxHeartbeats 4000000 in
theorem tStep_at :
    Calls Try.prog 45 #[.pointer (some ⟨g, 0, none⟩), v, .agg #[.int .i64 4, .int .i64 ak, .int .i64 av]] w (TStep w0 w g F l) := by
  have HS := Lib.hid hs
  have HR := Lib.hid hr
  have HM := Lib.hid hmem
  have HK := Lib.hid hk
  have HV := Lib.hid hv
  have hlen : l.length ≤ 100000 := by omega
  obtain ⟨ao, co, rfl, hlc, hcm, hcell⟩ := hr.rd rcII_len
  have HC := Lib.hid hcell
  have hu0 := (Upd.refl [] w).alloc (Obj.cells #[.int .i64 4, .int .i64 ak, .int .i64 av] 79)
  have HU0 := Lib.hid hu0
  clear hs hr hu0 hmem hk hv hcm hcell
  by_cases hd : ak < 0 ∨ (l.length : Int) ≤ ak
  · have HA : Hid (tAt (0 : Int) (0 : Int) l ak = (0, 0, false)) := by unfold Hid tAt; rw [if_neg (by omega)]
    have hd : (ak < 0) ∨ (0 ≤ ak ∧ (l.length : Int) ≤ ak) := by omega
    rcases hd with h | ⟨h, h'⟩
    all_goals
      go_enter Try.func45, Try.ntmps45
      go_wp2_with fail
      (with_reducible refine (place_any _ _ l ((HR.out.rd rcII_len).upd0 rcII_len HU0.out) hlen ak HK.out).mono ?_)
      rintro e w1 ⟨rfl, hu1⟩
      have HU1 := Lib.hid (HU0.out.seq hu1)
      have c0 : w1.cell? ⟨w.heap.size, 0, none⟩ = some (.int .i64 4) := hu1.cell (by go_simp) (by simp)
      have c1 : w1.cell? ⟨w.heap.size, 1, none⟩ = some (.int .i64 ak) := hu1.cell (by go_simp) (by simp)
      have C1 := Lib.hid c1
      clear hu1
      go_wp2_with fail
      (with_reducible refine (txII_At ak 0 0 false HK.out (HS.out.upd0 HU1.out) hlen HA.out).mono ?_)
      rintro e w2 ⟨rfl, hu2⟩
      have HU2 := Lib.hid (HU1.out.seq hu2)
      have c2 := hu2.cell C1.out (by simp)
      clear hu2 c0 c1
      go_wp2_with fail
      go_ret2
      exact ⟨_, F, l, rfl, HR.out.upd HU2.out (by simp), HS.out.upd0 HU2.out, by omega, HM.out⟩
  · obtain ⟨j, rfl⟩ := Int.eq_ofNat_of_zero_le (show 0 ≤ ak by omega)
    have hlt : j < l.length := by omega
    have HA : Hid (tAt (0 : Int) (0 : Int) l (j : Int) = ((nth l j).1, (nth l j).2, true)) := tAt_at _ _ l j hlt
    obtain ⟨b, off, rfl, hc⟩ := HC.out (by intro h; simp [h] at hlt)
    have D0 := Lib.hid (show w.cell? ⟨b, off + j * 2, none⟩ = some (iv (nth l j).1) from hc _ hlt 0 (by omega))
    have D1 := Lib.hid (show w.cell? ⟨b, off + j * 2 + 1, none⟩ = some (iv (nth l j).2) from hc _ hlt 1 (by omega))
    generalize (nth l j).1 = x at *
    generalize (nth l j).2 = y at *
    have q1 : (0 : Int) ≤ j := by omega
    have q2 : (j : Int) < l.length := by omega
    clear hc hd
    go_enter Try.func45, Try.ntmps45
    go_wp2_with fail
    (with_reducible refine (place_any _ _ l ((HR.out.rd rcII_len).upd0 rcII_len HU0.out) hlen (j : Int) HK.out).mono ?_)
    rintro e w1 ⟨rfl, hu1⟩
    have HU1 := Lib.hid (HU0.out.seq hu1)
    have c0 : w1.cell? ⟨w.heap.size, 0, none⟩ = some (.int .i64 4) := hu1.cell (by go_simp) (by simp)
    have c1 : w1.cell? ⟨w.heap.size, 1, none⟩ = some (.int .i64 (j : Int)) := hu1.cell (by go_simp) (by simp)
    have C1 := Lib.hid c1
    clear hu1
    go_wp2_with fail
    (with_reducible refine (txII_At (j : Int) x y true HK.out (HS.out.upd0 HU1.out) hlen HA.out).mono ?_)
    rintro e w2 ⟨rfl, hu2⟩
    have HU2 := Lib.hid (HU1.out.seq hu2)
    have c2 := hu2.cell C1.out (by simp)
    have d0 := HU2.out.cell D0.out (by simp)
    have d1 := HU2.out.cell D1.out (by simp)
    clear hu2 c0 c1
    go_wp2_with fail
    go_ret2
    exact ⟨_, F, l, rfl, HR.out.upd HU2.out (by simp), HS.out.upd0 HU2.out, by omega, HM.out⟩
end
end Go.Proofs.Ytjomecimbofnfaa
