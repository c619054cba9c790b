/- Chapter 2: a list of numbers read again; an item of no kind. -/
import Derived.Test.YthnmlifnlmdelaaWireBackLaw
namespace Go.Proofs.Ythnmlifnlmdelaa
open Go.RowKit
set_option linter.unusedSimpArgs false
set_option linter.unusedVariables false
theorem strOf_list' (l : List UInt8) : (strOf l).toList = l := by rw [strList_eq]; rfl
section
variable {base : Nat} {g : Nat} {v : Value} {B : List UInt8} {z : RSt}
set_option maxHeartbeats 4000000 in
theorem back0_any (w : World) (kd n mo : Int) (s : ByteArray) (f : Bool) (lv : Sl) (hn : I64 n) (k1 : kd ≠ 1) (k2 : kd ≠ 2) (k3 : kd ≠ 3) (k4 : kd ≠ 4) (k5 : kd ≠ 5) (h : RdrAt 79 base w g v B z) :
    Calls Try.prog 45 #[.pointer (some ⟨g, 0, none⟩), .agg #[.int .i64 kd, .int .i64 n, .int .i64 mo, .string s, .bool f, slv lv]] w fun e w' => BackSaid base w g v B true z e w' := by
  obtain ⟨la, ln, lk⟩ := lv
  dsimp only [slv]
  have e1 : (kd == 1) = false := beq_eq_false_iff_ne.2 k1
  have e2 : (kd == 2) = false := beq_eq_false_iff_ne.2 k2
  have e3 : (kd == 3) = false := beq_eq_false_iff_ne.2 k3
  have e4 : (kd == 4) = false := beq_eq_false_iff_ne.2 k4
  have e5 : (kd == 5) = false := beq_eq_false_iff_ne.2 k5
  clear k1 k2 k3 k4 k5
  have H0 := Lib.hid h
  have hx : n < 0 ∨ ¬ n < 0 := by omega
  go_enter Try.func45, Try.ntmps45
  rcases hx with hx | hx
  all_goals go_wp2_with fail
  all_goals go_ret
  all_goals exact ⟨rfl, H0.out.upd ((Upd.refl [] w).alloc _), ((Upd.refl [g] w).alloc _)⟩
set_option maxHeartbeats 4000000 in
theorem back5_any (w : World) (n mo : Int) (s : ByteArray) (f : Bool) (lv : Sl) (l : List Int) (z' : RSt) (hn : I64 n) (hl : Rd iv w (slv lv) l) (hi : ∀ x ∈ l, I64 x) (hl7 : l.length ≤ 10000000) (hgl : l ≠ [] → ∀ x ∈ blk (slv lv), x ≠ g) (hr : rdItems B (l.length : Int) z = (l.map (fun x => (x.toNat : Int)), z')) (h : RdrAt 79 base w g v B z) :
    Calls Try.prog 45 #[.pointer (some ⟨g, 0, none⟩), .agg #[.int .i64 5, .int .i64 n, .int .i64 mo, .string s, .bool f, slv lv]] w fun e w' => BackSaid base w g v B true z' e w' := by
  obtain ⟨la, ln, lk⟩ := lv
  dsimp only [slv] at hl ⊢
  have HLI := Lib.hid hl
  obtain ⟨_, _, he, -, -, hcL⟩ := hl
  obtain ⟨rfl, rfl, rfl⟩ := Value.slice.inj he
  clear he
  have HCL := Lib.hid hcL
  have HRR := Lib.hid hr
  clear hcL hr hi
  have HNG : Hid (∀ b0 off k, la = some ⟨b0, off, none⟩ → k < l.length → b0 ≠ g) := fun b0 off k ha hk e => hgl (by intro q; rw [q] at hk; simp at hk) b0 (by subst ha; simp [blk]) e
  have hx : n < 0 ∨ ¬ n < 0 := by omega
  have hgw := h.cells.lt
  go_enter Try.func45, Try.ntmps45
  obtain ⟨w0, hw0⟩ : ∃ x, x = w.alloc (.cells #[.int .i64 5, .int .i64 n, .int .i64 mo, .string s, .bool f, .slice la l.length lk] 58) := ⟨_, rfl⟩
  have HU0 : Hid (Upd [] w w0) := by rw [hw0]; exact (Upd.refl [] w).alloc _
  have HB0 := Lib.hid (Blk.new w 58 [.int .i64 5, .int .i64 n, .int .i64 mo, .string s, .bool f, .slice la l.length lk])
  replace HB0 : Hid (Blk w0 w.heap.size 58 [.int .i64 5, .int .i64 n, .int .i64 mo, .string s, .bool f, .slice la l.length lk]) := by rw [hw0]; exact HB0.out
  have HR0 := Lib.hid (h.upd HU0.out)
  clear h
  rcases hx with hx | hx
  · go_wp2_with fail
    rw [← hw0]
    clear hw0
    have c5 : w0.cell? ⟨w.heap.size, 5, none⟩ = some (.slice la l.length lk) := HB0.out.cell 5
    go_wp2_with fail
    with_reducible refine (rItems_any _ _ (i64_mk (by omega) (by omega)) HR0.out).mono ?_
    rintro e w1 ⟨u1, rfl, ho1, h1, hu1⟩
    rw [HRR.out] at ho1 h1
    dsimp only at ho1 h1
    obtain ⟨ao, ko, hvo, -, -, hco⟩ := ho1.rd
    rw [List.length_map] at hvo
    subst hvo
    have HCO := Lib.hid hco
    have HZ := Lib.hid h1
    have HU1 : Hid (Upd [g] w w1) := HU0.out.trans hu1 (by simp) (fun x hx => .inl hx)
    have HU01 := Lib.hid hu1
    have d5 : w1.cell? ⟨w.heap.size, 5, none⟩ = some (.slice la l.length lk) := hu1.cell c5 (by simp; omega)
    clear ho1 h1 hu1 hco c5
    go_wp2_with fail
    go_loopw [7] (fun i wr => ∃ k : Nat, i = .int .i64 (k : Int) ∧ k ≤ l.length ∧ Hid (Upd [] w1 wr)) (fun i _ => l.length - (intOf i).toNat)
    case atStart => exact ⟨0, rfl, Nat.zero_le _, Upd.refl _ _⟩
    case round =>
      obtain ⟨k, rfl, hk, hu⟩ := hrel
      by_cases hlt : k < l.length
      · obtain ⟨b0, off, rfl, hc⟩ := HCL.out (by intro e; rw [e] at hlt; simp at hlt)
        obtain ⟨b1, off1, rfl, hcc⟩ := HCO.out (by intro e; have := congrArg List.length e; simp at this; rw [this] at hlt; simp at hlt)
        have hne : b0 ≠ g := HNG.out b0 off k rfl hlt
        have x1 : wr.cell? ⟨b0, off + k, none⟩ = some (iv (nth l k)) := hu.out.cell (HU1.out.cell (hc k hlt) (by simpa using hne)) (by simp)
        have x2 : wr.cell? ⟨b1, off1 + k, none⟩ = some (iv ((nth l k).toNat : Int)) := by
          have := hu.out.cell (hcc k (by simpa using hlt)) (by simp)
          rwa [nth_of (l.map (fun x => (x.toNat : Int))) k ((nth l k).toNat : Int) (by rw [List.getElem?_map, List.getElem?_eq_getElem hlt, nth_get l k hlt]; rfl)] at this
        have x5 := hu.out.cell d5 (by simp)
        obtain ⟨P, hP⟩ : ∃ P : Int, P = ((nth l k).toNat : Int) := ⟨_, rfl⟩
        have hcase : (P != nth l k) = false ∨ ((P != nth l k) = true ∧ ¬ (0 : Int) ≤ nth l k ∧ P = 0) := by
          rw [bne_eq_false_iff_eq, bne_iff_ne]; omega
        rw [← hP] at x2
        generalize nth l k = y at *
        clear hc hcc hP hne
        have q1 : (k : Int) < l.length := by omega
        rcases hcase with g1 | ⟨g1, g2, g3⟩
        · go_wp2_with fail
          go_quiet (fail)
          have HU5 := Lib.hid (hu.out.drewN nq)
          generalize wr.drewN nq = w5 at *
          go_wp2_with fail
          go_roundw
          case rel => exact ⟨k + 1, by go_num, by omega, HU5⟩
          case measure => simp [intOf]; omega
        · subst g3
          go_wp2_with fail
          go_quiet (fail)
          have HU5 := Lib.hid (hu.out.drewN nq)
          generalize wr.drewN nq = w5 at *
          go_wp2_with fail
          go_roundw
          case rel => exact ⟨k + 1, by go_num, by omega, HU5⟩
          case measure => simp [intOf]; omega
      · obtain rfl : k = l.length := by omega
        go_wp2_with fail
        go_ret
        exact ⟨rfl, HZ.out.upd hu.out, HU1.out.trans hu.out (fun x hx => hx) (by simp)⟩
  · go_wp2_with fail
    rw [← hw0]
    clear hw0
    have c5 : w0.cell? ⟨w.heap.size, 5, none⟩ = some (.slice la l.length lk) := HB0.out.cell 5
    go_wp2_with fail
    with_reducible refine (rItems_any _ _ (i64_mk (by omega) (by omega)) HR0.out).mono ?_
    rintro e w1 ⟨u1, rfl, ho1, h1, hu1⟩
    rw [HRR.out] at ho1 h1
    dsimp only at ho1 h1
    obtain ⟨ao, ko, hvo, -, -, hco⟩ := ho1.rd
    rw [List.length_map] at hvo
    subst hvo
    have HCO := Lib.hid hco
    have HZ := Lib.hid h1
    have HU1 : Hid (Upd [g] w w1) := HU0.out.trans hu1 (by simp) (fun x hx => .inl hx)
    have HU01 := Lib.hid hu1
    have d5 : w1.cell? ⟨w.heap.size, 5, none⟩ = some (.slice la l.length lk) := hu1.cell c5 (by simp; omega)
    clear ho1 h1 hu1 hco c5
    go_wp2_with fail
    go_loopw [7] (fun i wr => ∃ k : Nat, i = .int .i64 (k : Int) ∧ k ≤ l.length ∧ Hid (Upd [] w1 wr)) (fun i _ => l.length - (intOf i).toNat)
    case atStart => exact ⟨0, rfl, Nat.zero_le _, Upd.refl _ _⟩
    case round =>
      obtain ⟨k, rfl, hk, hu⟩ := hrel
      by_cases hlt : k < l.length
      · obtain ⟨b0, off, rfl, hc⟩ := HCL.out (by intro e; rw [e] at hlt; simp at hlt)
        obtain ⟨b1, off1, rfl, hcc⟩ := HCO.out (by intro e; have := congrArg List.length e; simp at this; rw [this] at hlt; simp at hlt)
        have hne : b0 ≠ g := HNG.out b0 off k rfl hlt
        have x1 : wr.cell? ⟨b0, off + k, none⟩ = some (iv (nth l k)) := hu.out.cell (HU1.out.cell (hc k hlt) (by simpa using hne)) (by simp)
        have x2 : wr.cell? ⟨b1, off1 + k, none⟩ = some (iv ((nth l k).toNat : Int)) := by
          have := hu.out.cell (hcc k (by simpa using hlt)) (by simp)
          rwa [nth_of (l.map (fun x => (x.toNat : Int))) k ((nth l k).toNat : Int) (by rw [List.getElem?_map, List.getElem?_eq_getElem hlt, nth_get l k hlt]; rfl)] at this
        have x5 := hu.out.cell d5 (by simp)
        obtain ⟨P, hP⟩ : ∃ P : Int, P = ((nth l k).toNat : Int) := ⟨_, rfl⟩
        have hcase : (P != nth l k) = false ∨ ((P != nth l k) = true ∧ ¬ (0 : Int) ≤ nth l k ∧ P = 0) := by
          rw [bne_eq_false_iff_eq, bne_iff_ne]; omega
        rw [← hP] at x2
        generalize nth l k = y at *
        clear hc hcc hP hne
        have q1 : (k : Int) < l.length := by omega
        rcases hcase with g1 | ⟨g1, g2, g3⟩
        · go_wp2_with fail
          go_quiet (fail)
          have HU5 := Lib.hid (hu.out.drewN nq)
          generalize wr.drewN nq = w5 at *
          go_wp2_with fail
          go_roundw
          case rel => exact ⟨k + 1, by go_num, by omega, HU5⟩
          case measure => simp [intOf]; omega
        · subst g3
          go_wp2_with fail
          go_quiet (fail)
          have HU5 := Lib.hid (hu.out.drewN nq)
          generalize wr.drewN nq = w5 at *
          go_wp2_with fail
          go_roundw
          case rel => exact ⟨k + 1, by go_num, by omega, HU5⟩
          case measure => simp [intOf]; omega
      · obtain rfl : k = l.length := by omega
        go_wp2_with fail
        go_ret
        exact ⟨rfl, HZ.out.upd hu.out, HU1.out.trans hu.out (fun x hx => hx) (by simp)⟩
theorem back_any (w : World) (x : Itm) (hx : ItGood w x 1048576) (k : Nat) (r : List UInt8) (hk : k ≤ B.length) (hd : B.drop k = encIt x ++ r) (hgl : x.l ≠ [] → ∀ y ∈ blk (slv x.lv), y ≠ g) (h : RdrAt 79 base w g v B (k, 0)) :
    Calls Try.prog 45 #[.pointer (some ⟨g, 0, none⟩), itV x] w fun e w' => BackSaid base w g v B true (k + (encIt x).length, 0) e w' := by
  obtain ⟨kd, n, mo, s, f, lv, l⟩ := x
  obtain ⟨h1, h2, h3, h4, h5, h6, h7⟩ := hx
  dsimp only at *
  have hm : n.toNat < 9223372036854775808 := by have := h2.2; omega
  unfold encIt encItem at hd ⊢
  dsimp only at hd ⊢
  by_cases k1 : kd = 1
  · subst k1
    rw [if_pos (.inl rfl)] at hd ⊢
    have hr := num_at B k n.toNat r hm hd
    have := back1_any w n mo s f lv h2 h
    rw [hr] at this
    simpa using this
  · by_cases k4 : kd = 4
    · subst k4
      rw [if_pos (.inr rfl)] at hd ⊢
      have hr := upto_at B k n.toNat r hm hd
      have := back4_any w n mo s f lv h2 h
      rw [hr] at this
      simpa using this
    · rw [if_neg (by omega)] at hd ⊢
      by_cases k2 : kd = 2
      · subst k2
        rw [if_pos rfl] at hd ⊢
        have hr := text_at B k s r (by omega) hk hd
        have := back2_any w n mo s f lv h2 (by omega) h
        rw [hr] at this
        have hq : (strOf s.data.toList).toList == s.toList := by rw [strOf_list', strList_eq]; simp
        simp only [hq] at this
        exact this
      · rw [if_neg k2] at hd ⊢
        by_cases k3 : kd = 3
        · subst k3
          rw [if_pos rfl] at hd ⊢
          have hr := flag_at B k f r hd
          have := back3_any w n mo s f lv h2 h
          rw [hr] at this
          simpa using this
        · rw [if_neg k3] at hd ⊢
          by_cases k5 : kd = 5
          · subst k5
            rw [if_pos rfl] at hd ⊢
            exact back5_any w n mo s f lv l _ h2 h4 h5 (by omega) hgl (items_at B k l r h5 hk (by omega) hd) h
          · rw [if_neg k5]
            exact back0_any w kd n mo s f lv h2 k1 k2 k3 k4 k5 h
end
end Go.Proofs.Ythnmlifnlmdelaa
