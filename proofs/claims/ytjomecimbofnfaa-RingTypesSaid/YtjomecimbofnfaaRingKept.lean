/- The walk of RingKept. -/
import Derived.Test.YtjomecimbofnfaaRingPlays
import Derived.Test.YtjomecimbofnfaaApart
import Derived.Test.YtjomecimbofnfaaOwnSet
namespace Go.Proofs.Ytjomecimbofnfaa
open Go.RowKit
set_option linter.unusedSimpArgs false
set_option linter.unusedVariables false
theorem RQInt.base_le {base base' : Nat} {w : World} {g gl room : Nat} {q : List Int} (h : RQInt base w g gl room q) (hb : base' ≤ base) : RQInt base' w g gl room q := by
  obtain ⟨arr, first, h1, h2⟩ := h
  exact ⟨arr, first, ⟨h1.ring, h1.arr_, by have := h1.gb; omega, by have := h1.lb; omega, h1.len, h1.le⟩, h2⟩
/-- Two rings of the same, and a list of the call's own. -/
structure Kept (base : Nat) (w : World) (g gl g2 gl2 : Nat) (v : Value) (q : List Int) : Prop where
  r1 : RQInt base w g gl 30 q
  r2 : RQInt base w g2 gl2 30 q
  own : Own iv base 3 w v q
  a12 : Ap [g, gl] [g2, gl2]
  a1v : Ap (blk v) [g, gl]
  a2v : Ap (blk v) [g2, gl2]
theorem Kept.upd {base : Nat} {w w' : World} {g gl g2 gl2 : Nat} {v : Value} {q : List Int} (h : Kept base w g gl g2 gl2 v q) {S : List Nat} (hu : Upd S w w') (hS : ∀ x ∈ S, w.heap.size ≤ x ∨ base + 0 = base ∧ x ∉ [g, gl] ∧ x ∉ [g2, gl2] ∧ x ∉ blk v) : Kept base w' g gl g2 gl2 v q := by
  refine ⟨h.r1.upd hu fun x hx hs => ?_, h.r2.upd hu fun x hx hs => ?_, h.own.upd hu fun x hx hs => ?_, h.a12, h.a1v, h.a2v⟩
  · rcases hS x hs with k | k
    · have := (h.r1.lt x hx).2; omega
    · exact k.2.1 hx
  · rcases hS x hs with k | k
    · have := (h.r2.lt x hx).2; omega
    · exact k.2.2.1 hx
  · rcases hS x hs with k | k
    · have := (h.own.ge x hx).2; omega
    · exact k.2.2.2 hx
def Half (base : Nat) (w : World) (v : Value) (q : List Int) (k : Nat) : Prop := ∃ m : List Int, m.length = q.length ∧ Own iv base 3 w v m ∧ ∀ j, k ≤ j → nth m j = nth q j
theorem Half.set_ {base : Nat} {w : World} {g n cap : Nat} {q : List Int} {k : Nat} (h : Half base w (.slice (some ⟨g, 0, none⟩) n cap) q k) (hk : k < q.length) (y : Int) : Half base (w.setCell ⟨g, k, none⟩ (iv y)) (.slice (some ⟨g, 0, none⟩) n cap) q (k + 1) := by
  obtain ⟨m, h1, h2, h3⟩ := h
  refine ⟨m.set k y, by simpa using h1, h2.set_ k (by omega) y, fun j hj => ?_⟩
  rw [nth_setG m k j y (by omega), if_neg (by omega)]; exact h3 j (by omega)
set_option maxRecDepth 20000 in
set_option maxHeartbeats 2000000 in
theorem ringKept_any (w : World) (v : Value) (l : List Int) (h : Rd iv w v l) (hl : ∀ x ∈ l, I64 x) (_ : l.length * 8 ≤ 140737488351232) :
    Calls Try.prog 6 #[v] w fun e w' => e = .returned (.bool true) ∧ Upd [] w w' := by
  have HR := Lib.hid h
  obtain ⟨a, cap, rfl, hlc, hcm, hcell⟩ := h
  have hm' : l.length ≤ 9223372036854775807 := by unfold maxLen at hcm; omega
  have HL := Lib.hid hl
  clear hlc hcm hcell hl
  go_enter Try.func6, Try.ntmps6
  go_wp2_with fail
  refine (rqNewInt_ok _ 30 30 rfl (by omega) (by omega)).mono ?_
  rintro e w1 ⟨g, gl, rfl, hs1, hu1⟩
  have HS1 := Lib.hid hs1
  have HU1 := Lib.hid hu1
  clear hs1 hu1
  go_wp2_with fail
  refine (rqNewInt_ok _ 30 30 rfl (by omega) (by omega)).mono ?_
  rintro e w2 ⟨g2, gl2, rfl, hs2, hu2⟩
  have HK : Hid (Kept w.heap.size w2 g gl g2 gl2 (.slice none 0 0) []) :=
    ⟨HS1.out.upd0 hu2, hs2.base_le HU1.out.size, World.ownsRow_nil _ _ _ _, (Ap.new (fun y hy => (hs2.lt y hy).1) (fun x hx => (HS1.out.lt x hx).2)).symm, Ap.nil, Ap.nil⟩
  have HU2 := Lib.hid (HU1.out.seq hu2)
  clear hs2 hu2 HS1 HU1
  go_wp2_with fail
  go_loopw [7, 8] (fun v i wr => ∃ (k : Nat), k ≤ 30 ∧ k ≤ l.length ∧ i = .int .i64 k ∧ Hid (Kept w.heap.size wr g gl g2 gl2 v (l.take k)) ∧ Hid (Upd [] w wr)) (fun _ i _ => 30 - (intOf i).toNat)
  case atStart => exact ⟨0, by omega, by omega, rfl, HK, HU2⟩
  case round =>
    obtain ⟨k, hk, hkl, rfl, hs, hu⟩ := hrel
    clear HK HU2
    have hlen : (l.take k).length = k := by rw [List.length_take]; omega
    obtain ⟨ao, co, rfl, -⟩ := hs.out.own.rd
    rw [hlen] at hs ⊢
    by_cases hgo : k < l.length ∧ k < 30
    · obtain ⟨hlt, h2⟩ := hgo
      have HT : Hid (l.take (k + 1) = l.take k ++ [nth l k]) := by unfold Hid; rw [List.take_succ_eq_append_getElem hlt, nth_get l k hlt]
      obtain ⟨b, off, rfl, c0⟩ := (HR.out.upd0 hu.out).at_ k hlt
      have D0 := Lib.hid (show w.cell? ⟨b, off + k, none⟩ = some (iv (nth l k)) from by
        obtain ⟨b', off', he, hc⟩ := HR.out.at_ k hlt
        injection he with he; injection he with e1 e2; subst e1; subst e2; exact hc)
      have HLEN := Lib.hid hlen
      generalize nth l k = x at *
      have q1 : (k : Int) < l.length := by omega
      have q2 : (k : Int) < 30 := by omega
      have hl3 : Hid ((l.take k).length < 30) := by unfold Hid; omega
      clear hlen
      go_wp2_with fail
      refine (rqPutInt_ok _ x hs.out.r1 hl3.out).mono ?_
      rintro e w3 ⟨rfl, hr3, hu3⟩
      have HR3 := Lib.hid hr3
      have HU3 := Lib.hid (RQInt.next hu.out hs.out.r1 hu3)
      have HS3 := Lib.hid (hs.out.r2.upd hu3 hs.out.a12.symm)
      have HO3 := Lib.hid (hs.out.own.upd hu3 hs.out.a1v)
      have c0 := HU3.out.cell D0.out (by simp)
      clear hr3 hu3
      go_wp2_with fail
      refine (rqPutInt_ok _ x HS3.out hl3.out).mono ?_
      rintro e w4 ⟨rfl, hr4, hu4⟩
      have HS4 := Lib.hid hr4
      have HU4 := Lib.hid (RQInt.next HU3.out HS3.out hu4)
      have HR4 := Lib.hid (HR3.out.upd hu4 hs.out.a12)
      have HO4 := Lib.hid (HO3.out.upd hu4 hs.out.a2v)
      have c0 := HU4.out.cell D0.out (by simp)
      have HB : Hid (((l.take k).length + [x].length) * 8 ≤ 140737488355328) := by unfold Hid; rw [HLEN.out]; simp; omega
      have HL2 : Hid ((l.take k).length + [x].length ≤ maxLen) := by unfold Hid maxLen; rw [HLEN.out]; simp; omega
      have hsz4 := HU4.out.size
      clear hr4 hu4
      go_wp2_with (at_builtin; go_must (refine wpList_app_of rfl _ _ rfl (.slice ao k co) (.slice (some ⟨w4.heap.size, 0, none⟩) 1 1) rfl rfl (run_app (c := iv) (fun _ => rfl) Try.underlying30 infoElInt rfl _ _ (l.take k) [x] (HO4.out.upd ((Upd.refl [] _).alloc _) (by simp)) (Rd.lit [x] rfl rfl rfl (by decide) (by decide)) HB.out HL2.out (by simp <;> omega)) ?_; rintro v1 w5 ⟨ho5, hu5, hk5⟩; have HO5 := Lib.hid ho5; have HU5 := Lib.hid hu5; have HK5 := Lib.hid hk5; clear ho5 hu5 hk5))
      go_roundw
      case rel =>
        refine ⟨k + 1, by omega, by omega, by go_num, ?_, (HU4.out.alloc _).trans HU5.out (by simp) (fun y hy => .inr (HO4.out.ge y hy).1)⟩
        have e1 : Upd [] w4 (w4.alloc (Obj.cells #[iv x] 3)) := (Upd.refl [] w4).alloc _
        rw [HT.out]
        refine ⟨(HR4.out.upd0 e1).upd HU5.out hs.out.a1v.symm, (HS4.out.upd0 e1).upd HU5.out hs.out.a2v.symm, HO5.out, hs.out.a12, ?_, ?_⟩
        · exact hs.out.a1v.next HK5.out (fun y hy => by have := (HR4.out.lt y hy).2; simp; omega)
        · exact hs.out.a2v.next HK5.out (fun y hy => by have := (HS4.out.lt y hy).2; simp; omega)
      case measure => simp [intOf]; omega
    · have HLEN := Lib.hid hlen
      have hex : (k = 30 ∧ k < l.length) ∨ (k = l.length ∧ k ≤ 30) := by omega
      clear hgo hlen
      rcases hex with ⟨rfl, hx⟩ | ⟨rfl, hx⟩
      all_goals
        go_wp2_with fail
        clear hx hk hkl
        generalize hq : List.take _ l = q at *
        generalize hvw : Value.slice ao _ co = vw at *
        clear hvw
        have HQ := Lib.hid hq
        clear hq
        have HQI : Hid (∀ j, j < q.length → I64 (nth q j)) := by
          intro j hj
          have hjl := hj
          rw [← HQ.out, List.length_take] at hjl
          rw [← HQ.out, nth_take _ _ _ (by omega), nth_get l j (by omega)]
          exact HL.out _ (List.getElem_mem _)
        clear HQ
        refine (rqListInt_any _ hs.out.r1).mono ?_
        rintro e w3 ⟨v3, rfl, ho3, hu3⟩
        have HK3 := Lib.hid (hs.out.upd hu3 (by simp))
        have HU3 := Lib.hid (hu.out.seq hu3)
        have hszr := hu.out.size
        by_cases hne : q = []
        · have hq0 : q.length = 0 := by rw [hne]; rfl
          obtain ⟨a3, k3, rfl, -⟩ := ho3.rd
          have HQ0 := Lib.hid hq0
          have HQN := Lib.hid hne
          rw [hq0]
          clear ho3 hu3 hq0 hne
          go_wp2_with fail
          go_loopw [10] (fun i wz => i = .int .i64 0 ∧ wz = w3) (fun i _ => 0)
          case atStart => exact ⟨rfl, rfl⟩
          case round =>
            obtain ⟨rfl, rfl⟩ := hrel
            go_wp2_with fail
            refine (rqDropInt_any _ 3 (qN q 3) _ (i64_small _ (by omega) (by omega)) HK3.out.r2 rfl rfl).mono ?_
            rintro e w5 ⟨rfl, hs5, hu5⟩
            have HU5 := Lib.hid (RQInt.next HU3.out HK3.out.r2 hu5)
            have HR5 := Lib.hid (HK3.out.r1.upd hu5 HK3.out.a12)
            have HO5 := Lib.hid (HK3.out.own.upd hu5 HK3.out.a2v)
            clear hs5 hu5
            go_wp2_with fail
            refine (rqListInt_any _ HR5.out).mono ?_
            rintro e w6 ⟨v6, rfl, ho6, hu6⟩
            have HO6 := Lib.hid ho6
            have HW6 := Lib.hid (HO5.out.upd hu6 (by simp))
            have HU6 := Lib.hid (HU5.out.seq hu6)
            obtain ⟨a6, k6, rfl, -⟩ := ho6.rd
            clear hu6 ho6
            go_wp2_with fail
            refine (sameInt_ok _ _ q q _ HO6.out.rd HW6.out.rd rfl).mono ?_
            rintro e w7 ⟨rfl, hu7⟩
            go_wp2_with fail
            refine (ringRuns_any _).mono ?_
            rintro e w9 ⟨rfl, hu9⟩
            go_wp2_with fail
            go_ret
            exact ⟨rfl, (HU6.out.seq hu7).seq hu9⟩
        · obtain ⟨g3, cap3, rfl, hg3, hc3, hm3⟩ := ho3.form0 hne
          have HH : Hid (Half wr.heap.size w3 (.slice (some ⟨g3, 0, none⟩) q.length cap3) q 0) := ⟨q, rfl, ho3, fun _ _ => rfl⟩
          have HK4 : Hid (g3 ∉ [g, gl] ∧ g3 ∉ [g2, gl2] ∧ g3 ∉ blk vw) := by
            refine ⟨fun hx => ?_, fun hx => ?_, fun hx => ?_⟩
            · have := (hs.out.r1.lt _ hx).2; omega
            · have := (hs.out.r2.lt _ hx).2; omega
            · have := (hs.out.own.ge _ hx).2; omega
          have hq30 : q.length ≤ 30 := hs.out.r1.le.1
          have hszw : w.heap.size ≤ g3 := by omega
          clear ho3 hu3 hs hu hm3 hc3
          go_wp2_with fail
          go_loopw [10] (fun i wz => ∃ k : Nat, k ≤ q.length ∧ i = .int .i64 k ∧ Hid (Half wr.heap.size wz (.slice (some ⟨g3, 0, none⟩) q.length cap3) q k) ∧ Hid (Kept w.heap.size wz g gl g2 gl2 vw q) ∧ Hid (Upd [] w wz)) (fun i _ => q.length - (intOf i).toNat)
          case atStart => exact ⟨0, Nat.zero_le _, rfl, HH, HK3, HU3⟩
          case round =>
            obtain ⟨k, hk, rfl, hh, hkp, hu⟩ := hrel
            clear HH HK3 HU3
            by_cases hlt : k < q.length
            · have c0 : wr.cell? ⟨g3, k, none⟩ = some (iv (nth q k)) := by
                obtain ⟨m, h1, h2, h3⟩ := hh.out
                rw [← h3 k (Nat.le_refl _)]; exact h2.cell k (by omega)
              have f0 : wr.frozen? ⟨g3, k, none⟩ = false := by
                obtain ⟨m, h1, h2, h3⟩ := hh.out
                exact h2.frozen k
              obtain ⟨x1, x2⟩ := HQI.out k hlt
              generalize nth q k = x at *
              have q1 : (k : Int) < q.length := by omega
              go_wp2_with fail
              go_roundw
              case rel => exact ⟨k + 1, by omega, by go_num, hh.out.set_ hlt (-1 - x), hkp.out.upd (S := [g3]) ((Upd.refl [g3] _).setCell ⟨g3, k, none⟩ _ (.inl (by simp))) (fun y hy => .inr (by simp at hy; subst hy; exact ⟨rfl, HK4.out⟩)), hu.out.setCell ⟨g3, k, none⟩ _ (.inr hszw)⟩
              case measure => simp [intOf]; omega
            · obtain rfl : k = q.length := by omega
              have HK3 := hkp
              have HU3 := hu
              clear hkp hu hh
              go_wp2_with fail
              refine (rqDropInt_any _ 3 (qN q 3) _ (i64_small _ (by omega) (by omega)) HK3.out.r2 rfl rfl).mono ?_
              rintro e w5 ⟨rfl, hs5, hu5⟩
              have HU5 := Lib.hid (RQInt.next HU3.out HK3.out.r2 hu5)
              have HR5 := Lib.hid (HK3.out.r1.upd hu5 HK3.out.a12)
              have HO5 := Lib.hid (HK3.out.own.upd hu5 HK3.out.a2v)
              clear hs5 hu5
              go_wp2_with fail
              refine (rqListInt_any _ HR5.out).mono ?_
              rintro e w6 ⟨v6, rfl, ho6, hu6⟩
              have HO6 := Lib.hid ho6
              have HW6 := Lib.hid (HO5.out.upd hu6 (by simp))
              have HU6 := Lib.hid (HU5.out.seq hu6)
              obtain ⟨a6, k6, rfl, -⟩ := ho6.rd
              clear hu6 ho6
              go_wp2_with fail
              refine (sameInt_ok _ _ q q _ HO6.out.rd HW6.out.rd rfl).mono ?_
              rintro e w7 ⟨rfl, hu7⟩
              go_wp2_with fail
              refine (ringRuns_any _).mono ?_
              rintro e w9 ⟨rfl, hu9⟩
              go_wp2_with fail
              go_ret
              exact ⟨rfl, (HU6.out.seq hu7).seq hu9⟩
end Go.Proofs.Ytjomecimbofnfaa
