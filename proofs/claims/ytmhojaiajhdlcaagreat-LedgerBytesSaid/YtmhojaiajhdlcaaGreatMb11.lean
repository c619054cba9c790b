/- Texts of the proof, joined: No places; the law's own records. Drawn regions whose order is forced for the most part: their plain walk in the text's order, and forks where two operations may come up. -/
import Derived.Test.YtmhojaiajhdlcaaGreatMb10
import Derived.Deep.MidRow
import Derived.Deep.RegionHeld3
import Derived.RegionTactic
namespace Go.Proofs.YtmhojaiajhdlcaaGreat
open Go.RowKit
set_option linter.unusedSimpArgs false
set_option linter.unusedVariables false
theorem infoCaps : (Tryz.prog.info? 25).map (·.size) = some 10 := by kernel_rfl
def setsAt (xs : List Value) (o : Nat) : List Value → List Value
  | [] => xs
  | v :: r => setsAt (xs.set o v) (o + 1) r
theorem Blk.setCells {b : Nat} {e : TypeId} : ∀ (vs : List Value) {w : World} {xs : List Value} (o : Nat), Blk w b e xs → Blk (w.setCells b o vs) b e (setsAt xs o vs)
  | [], w, xs, o, h => h
  | v :: r, w, xs, o, h => Blk.setCells r (o + 1) (h.set_ o v)
theorem upd_setCells (b : Nat) : ∀ (vs : List Value) (w : World) (o : Nat), Upd [b] w (w.setCells b o vs)
  | [], w, o => Upd.refl _ _
  | v :: r, w, o => ((Upd.refl [b] w).setCell ⟨b, o, none⟩ v (.inl (by simp))).trans (upd_setCells b r _ (o + 1)) (fun x hx => hx) (fun x hx => .inl hx)
theorem Blk.there {w : World} {b : Nat} {e : TypeId} {xs : List Value} (h : Blk w b e xs) (o n : Nat) (hn : o + n ≤ xs.length) : w.there b o n := fun j hj => by
  rw [h.cell]
  exact ⟨by rw [List.getElem?_eq_getElem (by omega)]; rfl, h.frozen _⟩
abbrev noCaps : Value := .agg #[.int .i64 (-1), .int .i64 (-1), .int .i64 (-1), .int .i64 (-1), .int .i64 (-1), .int .i64 (-1), .int .i64 (-1), .int .i64 (-1), .int .i64 (-1), .int .i64 (-1)]
set_option maxRecDepth 20000 in
set_option maxHeartbeats 2000000 in
theorem none12_any (w : World) : Calls Tryz.prog 129 #[] w fun e w' => e = .returned noCaps ∧ Upd [] w w' := by
  have hu0 : Upd [] w (w.alloc (.cells #[.int .i64 0, .int .i64 0, .int .i64 0, .int .i64 0, .int .i64 0, .int .i64 0, .int .i64 0, .int .i64 0, .int .i64 0, .int .i64 0] 25)) := (Upd.refl [] w).alloc _
  have hu1 : Upd [] w ((w.alloc (.cells #[.int .i64 0, .int .i64 0, .int .i64 0, .int .i64 0, .int .i64 0, .int .i64 0, .int .i64 0, .int .i64 0, .int .i64 0, .int .i64 0] 25)).alloc (.cells #[.int .i64 0, .int .i64 0, .int .i64 0, .int .i64 0, .int .i64 0, .int .i64 0, .int .i64 0, .int .i64 0, .int .i64 0, .int .i64 0] 25)) := hu0.alloc _
  have hb0 : Blk ((w.alloc (.cells #[.int .i64 0, .int .i64 0, .int .i64 0, .int .i64 0, .int .i64 0, .int .i64 0, .int .i64 0, .int .i64 0, .int .i64 0, .int .i64 0] 25)).alloc (.cells #[.int .i64 0, .int .i64 0, .int .i64 0, .int .i64 0, .int .i64 0, .int .i64 0, .int .i64 0, .int .i64 0, .int .i64 0, .int .i64 0] 25)) w.heap.size 25 [.int .i64 0, .int .i64 0, .int .i64 0, .int .i64 0, .int .i64 0, .int .i64 0, .int .i64 0, .int .i64 0, .int .i64 0, .int .i64 0] := (Blk.new w 25 [.int .i64 0, .int .i64 0, .int .i64 0, .int .i64 0, .int .i64 0, .int .i64 0, .int .i64 0, .int .i64 0, .int .i64 0, .int .i64 0]).upd ((Upd.refl [] _).alloc _) (by simp)
  have hb1 : Blk ((w.alloc (.cells #[.int .i64 0, .int .i64 0, .int .i64 0, .int .i64 0, .int .i64 0, .int .i64 0, .int .i64 0, .int .i64 0, .int .i64 0, .int .i64 0] 25)).alloc (.cells #[.int .i64 0, .int .i64 0, .int .i64 0, .int .i64 0, .int .i64 0, .int .i64 0, .int .i64 0, .int .i64 0, .int .i64 0, .int .i64 0] 25)) (w.heap.size + 1) 25 [.int .i64 0, .int .i64 0, .int .i64 0, .int .i64 0, .int .i64 0, .int .i64 0, .int .i64 0, .int .i64 0, .int .i64 0, .int .i64 0] := by
    have := Blk.new (w.alloc (.cells #[.int .i64 0, .int .i64 0, .int .i64 0, .int .i64 0, .int .i64 0, .int .i64 0, .int .i64 0, .int .i64 0, .int .i64 0, .int .i64 0] 25)) 25 [.int .i64 0, .int .i64 0, .int .i64 0, .int .i64 0, .int .i64 0, .int .i64 0, .int .i64 0, .int .i64 0, .int .i64 0, .int .i64 0]
    rwa [show (w.alloc (.cells #[.int .i64 0, .int .i64 0, .int .i64 0, .int .i64 0, .int .i64 0, .int .i64 0, .int .i64 0, .int .i64 0, .int .i64 0, .int .i64 0] 25)).heap.size = w.heap.size + 1 by simp] at this
  have HU1 := Lib.hid hu1
  have HB0 := Lib.hid hb0
  have HB1 := Lib.hid hb1
  clear hu0 hu1 hb0 hb1
  go_enter Tryz.func129, Tryz.ntmps129
  go_wp2_with fail
  generalize (w.alloc (.cells #[.int .i64 0, .int .i64 0, .int .i64 0, .int .i64 0, .int .i64 0, .int .i64 0, .int .i64 0, .int .i64 0, .int .i64 0, .int .i64 0] 25)).alloc (.cells #[.int .i64 0, .int .i64 0, .int .i64 0, .int .i64 0, .int .i64 0, .int .i64 0, .int .i64 0, .int .i64 0, .int .i64 0, .int .i64 0] 25) = w1 at *
  obtain ⟨g1, hg1⟩ : ∃ g, w.heap.size + 1 = g := ⟨_, rfl⟩
  have HG1 := Lib.hid hg1
  rw [hg1] at HB1
  simp only [hg1]
  clear hg1
  go_loopw [2] (fun i wr => ∃ k : Nat, k ≤ 10 ∧ i = .int .i64 k ∧ Hid (Blk wr g1 25 (List.replicate k (.int .i64 (-1)) ++ List.replicate (10 - k) (.int .i64 0))) ∧ Hid (Blk wr w.heap.size 25 [.int .i64 0, .int .i64 0, .int .i64 0, .int .i64 0, .int .i64 0, .int .i64 0, .int .i64 0, .int .i64 0, .int .i64 0, .int .i64 0]) ∧ Hid (Upd [] w wr)) (fun i _ => 10 - (intOf i).toNat)
  case atStart => exact ⟨0, Nat.zero_le _, rfl, HB1.out, HB0.out, HU1.out⟩
  case round =>
    obtain ⟨k, hk, rfl, hb, hr, hu⟩ := hrel
    clear HB0 HB1 HU1
    by_cases hlt : k < 10
    · have q0 : (0 : Int) ≤ k := by omega
      have q1 : (k : Int) < 10 := by omega
      have f1 := hb.out.frozen k
      obtain ⟨u1, c1⟩ : ∃ u, wr.cell? ⟨g1, k, none⟩ = some u := by
        rw [hb.out.cell]
        exact ⟨_, List.getElem?_eq_getElem (by simp; omega)⟩
      have hs := hb.out.set_ k (.int .i64 (-1))
      have hse := set_mid ([] : List Value) k (10 - k) (.int .i64 (-1)) (.int .i64 0) k (by simp) (by omega)
      simp only [List.nil_append] at hse
      rw [hse, show 10 - k - 1 = 10 - (k + 1) by omega] at hs
      have hup : Upd [g1] wr (wr.setCell ⟨g1, k, none⟩ (.int .i64 (-1))) := (Upd.refl [g1] wr).setCell _ _ (.inl (by simp))
      have HS := Lib.hid hs
      have HR := Lib.hid (hr.out.upd hup (by have := HG1.out; simp; omega))
      have HU := Lib.hid (hu.out.trans (T := []) hup (by simp) (fun x hx => .inr (by have := HG1.out; simp at hx; omega)))
      clear hs hse hup hb hr hu
      go_wp2_with fail
      go_roundw
      case rel => exact ⟨k + 1, by omega, by go_num, HS.out, HR.out, HU.out⟩
      case measure => simp [intOf]; omega
    · obtain rfl : k = 10 := by omega
      have hb : Blk wr g1 25 [.int .i64 (-1), .int .i64 (-1), .int .i64 (-1), .int .i64 (-1), .int .i64 (-1), .int .i64 (-1), .int .i64 (-1), .int .i64 (-1), .int .i64 (-1), .int .i64 (-1)] := hb.out
      have HR := Lib.hid hr.out
      have e0 := hb.cell 0
      have e1 := hb.cell 1
      have e2 := hb.cell 2
      have e3 := hb.cell 3
      have e4 := hb.cell 4
      have e5 := hb.cell 5
      have e6 := hb.cell 6
      have e7 := hb.cell 7
      have e8 := hb.cell 8
      have e9 := hb.cell 9
      simp only [List.getElem?_cons_zero, List.getElem?_cons_succ] at e0 e1 e2 e3 e4 e5 e6 e7 e8 e9
      clear hb hr
      go_wp2_with (first | ((refine wpList_store_row rfl 25 (.tmp 0) (.tmp 9) rfl w.heap.size #[.int .i64 (-1), .int .i64 (-1), .int .i64 (-1), .int .i64 (-1), .int .i64 (-1), .int .i64 (-1), .int .i64 (-1), .int .i64 (-1), .int .i64 (-1), .int .i64 (-1)] rfl rfl 25 #[.int .i64 0, .int .i64 0, .int .i64 0, .int .i64 0, .int .i64 0, .int .i64 0, .int .i64 0, .int .i64 0, .int .i64 0, .int .i64 0] HR.out (by show _ = some 10; exact infoCaps) rfl (by simp [Value.oneCell']) ?_)) | fail)
      have hU := hu.out.trans (T := []) (upd_row _ w.heap.size #[.int .i64 (-1), .int .i64 (-1), .int .i64 (-1), .int .i64 (-1), .int .i64 (-1), .int .i64 (-1), .int .i64 (-1), .int .i64 (-1), .int .i64 (-1), .int .i64 (-1)]) (by simp) (fun y hy => .inr (by simp at hy; omega))
      have HB := Lib.hid (blk_row HR.out [.int .i64 (-1), .int .i64 (-1), .int .i64 (-1), .int .i64 (-1), .int .i64 (-1), .int .i64 (-1), .int .i64 (-1), .int .i64 (-1), .int .i64 (-1), .int .i64 (-1)])
      have f0 := HB.out.cell 0
      have f1 := HB.out.cell 1
      have f2 := HB.out.cell 2
      have f3 := HB.out.cell 3
      have f4 := HB.out.cell 4
      have f5 := HB.out.cell 5
      have f6 := HB.out.cell 6
      have f7 := HB.out.cell 7
      have f8 := HB.out.cell 8
      have f9 := HB.out.cell 9
      simp only [List.getElem?_cons_zero, List.getElem?_cons_succ] at f0 f1 f2 f3 f4 f5 f6 f7 f8 f9
      clear HB HR hu e0 e1 e2 e3 e4 e5 e6 e7 e8 e9
      generalize World.setRow _ _ _ = W at *
      exact bodyPost_ret (v := noCaps) (by simp [results, Tryz.results129, go_sem, f0, f1, f2, f3, f4, f5, f6, f7, f8, f9]; try rfl) rfl ⟨rfl, hU⟩
set_option maxRecDepth 20000 in
set_option maxHeartbeats 2000000 in
theorem none24_any (w : World) : Calls Tryz.prog 104 #[] w fun e w' => e = .returned noCaps ∧ Upd [] w w' := by
  have hu0 : Upd [] w (w.alloc (.cells #[.int .i64 0, .int .i64 0, .int .i64 0, .int .i64 0, .int .i64 0, .int .i64 0, .int .i64 0, .int .i64 0, .int .i64 0, .int .i64 0] 25)) := (Upd.refl [] w).alloc _
  have HU0 := Lib.hid hu0
  have HB0 := Lib.hid (Blk.new w 25 [.int .i64 0, .int .i64 0, .int .i64 0, .int .i64 0, .int .i64 0, .int .i64 0, .int .i64 0, .int .i64 0, .int .i64 0, .int .i64 0])
  clear hu0
  go_enter Tryz.func104, Tryz.ntmps104
  go_wp2_with fail
  (with_reducible refine (none12_any _).mono ?_)
  rintro e w1 ⟨rfl, hu1⟩
  have HR := Lib.hid (HB0.out.upd hu1 (by simp))
  have hu := Lib.hid (HU0.out.seq hu1)
  clear hu1
  go_wp2_with (first | ((refine wpList_store_row rfl 25 (.tmp 0) (.tmp 1) rfl w.heap.size #[.int .i64 (-1), .int .i64 (-1), .int .i64 (-1), .int .i64 (-1), .int .i64 (-1), .int .i64 (-1), .int .i64 (-1), .int .i64 (-1), .int .i64 (-1), .int .i64 (-1)] rfl rfl 25 #[.int .i64 0, .int .i64 0, .int .i64 0, .int .i64 0, .int .i64 0, .int .i64 0, .int .i64 0, .int .i64 0, .int .i64 0, .int .i64 0] HR.out (by show _ = some 10; exact infoCaps) rfl (by simp [Value.oneCell']) ?_)) | fail)
  have hU := hu.out.trans (T := []) (upd_row _ w.heap.size #[.int .i64 (-1), .int .i64 (-1), .int .i64 (-1), .int .i64 (-1), .int .i64 (-1), .int .i64 (-1), .int .i64 (-1), .int .i64 (-1), .int .i64 (-1), .int .i64 (-1)]) (by simp) (fun y hy => .inr (by simp at hy; omega))
  have HB := Lib.hid (blk_row HR.out [.int .i64 (-1), .int .i64 (-1), .int .i64 (-1), .int .i64 (-1), .int .i64 (-1), .int .i64 (-1), .int .i64 (-1), .int .i64 (-1), .int .i64 (-1), .int .i64 (-1)])
  have f0 := HB.out.cell 0
  have f1 := HB.out.cell 1
  have f2 := HB.out.cell 2
  have f3 := HB.out.cell 3
  have f4 := HB.out.cell 4
  have f5 := HB.out.cell 5
  have f6 := HB.out.cell 6
  have f7 := HB.out.cell 7
  have f8 := HB.out.cell 8
  have f9 := HB.out.cell 9
  simp only [List.getElem?_cons_zero, List.getElem?_cons_succ] at f0 f1 f2 f3 f4 f5 f6 f7 f8 f9
  clear HB HR hu
  generalize World.setRow _ _ _ = W at *
  exact bodyPost_ret (v := noCaps) (by simp [results, Tryz.results104, go_sem, f0, f1, f2, f3, f4, f5, f6, f7, f8, f9]; try rfl) rfl ⟨rfl, hU⟩
set_option maxRecDepth 20000 in
set_option maxHeartbeats 4000000 in
theorem recA_any (w : World) : Calls Tryz.prog 60 #[.int .i64 1, .int .i64 5, .string ⟨#[97]⟩] w fun e w' => e = .returned (.agg #[.int .i64 1, .int .i64 1, .int .i64 5, .string ⟨#[97]⟩, .int .i64 1, .int .i64 (-1), .int .i64 (-1), .int .i64 (-1), .int .i64 (-1), .int .i64 (-1), .int .i64 (-1), .int .i64 (-1), .int .i64 (-1), .int .i64 (-1), .int .i64 (-1)]) ∧ Upd [] w w' := by
  have hu0 : Upd [] w (w.alloc (.cells #[.int .i64 0, .int .i64 0, .int .i64 0, .string ⟨#[]⟩, .int .i64 0, .int .i64 0, .int .i64 0, .int .i64 0, .int .i64 0, .int .i64 0, .int .i64 0, .int .i64 0, .int .i64 0, .int .i64 0, .int .i64 0] 27)) := (Upd.refl [] w).alloc _
  have hu1 : Upd [] w ((w.alloc (.cells #[.int .i64 0, .int .i64 0, .int .i64 0, .string ⟨#[]⟩, .int .i64 0, .int .i64 0, .int .i64 0, .int .i64 0, .int .i64 0, .int .i64 0, .int .i64 0, .int .i64 0, .int .i64 0, .int .i64 0, .int .i64 0] 27)).alloc (.cells #[.int .i64 1, .int .i64 1, .int .i64 5, .string ⟨#[97]⟩, .int .i64 1, .int .i64 0, .int .i64 0, .int .i64 0, .int .i64 0, .int .i64 0, .int .i64 0, .int .i64 0, .int .i64 0, .int .i64 0, .int .i64 0] 27)) := hu0.alloc _
  have hb0 : Blk ((w.alloc (.cells #[.int .i64 0, .int .i64 0, .int .i64 0, .string ⟨#[]⟩, .int .i64 0, .int .i64 0, .int .i64 0, .int .i64 0, .int .i64 0, .int .i64 0, .int .i64 0, .int .i64 0, .int .i64 0, .int .i64 0, .int .i64 0] 27)).alloc (.cells #[.int .i64 1, .int .i64 1, .int .i64 5, .string ⟨#[97]⟩, .int .i64 1, .int .i64 0, .int .i64 0, .int .i64 0, .int .i64 0, .int .i64 0, .int .i64 0, .int .i64 0, .int .i64 0, .int .i64 0, .int .i64 0] 27)) w.heap.size 27 [.int .i64 0, .int .i64 0, .int .i64 0, .string ⟨#[]⟩, .int .i64 0, .int .i64 0, .int .i64 0, .int .i64 0, .int .i64 0, .int .i64 0, .int .i64 0, .int .i64 0, .int .i64 0, .int .i64 0, .int .i64 0] := (Blk.new w 27 [.int .i64 0, .int .i64 0, .int .i64 0, .string ⟨#[]⟩, .int .i64 0, .int .i64 0, .int .i64 0, .int .i64 0, .int .i64 0, .int .i64 0, .int .i64 0, .int .i64 0, .int .i64 0, .int .i64 0, .int .i64 0]).upd ((Upd.refl [] _).alloc _) (by simp)
  have hb1 : Blk ((w.alloc (.cells #[.int .i64 0, .int .i64 0, .int .i64 0, .string ⟨#[]⟩, .int .i64 0, .int .i64 0, .int .i64 0, .int .i64 0, .int .i64 0, .int .i64 0, .int .i64 0, .int .i64 0, .int .i64 0, .int .i64 0, .int .i64 0] 27)).alloc (.cells #[.int .i64 1, .int .i64 1, .int .i64 5, .string ⟨#[97]⟩, .int .i64 1, .int .i64 0, .int .i64 0, .int .i64 0, .int .i64 0, .int .i64 0, .int .i64 0, .int .i64 0, .int .i64 0, .int .i64 0, .int .i64 0] 27)) (w.heap.size + 1) 27 [.int .i64 1, .int .i64 1, .int .i64 5, .string ⟨#[97]⟩, .int .i64 1, .int .i64 0, .int .i64 0, .int .i64 0, .int .i64 0, .int .i64 0, .int .i64 0, .int .i64 0, .int .i64 0, .int .i64 0, .int .i64 0] := by
    have := Blk.new (w.alloc (.cells #[.int .i64 0, .int .i64 0, .int .i64 0, .string ⟨#[]⟩, .int .i64 0, .int .i64 0, .int .i64 0, .int .i64 0, .int .i64 0, .int .i64 0, .int .i64 0, .int .i64 0, .int .i64 0, .int .i64 0, .int .i64 0] 27)) 27 [.int .i64 1, .int .i64 1, .int .i64 5, .string ⟨#[97]⟩, .int .i64 1, .int .i64 0, .int .i64 0, .int .i64 0, .int .i64 0, .int .i64 0, .int .i64 0, .int .i64 0, .int .i64 0, .int .i64 0, .int .i64 0]
    rwa [show (w.alloc (.cells #[.int .i64 0, .int .i64 0, .int .i64 0, .string ⟨#[]⟩, .int .i64 0, .int .i64 0, .int .i64 0, .int .i64 0, .int .i64 0, .int .i64 0, .int .i64 0, .int .i64 0, .int .i64 0, .int .i64 0, .int .i64 0] 27)).heap.size = w.heap.size + 1 by simp] at this
  have HU1 := Lib.hid hu1
  have HB0 := Lib.hid hb0
  have HB1 := Lib.hid hb1
  clear hu0 hu1 hb0 hb1
  go_enter Tryz.func60, Tryz.ntmps60
  go_wp2_with fail
  generalize (w.alloc (.cells #[.int .i64 0, .int .i64 0, .int .i64 0, .string ⟨#[]⟩, .int .i64 0, .int .i64 0, .int .i64 0, .int .i64 0, .int .i64 0, .int .i64 0, .int .i64 0, .int .i64 0, .int .i64 0, .int .i64 0, .int .i64 0] 27)).alloc (.cells #[.int .i64 1, .int .i64 1, .int .i64 5, .string ⟨#[97]⟩, .int .i64 1, .int .i64 0, .int .i64 0, .int .i64 0, .int .i64 0, .int .i64 0, .int .i64 0, .int .i64 0, .int .i64 0, .int .i64 0, .int .i64 0] 27) = w1 at *
  (with_reducible refine (none24_any _).mono ?_)
  rintro e w2 ⟨rfl, hu2⟩
  have HBX := Lib.hid (HB1.out.upd hu2 (by simp))
  have HBY := Lib.hid (HB0.out.upd hu2 (by simp))
  have HU2 := Lib.hid (HU1.out.seq hu2)
  have hth := HBX.out.there 5 10 (by simp)
  clear hu2 HB0 HB1
  obtain ⟨W3, hW3⟩ : ∃ W, w2.setCells (w.heap.size + 1) 5 [.int .i64 (-1), .int .i64 (-1), .int .i64 (-1), .int .i64 (-1), .int .i64 (-1), .int .i64 (-1), .int .i64 (-1), .int .i64 (-1), .int .i64 (-1), .int .i64 (-1)] = W := ⟨_, rfl⟩
  have hb3 : Blk W3 (w.heap.size + 1) 27 [.int .i64 1, .int .i64 1, .int .i64 5, .string ⟨#[97]⟩, .int .i64 1, .int .i64 (-1), .int .i64 (-1), .int .i64 (-1), .int .i64 (-1), .int .i64 (-1), .int .i64 (-1), .int .i64 (-1), .int .i64 (-1), .int .i64 (-1), .int .i64 (-1)] := by
    rw [← hW3]
    exact HBX.out.setCells [.int .i64 (-1), .int .i64 (-1), .int .i64 (-1), .int .i64 (-1), .int .i64 (-1), .int .i64 (-1), .int .i64 (-1), .int .i64 (-1), .int .i64 (-1), .int .i64 (-1)] 5
  have hu3 : Upd [w.heap.size + 1] w2 W3 := by
    rw [← hW3]
    exact upd_setCells (w.heap.size + 1) [.int .i64 (-1), .int .i64 (-1), .int .i64 (-1), .int .i64 (-1), .int .i64 (-1), .int .i64 (-1), .int .i64 (-1), .int .i64 (-1), .int .i64 (-1), .int .i64 (-1)] w2 5
  have HR := Lib.hid (HBY.out.upd hu3 (by simp))
  have hu := Lib.hid (HU2.out.trans (T := []) hu3 (by simp) (fun y hy => .inr (by simp at hy; omega)))
  have HW3 := Lib.hid hW3
  clear hu3 HBX HBY HU2 hW3
  have g0 := hb3.cell 0
  have g1 := hb3.cell 1
  have g2 := hb3.cell 2
  have g3 := hb3.cell 3
  have g4 := hb3.cell 4
  have g5 := hb3.cell 5
  have g6 := hb3.cell 6
  have g7 := hb3.cell 7
  have g8 := hb3.cell 8
  have g9 := hb3.cell 9
  have g10 := hb3.cell 10
  have g11 := hb3.cell 11
  have g12 := hb3.cell 12
  have g13 := hb3.cell 13
  have g14 := hb3.cell 14
  simp only [List.getElem?_cons_zero, List.getElem?_cons_succ] at g0 g1 g2 g3 g4 g5 g6 g7 g8 g9 g10 g11 g12 g13 g14
  clear hb3
  go_wp2_with (first | ((refine wpList_store_mid rfl 25 (.tmp 16) (.tmp 15) rfl (w.heap.size + 1) 5 #[.int .i64 (-1), .int .i64 (-1), .int .i64 (-1), .int .i64 (-1), .int .i64 (-1), .int .i64 (-1), .int .i64 (-1), .int .i64 (-1), .int .i64 (-1), .int .i64 (-1)] rfl rfl hth (by show _ = some 10; exact infoCaps) (by simp [Value.oneCell']) ?_); rw [show World.setCells w2 (w.heap.size + 1) 5 (#[.int .i64 (-1), .int .i64 (-1), .int .i64 (-1), .int .i64 (-1), .int .i64 (-1), .int .i64 (-1), .int .i64 (-1), .int .i64 (-1), .int .i64 (-1), .int .i64 (-1)] : Array Value).toList = W3 from HW3.out]; clear hth) | ((refine wpList_store_row rfl 27 (.tmp 6) (.tmp 17) rfl w.heap.size #[.int .i64 1, .int .i64 1, .int .i64 5, .string ⟨#[97]⟩, .int .i64 1, .int .i64 (-1), .int .i64 (-1), .int .i64 (-1), .int .i64 (-1), .int .i64 (-1), .int .i64 (-1), .int .i64 (-1), .int .i64 (-1), .int .i64 (-1), .int .i64 (-1)] rfl rfl 27 #[.int .i64 0, .int .i64 0, .int .i64 0, .string ⟨#[]⟩, .int .i64 0, .int .i64 0, .int .i64 0, .int .i64 0, .int .i64 0, .int .i64 0, .int .i64 0, .int .i64 0, .int .i64 0, .int .i64 0, .int .i64 0] HR.out (by show _ = some 15; exact infoRec) rfl (by simp [Value.oneCell']) ?_)) | fail)
  have hU := hu.out.trans (T := []) (upd_row _ w.heap.size #[.int .i64 1, .int .i64 1, .int .i64 5, .string ⟨#[97]⟩, .int .i64 1, .int .i64 (-1), .int .i64 (-1), .int .i64 (-1), .int .i64 (-1), .int .i64 (-1), .int .i64 (-1), .int .i64 (-1), .int .i64 (-1), .int .i64 (-1), .int .i64 (-1)]) (by simp) (fun y hy => .inr (by simp at hy; omega))
  have HB := Lib.hid (blk_row HR.out [.int .i64 1, .int .i64 1, .int .i64 5, .string ⟨#[97]⟩, .int .i64 1, .int .i64 (-1), .int .i64 (-1), .int .i64 (-1), .int .i64 (-1), .int .i64 (-1), .int .i64 (-1), .int .i64 (-1), .int .i64 (-1), .int .i64 (-1), .int .i64 (-1)])
  have f0 := HB.out.cell 0
  have f1 := HB.out.cell 1
  have f2 := HB.out.cell 2
  have f3 := HB.out.cell 3
  have f4 := HB.out.cell 4
  have f5 := HB.out.cell 5
  have f6 := HB.out.cell 6
  have f7 := HB.out.cell 7
  have f8 := HB.out.cell 8
  have f9 := HB.out.cell 9
  have f10 := HB.out.cell 10
  have f11 := HB.out.cell 11
  have f12 := HB.out.cell 12
  have f13 := HB.out.cell 13
  have f14 := HB.out.cell 14
  simp only [List.getElem?_cons_zero, List.getElem?_cons_succ] at f0 f1 f2 f3 f4 f5 f6 f7 f8 f9 f10 f11 f12 f13 f14
  clear HB HR hu
  generalize World.setRow _ _ _ = W at *
  exact bodyPost_ret (v := .agg #[.int .i64 1, .int .i64 1, .int .i64 5, .string ⟨#[97]⟩, .int .i64 1, .int .i64 (-1), .int .i64 (-1), .int .i64 (-1), .int .i64 (-1), .int .i64 (-1), .int .i64 (-1), .int .i64 (-1), .int .i64 (-1), .int .i64 (-1), .int .i64 (-1)]) (by simp [results, Tryz.results60, go_sem, f0, f1, f2, f3, f4, f5, f6, f7, f8, f9, f10, f11, f12, f13, f14]; try rfl) rfl ⟨rfl, hU⟩
set_option maxRecDepth 20000 in
set_option maxHeartbeats 4000000 in
theorem recB_any (w : World) : Calls Tryz.prog 60 #[.int .i64 2, .int .i64 5, .string ⟨#[]⟩] w fun e w' => e = .returned (.agg #[.int .i64 1, .int .i64 1, .int .i64 5, .string ⟨#[]⟩, .int .i64 2, .int .i64 0, .int .i64 0, .int .i64 0, .int .i64 0, .int .i64 0, .int .i64 0, .int .i64 0, .int .i64 0, .int .i64 0, .int .i64 0]) ∧ Upd [] w w' := by
  have hu0 : Upd [] w (w.alloc (.cells #[.int .i64 0, .int .i64 0, .int .i64 0, .string ⟨#[]⟩, .int .i64 0, .int .i64 0, .int .i64 0, .int .i64 0, .int .i64 0, .int .i64 0, .int .i64 0, .int .i64 0, .int .i64 0, .int .i64 0, .int .i64 0] 27)) := (Upd.refl [] w).alloc _
  have hu1 : Upd [] w ((w.alloc (.cells #[.int .i64 0, .int .i64 0, .int .i64 0, .string ⟨#[]⟩, .int .i64 0, .int .i64 0, .int .i64 0, .int .i64 0, .int .i64 0, .int .i64 0, .int .i64 0, .int .i64 0, .int .i64 0, .int .i64 0, .int .i64 0] 27)).alloc (.cells #[.int .i64 1, .int .i64 1, .int .i64 5, .string ⟨#[]⟩, .int .i64 2, .int .i64 0, .int .i64 0, .int .i64 0, .int .i64 0, .int .i64 0, .int .i64 0, .int .i64 0, .int .i64 0, .int .i64 0, .int .i64 0] 27)) := hu0.alloc _
  have hb0 : Blk ((w.alloc (.cells #[.int .i64 0, .int .i64 0, .int .i64 0, .string ⟨#[]⟩, .int .i64 0, .int .i64 0, .int .i64 0, .int .i64 0, .int .i64 0, .int .i64 0, .int .i64 0, .int .i64 0, .int .i64 0, .int .i64 0, .int .i64 0] 27)).alloc (.cells #[.int .i64 1, .int .i64 1, .int .i64 5, .string ⟨#[]⟩, .int .i64 2, .int .i64 0, .int .i64 0, .int .i64 0, .int .i64 0, .int .i64 0, .int .i64 0, .int .i64 0, .int .i64 0, .int .i64 0, .int .i64 0] 27)) w.heap.size 27 [.int .i64 0, .int .i64 0, .int .i64 0, .string ⟨#[]⟩, .int .i64 0, .int .i64 0, .int .i64 0, .int .i64 0, .int .i64 0, .int .i64 0, .int .i64 0, .int .i64 0, .int .i64 0, .int .i64 0, .int .i64 0] := (Blk.new w 27 [.int .i64 0, .int .i64 0, .int .i64 0, .string ⟨#[]⟩, .int .i64 0, .int .i64 0, .int .i64 0, .int .i64 0, .int .i64 0, .int .i64 0, .int .i64 0, .int .i64 0, .int .i64 0, .int .i64 0, .int .i64 0]).upd ((Upd.refl [] _).alloc _) (by simp)
  have hb1 : Blk ((w.alloc (.cells #[.int .i64 0, .int .i64 0, .int .i64 0, .string ⟨#[]⟩, .int .i64 0, .int .i64 0, .int .i64 0, .int .i64 0, .int .i64 0, .int .i64 0, .int .i64 0, .int .i64 0, .int .i64 0, .int .i64 0, .int .i64 0] 27)).alloc (.cells #[.int .i64 1, .int .i64 1, .int .i64 5, .string ⟨#[]⟩, .int .i64 2, .int .i64 0, .int .i64 0, .int .i64 0, .int .i64 0, .int .i64 0, .int .i64 0, .int .i64 0, .int .i64 0, .int .i64 0, .int .i64 0] 27)) (w.heap.size + 1) 27 [.int .i64 1, .int .i64 1, .int .i64 5, .string ⟨#[]⟩, .int .i64 2, .int .i64 0, .int .i64 0, .int .i64 0, .int .i64 0, .int .i64 0, .int .i64 0, .int .i64 0, .int .i64 0, .int .i64 0, .int .i64 0] := by
    have := Blk.new (w.alloc (.cells #[.int .i64 0, .int .i64 0, .int .i64 0, .string ⟨#[]⟩, .int .i64 0, .int .i64 0, .int .i64 0, .int .i64 0, .int .i64 0, .int .i64 0, .int .i64 0, .int .i64 0, .int .i64 0, .int .i64 0, .int .i64 0] 27)) 27 [.int .i64 1, .int .i64 1, .int .i64 5, .string ⟨#[]⟩, .int .i64 2, .int .i64 0, .int .i64 0, .int .i64 0, .int .i64 0, .int .i64 0, .int .i64 0, .int .i64 0, .int .i64 0, .int .i64 0, .int .i64 0]
    rwa [show (w.alloc (.cells #[.int .i64 0, .int .i64 0, .int .i64 0, .string ⟨#[]⟩, .int .i64 0, .int .i64 0, .int .i64 0, .int .i64 0, .int .i64 0, .int .i64 0, .int .i64 0, .int .i64 0, .int .i64 0, .int .i64 0, .int .i64 0] 27)).heap.size = w.heap.size + 1 by simp] at this
  have HU1 := Lib.hid hu1
  have HB0 := Lib.hid hb0
  have HB1 := Lib.hid hb1
  clear hu0 hu1 hb0 hb1
  go_enter Tryz.func60, Tryz.ntmps60
  have hu := HU1
  have HR := HB0
  have hb3 := HB1.out
  have g0 := hb3.cell 0
  have g1 := hb3.cell 1
  have g2 := hb3.cell 2
  have g3 := hb3.cell 3
  have g4 := hb3.cell 4
  have g5 := hb3.cell 5
  have g6 := hb3.cell 6
  have g7 := hb3.cell 7
  have g8 := hb3.cell 8
  have g9 := hb3.cell 9
  have g10 := hb3.cell 10
  have g11 := hb3.cell 11
  have g12 := hb3.cell 12
  have g13 := hb3.cell 13
  have g14 := hb3.cell 14
  simp only [List.getElem?_cons_zero, List.getElem?_cons_succ] at g0 g1 g2 g3 g4 g5 g6 g7 g8 g9 g10 g11 g12 g13 g14
  go_wp2_with (first | ((refine wpList_store_row rfl 27 (.tmp 6) (.tmp 17) rfl w.heap.size #[.int .i64 1, .int .i64 1, .int .i64 5, .string ⟨#[]⟩, .int .i64 2, .int .i64 0, .int .i64 0, .int .i64 0, .int .i64 0, .int .i64 0, .int .i64 0, .int .i64 0, .int .i64 0, .int .i64 0, .int .i64 0] rfl rfl 27 #[.int .i64 0, .int .i64 0, .int .i64 0, .string ⟨#[]⟩, .int .i64 0, .int .i64 0, .int .i64 0, .int .i64 0, .int .i64 0, .int .i64 0, .int .i64 0, .int .i64 0, .int .i64 0, .int .i64 0, .int .i64 0] HR.out (by show _ = some 15; exact infoRec) rfl (by simp [Value.oneCell']) ?_)) | fail)
  have hU := hu.out.trans (T := []) (upd_row _ w.heap.size #[.int .i64 1, .int .i64 1, .int .i64 5, .string ⟨#[]⟩, .int .i64 2, .int .i64 0, .int .i64 0, .int .i64 0, .int .i64 0, .int .i64 0, .int .i64 0, .int .i64 0, .int .i64 0, .int .i64 0, .int .i64 0]) (by simp) (fun y hy => .inr (by simp at hy; omega))
  have HB := Lib.hid (blk_row HR.out [.int .i64 1, .int .i64 1, .int .i64 5, .string ⟨#[]⟩, .int .i64 2, .int .i64 0, .int .i64 0, .int .i64 0, .int .i64 0, .int .i64 0, .int .i64 0, .int .i64 0, .int .i64 0, .int .i64 0, .int .i64 0])
  have f0 := HB.out.cell 0
  have f1 := HB.out.cell 1
  have f2 := HB.out.cell 2
  have f3 := HB.out.cell 3
  have f4 := HB.out.cell 4
  have f5 := HB.out.cell 5
  have f6 := HB.out.cell 6
  have f7 := HB.out.cell 7
  have f8 := HB.out.cell 8
  have f9 := HB.out.cell 9
  have f10 := HB.out.cell 10
  have f11 := HB.out.cell 11
  have f12 := HB.out.cell 12
  have f13 := HB.out.cell 13
  have f14 := HB.out.cell 14
  simp only [List.getElem?_cons_zero, List.getElem?_cons_succ] at f0 f1 f2 f3 f4 f5 f6 f7 f8 f9 f10 f11 f12 f13 f14
  clear HB HR hu
  generalize World.setRow _ _ _ = W at *
  exact bodyPost_ret (v := .agg #[.int .i64 1, .int .i64 1, .int .i64 5, .string ⟨#[]⟩, .int .i64 2, .int .i64 0, .int .i64 0, .int .i64 0, .int .i64 0, .int .i64 0, .int .i64 0, .int .i64 0, .int .i64 0, .int .i64 0, .int .i64 0]) (by simp [results, Tryz.results60, go_sem, f0, f1, f2, f3, f4, f5, f6, f7, f8, f9, f10, f11, f12, f13, f14]; try rfl) rfl ⟨rfl, hU⟩
end Go.Proofs.YtmhojaiajhdlcaaGreat
namespace Go.Proofs.YtmhojaiajhdlcaaGreat
set_option linter.unusedSimpArgs false
set_option linter.unusedVariables false
section
variable {P : Program} {l : List Oper} {Q : Exit → Act → World → Prop} {K : Act → World → Prop} {md : Region.Mode}
/-- Q, but K at the end. -/
def QK (Q : Exit → Act → World → Prop) (K : Act → World → Prop) : Exit → Act → World → Prop
  | .normal, a, w => K a w
  | .exit i, a, w => Q (.exit i) a w
  | .goto i, a, w => Q (.goto i) a w
  | .ret, a, w => Q .ret a w
  | .panic c, a, w => Q (.panic c) a w
  | .outgrown, a, w => Q .outgrown a w
theorem QK.calm {Q : Exit → Act → World → Prop} {c : _} {a a' : Act} {w : World} (h : Q (.panic c) a' w → Q (.panic c) a w) : QK Q K (.panic c) a' w → QK Q K (.panic c) a w := h
def isMove (o : Oper) : Bool := match o.op with
  | .move _ => true
  | _ => false
/-- The first n of s are listed. -/
def tf (n s : Nat) : Array Bool := (List.replicate n true ++ List.replicate (s - n) false).toArray
def stepOk (md : Region.Mode) (ops : Array Oper) (n : Nat) : Bool :=
  Region.ready md ops (tf n ops.size) == [n] || ((Region.ready md ops (tf n ops.size)).contains n && Region.free md ops (tf n ops.size) n && (match ops[n]? with | some o => isMove o | none => false))
def natOk (md : Region.Mode) (ops : Array Oper) (n : Nat) : Nat → Bool
  | 0 => true
  | k + 1 => stepOk md ops n && natOk md ops (n + 1) k
theorem tf_set {n s : Nat} (h : n < s) : (tf n s).setIfInBounds n true = tf (n + 1) s := by
  unfold tf
  rw [List.setIfInBounds_toArray, List.set_append_right _ _ (by simp)]
  congr 1
  obtain ⟨d, hd⟩ : ∃ d, s - n = d + 1 := ⟨s - n - 1, by omega⟩
  rw [hd, List.length_replicate, Nat.sub_self, List.replicate_succ, List.set_cons_zero, show s - (n + 1) = d by omega, List.replicate_succ', List.append_assoc]
  rfl
theorem tf_zero (s : Nat) : tf 0 s = Array.replicate s false := by
  unfold tf; simp
theorem wp_QK {o : Oper} {a : Act} {w : World} {K' : Act → World → Prop} (hh : o.wp P a w K' (QK Q K)) : o.wp P a w K' Q := by
  unfold Oper.wp at *
  generalize (execOp a.eval o).run P w = r at *
  cases r with
  | ok n w' =>
    cases n <;> simp only [Oper.upon] at hh ⊢ <;>
      first
        | exact hh
        | exact Calls.mono hh (fun e w'' he => by cases e <;> exact he)
  | halt x w' => cases x <;> simp only [Oper.upon] at hh ⊢ <;> exact hh
theorem wpOp_of_list {i : Nat} {o : Oper} {ops : Array Oper} {rest : List Oper} {a : Act} {w : World} {K' : Act → World → Prop} (ho : ops[i]? = some o) (h : wpList P ops (QK Q K) (o :: rest) a w) (hK : ∀ a w, wpList P ops (QK Q K) rest a w → K' a w) : wpOp P ops Q i K' a w := by
  unfold wpOp
  rw [ho]
  unfold wpList at h
  show if Region.wanted o (yielded ops a.tmps) = true then _ else _
  split
  · rename_i hw
    rw [if_pos hw] at h
    exact h.imp (fun q => wp_QK (Oper.wp_mono hK q)) (fun q => ⟨q.1, q.2⟩)
  · rename_i hw
    rw [if_neg hw] at h
    exact hK _ _ h
theorem any_one_list {i : Nat} {o : Oper} {listed listed' : Array Bool} {fuel : Nat} {a : Act} {w : World} (hr : Region.ready md l.toArray listed = [i]) (ho : l.toArray[i]? = some o) (hl : listed.setIfInBounds i true = listed')
    (h : wpList P l.toArray (QK Q (fun a w => wpAny P md l.toArray Q fuel listed' a w)) [o] a w) : wpAny P md l.toArray Q (fuel + 1) listed a w := by
  subst hl
  refine wpAny_all hr (by simp) (fun j hj => ?_)
  obtain rfl : j = i := by simpa using hj
  exact wpOp_of_list ho h (fun a w q => q)
theorem any_two_list {i j : Nat} {oi oj : Oper} {listed li lj : Array Bool} {fuel : Nat} {a : Act} {w : World} (hr : Region.ready md l.toArray listed = [i, j]) (hoi : l.toArray[i]? = some oi) (hoj : l.toArray[j]? = some oj) (hli : listed.setIfInBounds i true = li) (hlj : listed.setIfInBounds j true = lj)
    (h1 : wpList P l.toArray (QK Q (fun a w => wpAny P md l.toArray Q fuel li a w)) [oi] a w) (h2 : wpList P l.toArray (QK Q (fun a w => wpAny P md l.toArray Q fuel lj a w)) [oj] a w) : wpAny P md l.toArray Q (fuel + 1) listed a w := by
  subst hli hlj
  refine wpAny_all hr (by simp) (fun k hk => ?_)
  rcases List.mem_cons.1 hk with rfl | hk
  · exact wpOp_of_list hoi h1 (fun a w q => q)
  · obtain rfl : k = j := by simpa using hk
    exact wpOp_of_list hoj h2 (fun a w q => q)
theorem any_seq (hs : Region.noSelect l.toArray = true) (hQ : ∀ c a d v w, Q (.panic c) (a.put d v) w → Q (.panic c) a w) {fuel : Nat} : ∀ (k n : Nat) (a : Act) (w : World), natOk md l.toArray n k = true → n + k ≤ l.length → wpList P l.toArray (QK Q K) ((l.drop n).take k) a w →
    (∀ a w, K a w → wpAny P md l.toArray Q fuel (tf (n + k) l.length) a w) → wpAny P md l.toArray Q (fuel + k) (tf n l.length) a w
  | 0, n, a, w, _, _, h, hK => by
    have h' : QK Q K .normal a w := by simpa [wpList] using h
    exact hK a w h'
  | k + 1, n, a, w, hn, hl, h, hK => by
    have hlt : n < l.length := by omega
    have ho : l.toArray[n]? = some l[n] := by simp
    have hd : (l.drop n).take (k + 1) = l[n] :: (l.drop (n + 1)).take k := by rw [List.drop_eq_getElem_cons hlt, List.take_succ_cons]
    rw [hd] at h
    unfold natOk at hn
    rw [Bool.and_eq_true] at hn
    have ih : ∀ a w, wpList P l.toArray (QK Q K) ((l.drop (n + 1)).take k) a w → wpAny P md l.toArray Q (fuel + k) (tf (n + 1) l.length) a w := fun a w q =>
      any_seq hs hQ k (n + 1) a w hn.2 (by omega) q (by rw [show n + 1 + k = n + (k + 1) by omega]; exact hK)
    have h1 := hn.1
    unfold stepOk at h1
    rw [show l.toArray.size = l.length by simp, Bool.or_eq_true, Bool.and_eq_true, Bool.and_eq_true, beq_iff_eq, ho] at h1
    show wpAny P md l.toArray Q ((fuel + k) + 1) (tf n l.length) a w
    rcases h1 with q | ⟨⟨q1, q2⟩, q3⟩
    · refine wpAny_all q (by simp) (fun j hj => ?_)
      obtain rfl : j = n := by simpa using hj
      rw [tf_set hlt]
      exact wpOp_of_list ho h ih
    · have hy : Yields P l.toArray l[n] (if Region.wanted l[n] (yielded l.toArray a.tmps) = true then (match l[n].op with | .move x => a.eval x | _ => undef) else undef) a := by
        by_cases hw : Region.wanted l[n] (yielded l.toArray a.tmps) = true
        · refine .inl ⟨hw, fun w => ?_⟩
          rw [if_pos hw]
          generalize hgo : l[n] = o at q3 ⊢
          obtain ⟨d, op, ty, pos, af, gd⟩ := o
          simp only [isMove] at q3
          cases op <;> simp at q3
          rfl
        · exact .inr ⟨by simpa using hw, by rw [if_neg hw]⟩
      refine wpAny_take ho hs q2 q1 (fun c a w => hQ c a _ _ w) hy ?_
      rw [tf_set hlt]
      refine ih _ _ ?_
      unfold wpList at h
      by_cases hw : Region.wanted l[n] (yielded l.toArray a.tmps) = true
      · rw [if_pos hw] at h
        rw [if_pos hw]
        rcases hy with ⟨_, y2⟩ | ⟨y1, _⟩
        · rw [if_pos hw] at y2
          rcases h with h | h
          · unfold Oper.wp at h
            rw [y2 w] at h
            exact h
          · have := h.1.1
            exfalso
            generalize hgo : l[n] = o at q3 this
            obtain ⟨d, op, ty, pos, af, gd⟩ := o
            simp only [isMove] at q3
            cases op <;> simp at q3
            rename_i xx
            have h0 : (Sem.runT P (execOp a.eval { dst := d, op := Op.move xx, type := ty, pos := pos, after := af, guard := gd }) w #[]).2 = #[] := rfl
            rw [h0] at this
            simp at this
        · rw [hw] at y1; cases y1
      · rw [if_neg hw] at h
        rw [if_neg hw]
        exact h
theorem QK_self (Q : Exit → Act → World → Prop) : QK Q (fun a w => Q .normal a w) = Q := by
  funext e a w
  cases e <;> rfl
variable {ops : Array Oper} {a : Act} {w : World} {s f F k n : Nat}
/-- The beginning: the first k in the text's order. -/
theorem reg_seq {id : Nat} (he : l.toArray = ops) (hl : l.length = s) (hm : P.follows .mixedOrders = true) (hs : Region.noSelect ops = true) (hQ : ∀ c a d v w, Q (.panic c) (a.put d v) w → Q (.panic c) a w) (hn : natOk .any ops 0 k = true) (hf : f + k = s)
    (h : wpList P l.toArray (QK Q (fun a w => wpAny P .any l.toArray Q f (tf k s) a w)) (l.take k) a w.drew) : (Code.region id l.toArray true).wp P Q a w := by
  subst he
  refine wp_region_any hm ?_
  subst hl
  have e0 : Array.replicate l.toArray.size false = tf 0 l.length := by rw [tf_zero]; simp
  rw [e0, show l.toArray.size = f + k by simp [hf]]
  exact any_seq hs hQ k 0 a _ hn (by omega) (by simpa using h) (fun a w q => by rw [Nat.zero_add]; exact q)
/-- The next k in the text's order. -/
theorem mid_seq (he : l.toArray = ops) (hl : l.length = s) (hs : Region.noSelect ops = true) (hQ : ∀ c a d v w, Q (.panic c) (a.put d v) w → Q (.panic c) a w) (n k f m : Nat) (hn : natOk .any ops n k = true) (hm : m = n + k) (hF : F = f + k) (hk : m ≤ s)
    (h : wpList P l.toArray (QK Q (fun a w => wpAny P .any l.toArray Q f (tf m s) a w)) ((l.drop n).take k) a w) : wpAny P .any l.toArray Q F (tf n s) a w := by
  subst he hm hF hl
  exact any_seq hs hQ k n a _ hn hk h (fun a w q => q)
/-- The rest in the text's order. -/
theorem end_seq (he : l.toArray = ops) (hl : l.length = s) (hs : Region.noSelect ops = true) (hQ : ∀ c a d v w, Q (.panic c) (a.put d v) w → Q (.panic c) a w) (n : Nat) (hn : natOk .any ops n F = true) (hk : n + F = s) (hr : Region.ready .any ops (tf s s) = [])
    (h : wpList P l.toArray Q (l.drop n) a w) : wpAny P .any l.toArray Q F (tf n s) a w := by
  subst he hl
  have h0 := any_seq (K := fun a w => Q .normal a w) (fuel := 0) hs hQ F n a w hn (by omega) (by rw [QK_self, List.take_of_length_le (by simp; omega)]; exact h) (fun a w q => by rw [hk]; exact wpAny_done hr q 0)
  rwa [Nat.zero_add] at h0
/-- One alone may come up. -/
theorem one_seq {i : Nat} {o : Oper} {listed : Array Bool} (he : l.toArray = ops) (listed' : Array Bool) (hr : Region.ready .any ops listed = [i]) (ho : l.toArray[i]? = some o) (hl : listed.setIfInBounds i true = listed')
    (h : wpList P l.toArray (QK Q (fun a w => wpAny P .any l.toArray Q f listed' a w)) [o] a w) : wpAny P .any l.toArray Q (f + 1) listed a w := by
  subst he
  exact any_one_list hr ho hl h
/-- Two may come up. -/
theorem two_seq {i j : Nat} {oi oj : Oper} {listed : Array Bool} (he : l.toArray = ops) (li lj : Array Bool) (hr : Region.ready .any ops listed = [i, j]) (hoi : l.toArray[i]? = some oi) (hoj : l.toArray[j]? = some oj) (hli : listed.setIfInBounds i true = li) (hlj : listed.setIfInBounds j true = lj)
    (h1 : wpList P l.toArray (QK Q (fun a w => wpAny P .any l.toArray Q f li a w)) [oi] a w) (h2 : wpList P l.toArray (QK Q (fun a w => wpAny P .any l.toArray Q f lj a w)) [oj] a w) : wpAny P .any l.toArray Q (f + 1) listed a w := by
  subst he
  exact any_two_list hr hoi hoj hli hlj h1 h2
theorem wpOp_ok {i : Nat} {o : Oper} {v : Value} {K' : Act → World → Prop} (ho : ops[i]? = some o) (hw : Region.wanted o (yielded ops a.tmps) = true) (hv : (execOp a.eval o).run P w = .ok (.value v) w) (h : K' (a.put o.dst v) w) : wpOp P ops Q i K' a w := by
  unfold wpOp
  simp only [ho]
  simp only [hw, if_true, Oper.wp, hv, Oper.upon]
  exact .inl h
/-- Two that read may come up: their order is all one. -/
theorem pair_seq {i j : Nat} {oi oj : Oper} {listed : Array Bool} {v u : Value} (he : l.toArray = ops) (listed' : Array Bool) (hs : Region.noSelect ops = true) (hr : Region.ready .any ops listed = [i, j]) (hri : Region.ready .any ops (listed.setIfInBounds i true) = [j]) (hrj : Region.ready .any ops (listed.setIfInBounds j true) = [i])
    (hoi : l.toArray[i]? = some oi) (hoj : l.toArray[j]? = some oj) (hap : oi.apart l.toArray oj = true) (hl : (listed.setIfInBounds i true).setIfInBounds j true = listed') (hl2 : (listed.setIfInBounds j true).setIfInBounds i true = listed')
    (hwi : Region.wanted oi (yielded l.toArray a.tmps) = true) (hwj : Region.wanted oj (yielded l.toArray a.tmps) = true) (hvi : (execOp a.eval oi).run P w = .ok (.value v) w) (hvj : (execOp a.eval oj).run P w = .ok (.value u) w)
    (h : wpAny P .any l.toArray Q f listed' ((a.put oi.dst v).put oj.dst u) w) : wpAny P .any l.toArray Q (f + 2) listed a w := by
  subst he
  obtain ⟨p1, p2, p3⟩ := Oper.apart_spec hap
  have si := Region.noSelect_spec hs i oi
  have sj := Region.noSelect_spec hs j oj
  refine wpAny_all hr (by simp) (fun k hk => ?_)
  rcases List.mem_cons.1 hk with rfl | hk
  · refine wpOp_ok hoi hwi hvi ?_
    refine wpAny_all hri (by simp) (fun m hm => ?_)
    obtain rfl : m = j := by simpa using hm
    refine wpOp_ok hoj (by rw [wanted_put oj a oi.dst v p1]; exact hwj) (by rw [execOp_put oj (fun cs b => sj cs b hoj) a oi.dst v p1]; exact hvj) ?_
    rw [hl]; exact h
  · obtain rfl : k = j := by simpa using hk
    refine wpOp_ok hoj hwj hvj ?_
    refine wpAny_all hrj (by simp) (fun m hm => ?_)
    obtain rfl : m = i := by simpa using hm
    refine wpOp_ok hoi (by rw [wanted_put oi a oj.dst u p3]; exact hwi) (by rw [execOp_put oi (fun cs b => si cs b hoi) a oj.dst u p3]; exact hvi) ?_
    rw [hl2, ← Act.put_comm a v u p2]; exact h
theorem qk_normal (h : K a w) : QK Q K .normal a w := h
end
/-- A region of a function's code, by its number. -/
def findReg (n : Nat) : Code → Option Code
  | .region id ops b => if id = n then some (.region id ops b) else none
  | .seq a b => match findReg n a with
    | some c => some c
    | none => findReg n b
  | .block _ c => findReg n c
  | .loop c => findReg n c
  | .scope c => findReg n c
  | .cond _ a b => match findReg n a with
    | some c => some c
    | none => findReg n b
  | _ => none
def rgOps (n : Nat) (o : Option Code) : Array Oper := match o.bind (findReg n) with
  | some (.region _ ops _) => ops
  | _ => #[]
end Go.Proofs.YtmhojaiajhdlcaaGreat
