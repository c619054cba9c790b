/- Texts of the proof, joined: The document's yard: Create. -/
import Derived.Test.YtmhdhnipljonlaaMy8
import Derived.Deep.RegionHeld3
namespace Go.Proofs.Ytmhdhnipljonlaa
open Go.RowKit
set_option linter.unusedSimpArgs false
set_option linter.unusedVariables false
section
variable {w0 w w' : World} {gy : Nat} {G : List Nat} {fl : FL} {T : List Int}
set_option maxRecDepth 20000 in
set_option maxHeartbeats 4000000 in
theorem ryCreate_any (s : ByteArray) (h : RYD w0 w gy G fl T) :
    Calls Try.prog 76 #[.pointer (some ⟨gy, 0, none⟩), sv s] w fun e w' => e = .returned (.int .i64 (yCreate fl s).1) ∧ RYOut w0 w gy G (yCreate fl s).2 T w' := by
  obtain ⟨lv, tv, cs, hc, rfl, hl, hin, rfl⟩ := h.ex
  have HC := Lib.hid hc
  have HL : Hid (cs.length ≤ 1000) := by unfold Hid; omega
  have H := Lib.hid h
  have HIN := Lib.hid hin
  have HRIS : Hid (Rising ltY (filesOf cs)) := mapY_rising' _ hc.ris
  cases ht : nameOk s with
  | false =>
    have HY : Hid (yCreate (filesOf cs) s = (14, filesOf cs)) := by unfold Hid yCreate; rw [ht]; rfl
    have HT := Lib.hid ht
    clear h hc hin ht
    go_enter Try.func76, Try.ntmps76
    go_wp2_with fail
    (with_reducible refine (ryName_any _ s).mono ?_)
    rw [HT.out]
    rintro e w1 ⟨rfl, hu1⟩
    have HO := Lib.hid (H.out.out0 hu1)
    clear hu1
    go_wp2_with fail
    go_ret
    rw [HY.out]
    exact ⟨rfl, HO.out⟩
  | true =>
  cases hs : hasN (filesOf cs) s with
  | true =>
    obtain ⟨k, hk, h1, -⟩ := fIx_at hs
    have HY : Hid (yCreate (filesOf cs) s = (8, filesOf cs)) := by unfold Hid yCreate; rw [ht, hs]; rfl
    have HI := Lib.hid h1
    have HT := Lib.hid ht
    have p0 : (0 : Int) ≤ k := by omega
    clear h hc hin hs ht h1
    go_enter Try.func76, Try.ntmps76
    go_wp2_with fail
    (with_reducible refine (ryName_any _ s).mono ?_)
    rw [HT.out]
    rintro e w1 ⟨rfl, hu1⟩
    have HC1 := Lib.hid (HC.out.upd0 hu1)
    have HU1 := Lib.hid hu1
    clear hu1
    go_wp2_with fail
    (with_reducible refine (ryFind_any s HC1.out HL.out).mono ?_)
    rw [HI.out]
    rintro e w2 ⟨rfl, hu2⟩
    have HO := Lib.hid (H.out.out0 (HU1.out.seq hu2))
    clear hu2
    go_wp2_with fail
    go_ret
    rw [HY.out]
    exact ⟨rfl, HO.out⟩
  | false =>
  obtain ⟨ao, co, rfl, hlc, hcap⟩ := hc.lsl
  have HRD := Lib.hid (hc.row.rd ywCells_len)
  have HI := Lib.hid (fIx_neg hs)
  have HT := Lib.hid ht
  have hyA : yCreate (filesOf cs) s = if 12 ≤ (filesOf cs).length then (9, filesOf cs) else (0, tSet ltY (filesOf cs) (freeIno (filesOf cs)) (s, [])) := by unfold yCreate; rw [if_pos ht, hs]; rfl
  rw [files_len] at hyA
  have HYA := Lib.hid hyA
  clear h hc hin hs ht hyA
  go_enter Try.func76, Try.ntmps76
  go_wp2_with fail
  (with_reducible refine (ryName_any _ s).mono ?_)
  rw [HT.out]
  rintro e w1 ⟨rfl, hu1⟩
  have HC1 := Lib.hid (HC.out.upd0 hu1)
  have HU1 := Lib.hid hu1
  clear hu1
  go_wp2_with fail
  (with_reducible refine (ryFind_any s HC1.out HL.out).mono ?_)
  rw [HI.out]
  rintro e w2 ⟨rfl, hu2⟩
  have HU2 := Lib.hid (HU1.out.seq hu2)
  have y0 := (HC.out.upd0 HU2.out).c0
  clear hu2 HC1
  by_cases h12 : 12 ≤ cs.length
  · have t12 : (12 : Int) ≤ (cs.length : Int) := by omega
    have HY1 : Hid (yCreate (filesOf cs) s = (9, filesOf cs)) := by unfold Hid; rw [HYA.out]; exact if_pos h12
    have HO := Lib.hid (H.out.out0 HU2.out)
    clear h12
    go_wp2_with fail
    go_ret
    rw [HY1.out]
    exact ⟨rfl, HO.out⟩
  have t12 : ¬ (12 : Int) ≤ (cs.length : Int) := by omega
  have HL12 : Hid (cs.length < 12) := by unfold Hid; omega
  have HY1 : Hid (yCreate (filesOf cs) s = (0, tSet ltY (filesOf cs) (freeIno (filesOf cs)) (s, []))) := by unfold Hid; rw [HYA.out]; exact if_neg h12
  clear h12 HYA
  go_wp2_with fail
  go_loopw [5] (fun i wr => ∃ k : Nat, k ≤ cs.length ∧ i = .int .i64 k ∧ Hid (Upd [] w2 wr) ∧ Hid (∀ j, j < k → (nth cs j).1 = (j : Int) + 1)) (fun i _ => cs.length - (intOf i).toNat)
  case atStart => exact ⟨0, Nat.zero_le _, rfl, Upd.refl _ _, fun j h => absurd h (by omega)⟩
  case round =>
    obtain ⟨k, hk, rfl, hu, hlo⟩ := hrel
    clear y0
    have HUW := Lib.hid (HU2.out.seq hu.out)
    have HCW := Lib.hid (HC.out.upd0 HUW.out)
    have y0 := HCW.out.c0
    have hwr : IntKind.i64.wrap ((k : Int) + 1) = (k : Int) + 1 := by rw [IntKind.wrap_i64]; omega
    have q0 : (0 : Int) ≤ k := by omega
    by_cases hlt : k < cs.length
    · obtain ⟨b, off, hb, hcell⟩ : ∃ b off, ao = some ⟨b, off, none⟩ ∧ ∀ j, j < cs.length → ∀ i, i < 3 → w.cell? ⟨b, off + (j * 3 + i), none⟩ = (ywCells (nth cs j))[i]? := by
        obtain ⟨a', k', he, -, -, hq⟩ := HRD.out
        obtain ⟨rfl, -, -⟩ := Value.slice.inj he
        exact hq (by intro h; simp [h] at hlt)
      subst hb
      have c1 : wr.cell? ⟨b, off + k * 3, none⟩ = some (.int .i64 (nth cs k).1) := HUW.out.cell (hcell k hlt 0 (by omega)) (by simp)
      obtain ⟨x, hx⟩ : ∃ x, (nth cs k).1 = x := ⟨_, rfl⟩
      rw [hx] at c1
      have q1 : (k : Int) < cs.length := by omega
      clear hcell
      by_cases he : x = (k : Int) + 1
      · have HLO : Hid (∀ j, j < k + 1 → (nth cs j).1 = (j : Int) + 1) := fun j hj => by
          rcases Nat.lt_or_eq_of_le (Nat.le_of_lt_succ hj) with q | q
          · exact hlo.out j q
          · subst q; rw [hx, he]
        have t1 : (x == (k : Int) + 1) = true := by rw [he]; simp
        clear he hlo hx
        go_wp2_with fail
        go_roundw
        case rel => exact ⟨k + 1, by omega, by go_num, hu, HLO⟩
        case measure => simp [intOf]; omega
      · have t1 : (x == (k : Int) + 1) = false := by rw [beq_eq_false_iff_ne]; exact he
        have HNO : Hid (k < cs.length → (nth cs k).1 ≠ (k : Int) + 1) := fun _ => by rw [hx]; exact he
        clear he hx
        have HK := Lib.hid hk
        have HNEW : Hid (freeIno cs = (k : Int) + 1 ∧ isIn ltY cs ((k : Int) + 1) = false ∧ ∀ v : (ByteArray × Sl) × List UInt8, tSet ltY cs ((k : Int) + 1) v = cs.take k ++ [((k : Int) + 1, v)] ++ cs.drop k) := newY HC.out.ris (fun c hc => (HIN.out c hc).1) k hk hlo.out HNO.out
        have HFREE : Hid (freeIno (filesOf cs) = (k : Int) + 1) := (mapY_free (f := fun v : (ByteArray × Sl) × List UInt8 => (v.1.1, v.2)) (l := cs)).trans HNEW.out.1
        have HY0 := Lib.hid y0
        have HF : Hid (∀ W, Upd [] wr W → W.frozen? ⟨gy, 0, none⟩ = false) := fun W hW => (HCW.out.upd0 hW).top.frozen 0
        have HRW : Hid (RdN 3 ywCells wr (.slice (some ⟨b, off, none⟩) cs.length co) cs) := HRD.out.upd0 ywCells_len HUW.out
        have p1 : (k : Int) ≤ co := by omega
        have p2 : (k : Int) ≤ cs.length := by omega
        have p3 : (0 : Int) ≤ (k : Int) + 1 := by omega
        have HA1 : Hid (∀ (W : World) (G : Nat), wr.heap.size ≤ G → Upd [] wr W → Blk W G 124 [] → ∃ v' w', (Builtin.append_ #[77, 77] 77 #[.slice (some ⟨G, 0, none⟩) 0 0, .slice (some ⟨b, off, none⟩) k co]).run Try.prog W = .ok v' w' ∧ (OwnN 3 ywCells wr.heap.size 124 w' v' (cs.take k) ∧ Upd [G] W w' ∧ Upd [] wr w' ∧ ∃ a1 k1, v' = .slice a1 k k1)) := by
          intro W G hG hU hB
          obtain ⟨v', w', h1, h2, h3, h4⟩ := run_appN (P := Try.prog) (ty := 77) (base := wr.heap.size) ywCells_len (by decide) ywCells_one undYW infoYW rfl _ (.slice (some ⟨b, off, none⟩) k co) [] (cs.take k) (ownN_emptyR 3 ywCells _ _ W G hG hB) ((HRW.out.takeR k HK.out).upd0 ywCells_len hU) (by simp; omega) (by unfold maxLen; simp; omega) hU.size
          rw [List.nil_append] at h2
          obtain ⟨a1, k1, h5, _⟩ := h2.rd ywCells_len
          exact ⟨v', w', h1, h2, h3, hU.trans h3 (by simp) (fun y hy => .inr (by simp [blk] at hy; omega)), a1, k1, by rw [h5, List.length_take, Nat.min_eq_left HK.out]⟩
        have HA2 : Hid (∀ (W : World) (a1 : Option Addr) (k1 GR : Nat), OwnN 3 ywCells wr.heap.size 124 W (.slice a1 k k1) (cs.take k) → Upd [] wr W → (∀ j u, ([.int .i64 ((k : Int) + 1), .string s, .slice none 0 0] : List Value)[j]? = some u → W.cell? ⟨GR, j, none⟩ = some u) → ∃ v' w', (Builtin.append_ #[77, 77] 77 #[.slice a1 k k1, .slice (some ⟨GR, 0, none⟩) 1 1]).run Try.prog W = .ok v' w' ∧ (OwnN 3 ywCells wr.heap.size 124 w' v' (cs.take k ++ [((k : Int) + 1, ((s, (⟨none, 0, 0⟩ : Sl)), []))]) ∧ Upd [] wr w' ∧ ∃ a2 k2, v' = .slice a2 (k + 1) k2)) := by
          intro W a1 k1 GR hO hU hc
          have hr : RdN 3 ywCells W (.slice (some ⟨GR, 0, none⟩) 1 1) [((k : Int) + 1, ((s, (⟨none, 0, 0⟩ : Sl)), []))] := ⟨_, 1, rfl, by simp, by simp [maxLen], fun _ => ⟨GR, 0, rfl, fun j hj i hi => by
            simp at hj; subst hj
            have hi2 : i = 0 ∨ i = 1 ∨ i = 2 := by omega
            rcases hi2 with rfl | rfl | rfl
            · simpa [nth_cons_zero] using hc 0 _ rfl
            · simpa [nth_cons_zero] using hc 1 _ rfl
            · simpa [nth_cons_zero] using hc 2 _ rfl⟩⟩
          obtain ⟨v', w', h1, h2, h3, h4⟩ := run_appN (P := Try.prog) (ty := 77) (base := wr.heap.size) ywCells_len (by decide) ywCells_one undYW infoYW rfl _ _ (cs.take k) [((k : Int) + 1, ((s, (⟨none, 0, 0⟩ : Sl)), []))] hO hr (by simp; omega) (by unfold maxLen; simp; omega) hU.size
          obtain ⟨a2, k2, h5, _⟩ := h2.rd ywCells_len
          exact ⟨v', w', h1, h2, hU.trans h3 (by simp) (fun y hy => .inr (hO.ge y hy).1), a2, k2, by rw [h5, List.length_append, List.length_take, Nat.min_eq_left HK.out]; rfl⟩
        obtain ⟨D, hD, hcutD⟩ : ∃ D : Option Addr, D = (if co = k then (some ⟨b, off, none⟩) else ((some ⟨b, off, none⟩) : Option Addr).map (·.add (k * 3))) ∧ ∀ W, (Instr.slice 77 (.slice (some ⟨b, off, none⟩) cs.length co) (some (.int .i64 (k : Int))) none none).run Try.prog W = .ok (.slice D (cs.length - k) (co - k)) W := ⟨_, rfl, fun W => run_cut (P := Try.prog) undYW sizeYW (some ⟨b, off, none⟩) cs.length co k HK.out W⟩
        have HD : Hid (RdN 3 ywCells wr (.slice D (cs.length - k) (co - k)) (cs.drop k)) := by unfold Hid; rw [hD]; exact HRW.out.dropR k HK.out
        have HA3 : Hid (∀ (W : World) (a2 : Option Addr) (k2 : Nat), OwnN 3 ywCells wr.heap.size 124 W (.slice a2 (k + 1) k2) (cs.take k ++ [((k : Int) + 1, ((s, (⟨none, 0, 0⟩ : Sl)), []))]) → Upd [] wr W → ∃ v' w', (Builtin.append_ #[77, 77] 77 #[.slice a2 (k + 1) k2, .slice D (cs.length - k) (co - k)]).run Try.prog W = .ok v' w' ∧ (OwnN 3 ywCells wr.heap.size 124 w' v' (cs.take k ++ [((k : Int) + 1, ((s, (⟨none, 0, 0⟩ : Sl)), []))] ++ cs.drop k) ∧ Upd [] wr w' ∧ ∃ a3 n3 k3, v' = .slice a3 n3 k3)) := by
          intro W a2 k2 hO hU
          obtain ⟨v', w', h1, h2, h3, h4⟩ := run_appN (P := Try.prog) (ty := 77) (base := wr.heap.size) ywCells_len (by decide) ywCells_one undYW infoYW rfl _ (.slice D (cs.length - k) (co - k)) (cs.take k ++ [((k : Int) + 1, ((s, (⟨none, 0, 0⟩ : Sl)), []))]) (cs.drop k) hO (HD.out.upd0 ywCells_len hU) (by simp; omega) (by unfold maxLen; simp; omega) hU.size
          obtain ⟨a3, k3, h5, _⟩ := h2.rd ywCells_len
          exact ⟨v', w', h1, h2, hU.trans h3 (by simp) (fun y hy => .inr (hO.ge y hy).1), a3, _, k3, h5⟩
        have hcutA : ∀ W, (Instr.slice 77 (.slice (some ⟨b, off, none⟩) cs.length co) none (some (.int .i64 (k : Int))) none).run Try.prog W = .ok (.slice (some ⟨b, off, none⟩) k co) W := fun W => run_cut_h (P := Try.prog) undYW sizeYW (some ⟨b, off, none⟩) cs.length co k (by omega) W
        have yE : (wr.alloc (Obj.cells #[] 124)).cell? ⟨gy, 0, none⟩ = some (.slice (some ⟨b, off, none⟩) cs.length co) := ((Upd.refl [] wr).alloc _).cell y0 (by simp)
        have yX : (wr.alloc (Obj.cells #[.int .i64 ((k : Int) + 1), .string s, .slice none 0 0] 124)).cell? ⟨gy, 0, none⟩ = some (.slice (some ⟨b, off, none⟩) cs.length co) := ((Upd.refl [] wr).alloc _).cell y0 (by simp)
        have yEX : ((wr.alloc (Obj.cells #[] 124)).alloc (Obj.cells #[.int .i64 ((k : Int) + 1), .string s, .slice none 0 0] 124)).cell? ⟨gy, 0, none⟩ = some (.slice (some ⟨b, off, none⟩) cs.length co) := (((Upd.refl [] wr).alloc _).alloc _).cell y0 (by simp)
        have yXE : ((wr.alloc (Obj.cells #[.int .i64 ((k : Int) + 1), .string s, .slice none 0 0] 124)).alloc (Obj.cells #[] 124)).cell? ⟨gy, 0, none⟩ = some (.slice (some ⟨b, off, none⟩) cs.length co) := (((Upd.refl [] wr).alloc _).alloc _).cell y0 (by simp)
        clear hD hk hlo
        go_wp2_with fail
        go_region_law (first
                | ((refine step_app_of rfl (.tmp 58) (.tmp 64) rfl (.slice a2 (k + 1) k2) (.slice D (cs.length - k) (co - k)) (by rfl) (by rfl) (HA3.out _ a2 k2 ?_ ?_) ?_); (refine OwnN.upd (S := []) ho4 ?_ (by simp); (repeat (first | exact Upd.refl _ _ | apply Upd.drew | apply Upd.drewN | apply Upd.alloc))); (refine hu4.seq ?_; (repeat (first | exact Upd.refl _ _ | apply Upd.drew | apply Upd.drewN | apply Upd.alloc))); (rintro v3 w5 ⟨ho5, hu5, a3, n3, k3, rfl⟩; have hkeep3 := hu5.cell HY0.out (by simp); have f5 := HF.out w5 hu5; dsimp only))
                | ((refine step_app_of rfl (.tmp 52) (.tmp 57) rfl (.slice a1 k k1) (.slice (some ⟨w3.heap.size, 0, none⟩) 1 1) (by rfl) (by rfl) (HA2.out _ a1 k1 (w3.heap.size) ?_ ?_ ?_) ?_); (refine OwnN.upd (S := []) ho3 ?_ (by simp); (repeat (first | exact Upd.refl _ _ | apply Upd.drew | apply Upd.drewN | apply Upd.alloc))); (refine hu23.seq ?_; (repeat (first | exact Upd.refl _ _ | apply Upd.drew | apply Upd.drewN | apply Upd.alloc))); exact fun j u h => ((Upd.refl [] _).drew).cell (cells_new (W := w3) rfl rfl j u h) (by simp); (rintro v2 w4 ⟨ho4, hu4, a2, k2, rfl⟩; have hkeep2 := hu4.cell HY0.out (by simp); dsimp only))
                | ((refine step_app_of rfl (.tmp 52) (.tmp 57) rfl (.slice a1 k k1) (.slice (some ⟨wr.heap.size + 1, 0, none⟩) 1 1) (by rfl) (by rfl) (HA2.out _ a1 k1 (wr.heap.size + 1) ?_ ?_ ?_) ?_); (refine OwnN.upd (S := []) ho3 ?_ (by simp); (repeat (first | exact Upd.refl _ _ | apply Upd.drew | apply Upd.drewN | apply Upd.alloc))); (refine hu23.seq ?_; (repeat (first | exact Upd.refl _ _ | apply Upd.drew | apply Upd.drewN | apply Upd.alloc))); exact fun j u h => ((Upd.refl [] _).drew).cell (hcr j u h) (by simp); (rintro v2 w4 ⟨ho4, hu4, a2, k2, rfl⟩; have hkeep2 := hu4.cell HY0.out (by simp); dsimp only))
                | ((refine step_app_of rfl (.tmp 52) (.tmp 57) rfl (.slice a1 k k1) (.slice (some ⟨wr.heap.size, 0, none⟩) 1 1) (by rfl) (by rfl) (HA2.out _ a1 k1 (wr.heap.size) ?_ ?_ ?_) ?_); (refine OwnN.upd (S := []) ho3 ?_ (by simp); (repeat (first | exact Upd.refl _ _ | apply Upd.drew | apply Upd.drewN | apply Upd.alloc))); (refine hu23.seq ?_; (repeat (first | exact Upd.refl _ _ | apply Upd.drew | apply Upd.drewN | apply Upd.alloc))); exact fun j u h => ((Upd.refl [] _).drew).cell (hcr j u h) (by simp); (rintro v2 w4 ⟨ho4, hu4, a2, k2, rfl⟩; have hkeep2 := hu4.cell HY0.out (by simp); dsimp only))
                | ((refine step_app_of rfl (.tmp 45) (.tmp 51) rfl (.slice (some ⟨wr.heap.size, 0, none⟩) 0 0) (.slice (some ⟨b, off, none⟩) k co) (by rfl) (by rfl) (HA1.out _ (wr.heap.size) (by omega) ?_ ?_) ?_); (repeat (first | exact Upd.refl _ _ | apply Upd.drew | apply Upd.drewN | apply Upd.alloc)); (refine Blk.fresh (w := wr) (C := #[]) (xs := []) rfl rfl ?_; (repeat (first | exact Upd.refl _ _ | apply Upd.drew | apply Upd.drewN | apply Upd.alloc))); (rintro v1 w3 ⟨ho3, hu3, hu23, a1, k1, rfl⟩; have hkeep := hu23.cell HY0.out (by simp); have hkx : (w3.alloc (Obj.cells #[.int .i64 ((k : Int) + 1), .string s, .slice none 0 0] 124)).cell? ⟨gy, 0, none⟩ = some (.slice (some ⟨b, off, none⟩) cs.length co) := (hu23.alloc _).cell HY0.out (by simp); have hcr : ∀ j u, ([.int .i64 ((k : Int) + 1), .string s, .slice none 0 0] : List Value)[j]? = some u → w3.cell? ⟨wr.heap.size + 1, j, none⟩ = some u := fun j u h => hu3.cell (((Upd.refl [] _).drew).cell (cells_new (W := wr.alloc (Obj.cells #[] 124)) (by simp) rfl j u h) (by simp)) (by simp); dsimp only))
                | ((refine step_app_of rfl (.tmp 45) (.tmp 51) rfl (.slice (some ⟨wr.heap.size, 0, none⟩) 0 0) (.slice (some ⟨b, off, none⟩) k co) (by rfl) (by rfl) (HA1.out _ (wr.heap.size) (by omega) ?_ ?_) ?_); (repeat (first | exact Upd.refl _ _ | apply Upd.drew | apply Upd.drewN | apply Upd.alloc)); (refine Blk.fresh (w := wr) (C := #[]) (xs := []) rfl rfl ?_; (repeat (first | exact Upd.refl _ _ | apply Upd.drew | apply Upd.drewN | apply Upd.alloc))); (rintro v1 w3 ⟨ho3, hu3, hu23, a1, k1, rfl⟩; have hkeep := hu23.cell HY0.out (by simp); have hkx : (w3.alloc (Obj.cells #[.int .i64 ((k : Int) + 1), .string s, .slice none 0 0] 124)).cell? ⟨gy, 0, none⟩ = some (.slice (some ⟨b, off, none⟩) cs.length co) := (hu23.alloc _).cell HY0.out (by simp); dsimp only))
                | ((refine step_app_of rfl (.tmp 45) (.tmp 51) rfl (.slice (some ⟨wr.heap.size + 1, 0, none⟩) 0 0) (.slice (some ⟨b, off, none⟩) k co) (by rfl) (by rfl) (HA1.out _ (wr.heap.size + 1) (by omega) ?_ ?_) ?_); (repeat (first | exact Upd.refl _ _ | apply Upd.drew | apply Upd.drewN | apply Upd.alloc)); (refine Blk.fresh (w := wr.alloc (Obj.cells #[.int .i64 ((k : Int) + 1), .string s, .slice none 0 0] 124)) (C := #[]) (xs := []) (by simp) rfl ?_; (repeat (first | exact Upd.refl _ _ | apply Upd.drew | apply Upd.drewN | apply Upd.alloc))); (rintro v1 w3 ⟨ho3, hu3, hu23, a1, k1, rfl⟩; have hkeep := hu23.cell HY0.out (by simp); have hkx : (w3.alloc (Obj.cells #[.int .i64 ((k : Int) + 1), .string s, .slice none 0 0] 124)).cell? ⟨gy, 0, none⟩ = some (.slice (some ⟨b, off, none⟩) cs.length co) := (hu23.alloc _).cell HY0.out (by simp); have hcr : ∀ j u, ([.int .i64 ((k : Int) + 1), .string s, .slice none 0 0] : List Value)[j]? = some u → w3.cell? ⟨wr.heap.size, j, none⟩ = some u := fun j u h => hu3.cell ((((Upd.refl [] _).alloc _).drew).cell (cells_new (W := wr) rfl rfl j u h) (by simp)) (by simp); dsimp only)))
        all_goals
          have HO9 := Lib.hid ho5
          have HU9 := Lib.hid hu5
          clear ho5 hu5
          go_wp2_with fail
          go_ret
          have hcs := HNEW.out.2.2 ((s, (⟨none, 0, 0⟩ : Sl)), [])
          obtain ⟨r1, r2, r3⟩ := HCW.out.newRow HU9.out HO9.out (by rw [← hcs]; exact HC.out.ris.set_ intOrd _ _) (fun c hc => by
            rw [← hcs] at hc
            rcases tSet_mem cs _ _ c hc with rfl | q
            · exact .inr ⟨rfl, rfl⟩
            · exact .inl q)
          rw [← hcs] at r1
          rw [HY1.out, HFREE.out]
          refine ⟨rfl, RYOut.of r1 (mapY_set (fun v : (ByteArray × Sl) × List UInt8 => (v.1.1, v.2)) cs _ _).symm ?_ (fun c hc => ?_) (HUW.out.trans (T := [gy]) r2 (by simp) (fun x hx => .inl hx)) (fun x hx => by simp at hx; subst hx; exact foot_gy) (fun x hx => .inr (Nat.le_trans HUW.out.size (r3 x hx))) (fun x hx => .inl hx) (fun c hc x hx => ?_)⟩
          · have := tSet_len (lt := ltY) cs ((k : Int) + 1) ((s, (⟨none, 0, 0⟩ : Sl)), []); have := HL12.out; omega
          · rcases tSet_mem cs _ _ c hc with rfl | q
            · have := HL12.out; have := HK.out; exact ⟨by show (1 : Int) ≤ (k : Int) + 1; omega, by show (k : Int) + 1 ≤ 12; omega, by simp⟩
            · exact HIN.out c q
          · rcases tSet_mem cs _ _ c hc with rfl | q
            · simp [blk] at hx
            · exact .inl ⟨c, q, hx⟩
    · have HNO : Hid (k < cs.length → (nth cs k).1 ≠ (k : Int) + 1) := fun h => absurd h hlt
      have q1 : ¬ (k : Int) < cs.length := by omega
      have HK := Lib.hid hk
      have HNEW : Hid (freeIno cs = (k : Int) + 1 ∧ isIn ltY cs ((k : Int) + 1) = false ∧ ∀ v : (ByteArray × Sl) × List UInt8, tSet ltY cs ((k : Int) + 1) v = cs.take k ++ [((k : Int) + 1, v)] ++ cs.drop k) := newY HC.out.ris (fun c hc => (HIN.out c hc).1) k hk hlo.out HNO.out
      have HFREE : Hid (freeIno (filesOf cs) = (k : Int) + 1) := (mapY_free (f := fun v : (ByteArray × Sl) × List UInt8 => (v.1.1, v.2)) (l := cs)).trans HNEW.out.1
      have HY0 := Lib.hid y0
      have HF : Hid (∀ W, Upd [] wr W → W.frozen? ⟨gy, 0, none⟩ = false) := fun W hW => (HCW.out.upd0 hW).top.frozen 0
      have HRW : Hid (RdN 3 ywCells wr (.slice ao cs.length co) cs) := HRD.out.upd0 ywCells_len HUW.out
      have p1 : (k : Int) ≤ co := by omega
      have p2 : (k : Int) ≤ cs.length := by omega
      have p3 : (0 : Int) ≤ (k : Int) + 1 := by omega
      have HA1 : Hid (∀ (W : World) (G : Nat), wr.heap.size ≤ G → Upd [] wr W → Blk W G 124 [] → ∃ v' w', (Builtin.append_ #[77, 77] 77 #[.slice (some ⟨G, 0, none⟩) 0 0, .slice ao k co]).run Try.prog W = .ok v' w' ∧ (OwnN 3 ywCells wr.heap.size 124 w' v' (cs.take k) ∧ Upd [G] W w' ∧ Upd [] wr w' ∧ ∃ a1 k1, v' = .slice a1 k k1)) := by
        intro W G hG hU hB
        obtain ⟨v', w', h1, h2, h3, h4⟩ := run_appN (P := Try.prog) (ty := 77) (base := wr.heap.size) ywCells_len (by decide) ywCells_one undYW infoYW rfl _ (.slice ao k co) [] (cs.take k) (ownN_emptyR 3 ywCells _ _ W G hG hB) ((HRW.out.takeR k HK.out).upd0 ywCells_len hU) (by simp; omega) (by unfold maxLen; simp; omega) hU.size
        rw [List.nil_append] at h2
        obtain ⟨a1, k1, h5, _⟩ := h2.rd ywCells_len
        exact ⟨v', w', h1, h2, h3, hU.trans h3 (by simp) (fun y hy => .inr (by simp [blk] at hy; omega)), a1, k1, by rw [h5, List.length_take, Nat.min_eq_left HK.out]⟩
      have HA2 : Hid (∀ (W : World) (a1 : Option Addr) (k1 GR : Nat), OwnN 3 ywCells wr.heap.size 124 W (.slice a1 k k1) (cs.take k) → Upd [] wr W → (∀ j u, ([.int .i64 ((k : Int) + 1), .string s, .slice none 0 0] : List Value)[j]? = some u → W.cell? ⟨GR, j, none⟩ = some u) → ∃ v' w', (Builtin.append_ #[77, 77] 77 #[.slice a1 k k1, .slice (some ⟨GR, 0, none⟩) 1 1]).run Try.prog W = .ok v' w' ∧ (OwnN 3 ywCells wr.heap.size 124 w' v' (cs.take k ++ [((k : Int) + 1, ((s, (⟨none, 0, 0⟩ : Sl)), []))]) ∧ Upd [] wr w' ∧ ∃ a2 k2, v' = .slice a2 (k + 1) k2)) := by
        intro W a1 k1 GR hO hU hc
        have hr : RdN 3 ywCells W (.slice (some ⟨GR, 0, none⟩) 1 1) [((k : Int) + 1, ((s, (⟨none, 0, 0⟩ : Sl)), []))] := ⟨_, 1, rfl, by simp, by simp [maxLen], fun _ => ⟨GR, 0, rfl, fun j hj i hi => by
          simp at hj; subst hj
          have hi2 : i = 0 ∨ i = 1 ∨ i = 2 := by omega
          rcases hi2 with rfl | rfl | rfl
          · simpa [nth_cons_zero] using hc 0 _ rfl
          · simpa [nth_cons_zero] using hc 1 _ rfl
          · simpa [nth_cons_zero] using hc 2 _ rfl⟩⟩
        obtain ⟨v', w', h1, h2, h3, h4⟩ := run_appN (P := Try.prog) (ty := 77) (base := wr.heap.size) ywCells_len (by decide) ywCells_one undYW infoYW rfl _ _ (cs.take k) [((k : Int) + 1, ((s, (⟨none, 0, 0⟩ : Sl)), []))] hO hr (by simp; omega) (by unfold maxLen; simp; omega) hU.size
        obtain ⟨a2, k2, h5, _⟩ := h2.rd ywCells_len
        exact ⟨v', w', h1, h2, hU.trans h3 (by simp) (fun y hy => .inr (hO.ge y hy).1), a2, k2, by rw [h5, List.length_append, List.length_take, Nat.min_eq_left HK.out]; rfl⟩
      obtain ⟨D, hD, hcutD⟩ : ∃ D : Option Addr, D = (if co = k then ao else (ao : Option Addr).map (·.add (k * 3))) ∧ ∀ W, (Instr.slice 77 (.slice ao cs.length co) (some (.int .i64 (k : Int))) none none).run Try.prog W = .ok (.slice D (cs.length - k) (co - k)) W := ⟨_, rfl, fun W => run_cut (P := Try.prog) undYW sizeYW ao cs.length co k HK.out W⟩
      have HD : Hid (RdN 3 ywCells wr (.slice D (cs.length - k) (co - k)) (cs.drop k)) := by unfold Hid; rw [hD]; exact HRW.out.dropR k HK.out
      have HA3 : Hid (∀ (W : World) (a2 : Option Addr) (k2 : Nat), OwnN 3 ywCells wr.heap.size 124 W (.slice a2 (k + 1) k2) (cs.take k ++ [((k : Int) + 1, ((s, (⟨none, 0, 0⟩ : Sl)), []))]) → Upd [] wr W → ∃ v' w', (Builtin.append_ #[77, 77] 77 #[.slice a2 (k + 1) k2, .slice D (cs.length - k) (co - k)]).run Try.prog W = .ok v' w' ∧ (OwnN 3 ywCells wr.heap.size 124 w' v' (cs.take k ++ [((k : Int) + 1, ((s, (⟨none, 0, 0⟩ : Sl)), []))] ++ cs.drop k) ∧ Upd [] wr w' ∧ ∃ a3 n3 k3, v' = .slice a3 n3 k3)) := by
        intro W a2 k2 hO hU
        obtain ⟨v', w', h1, h2, h3, h4⟩ := run_appN (P := Try.prog) (ty := 77) (base := wr.heap.size) ywCells_len (by decide) ywCells_one undYW infoYW rfl _ (.slice D (cs.length - k) (co - k)) (cs.take k ++ [((k : Int) + 1, ((s, (⟨none, 0, 0⟩ : Sl)), []))]) (cs.drop k) hO (HD.out.upd0 ywCells_len hU) (by simp; omega) (by unfold maxLen; simp; omega) hU.size
        obtain ⟨a3, k3, h5, _⟩ := h2.rd ywCells_len
        exact ⟨v', w', h1, h2, hU.trans h3 (by simp) (fun y hy => .inr (hO.ge y hy).1), a3, _, k3, h5⟩
      have hcutA : ∀ W, (Instr.slice 77 (.slice ao cs.length co) none (some (.int .i64 (k : Int))) none).run Try.prog W = .ok (.slice ao k co) W := fun W => run_cut_h (P := Try.prog) undYW sizeYW ao cs.length co k (by omega) W
      have yE : (wr.alloc (Obj.cells #[] 124)).cell? ⟨gy, 0, none⟩ = some (.slice ao cs.length co) := ((Upd.refl [] wr).alloc _).cell y0 (by simp)
      have yX : (wr.alloc (Obj.cells #[.int .i64 ((k : Int) + 1), .string s, .slice none 0 0] 124)).cell? ⟨gy, 0, none⟩ = some (.slice ao cs.length co) := ((Upd.refl [] wr).alloc _).cell y0 (by simp)
      have yEX : ((wr.alloc (Obj.cells #[] 124)).alloc (Obj.cells #[.int .i64 ((k : Int) + 1), .string s, .slice none 0 0] 124)).cell? ⟨gy, 0, none⟩ = some (.slice ao cs.length co) := (((Upd.refl [] wr).alloc _).alloc _).cell y0 (by simp)
      have yXE : ((wr.alloc (Obj.cells #[.int .i64 ((k : Int) + 1), .string s, .slice none 0 0] 124)).alloc (Obj.cells #[] 124)).cell? ⟨gy, 0, none⟩ = some (.slice ao cs.length co) := (((Upd.refl [] wr).alloc _).alloc _).cell y0 (by simp)
      clear hD hk hlo
      go_wp2_with fail
      go_region_law (first
              | ((refine step_app_of rfl (.tmp 58) (.tmp 64) rfl (.slice a2 (k + 1) k2) (.slice D (cs.length - k) (co - k)) (by rfl) (by rfl) (HA3.out _ a2 k2 ?_ ?_) ?_); (refine OwnN.upd (S := []) ho4 ?_ (by simp); (repeat (first | exact Upd.refl _ _ | apply Upd.drew | apply Upd.drewN | apply Upd.alloc))); (refine hu4.seq ?_; (repeat (first | exact Upd.refl _ _ | apply Upd.drew | apply Upd.drewN | apply Upd.alloc))); (rintro v3 w5 ⟨ho5, hu5, a3, n3, k3, rfl⟩; have hkeep3 := hu5.cell HY0.out (by simp); have f5 := HF.out w5 hu5; dsimp only))
              | ((refine step_app_of rfl (.tmp 52) (.tmp 57) rfl (.slice a1 k k1) (.slice (some ⟨w3.heap.size, 0, none⟩) 1 1) (by rfl) (by rfl) (HA2.out _ a1 k1 (w3.heap.size) ?_ ?_ ?_) ?_); (refine OwnN.upd (S := []) ho3 ?_ (by simp); (repeat (first | exact Upd.refl _ _ | apply Upd.drew | apply Upd.drewN | apply Upd.alloc))); (refine hu23.seq ?_; (repeat (first | exact Upd.refl _ _ | apply Upd.drew | apply Upd.drewN | apply Upd.alloc))); exact fun j u h => ((Upd.refl [] _).drew).cell (cells_new (W := w3) rfl rfl j u h) (by simp); (rintro v2 w4 ⟨ho4, hu4, a2, k2, rfl⟩; have hkeep2 := hu4.cell HY0.out (by simp); dsimp only))
              | ((refine step_app_of rfl (.tmp 52) (.tmp 57) rfl (.slice a1 k k1) (.slice (some ⟨wr.heap.size + 1, 0, none⟩) 1 1) (by rfl) (by rfl) (HA2.out _ a1 k1 (wr.heap.size + 1) ?_ ?_ ?_) ?_); (refine OwnN.upd (S := []) ho3 ?_ (by simp); (repeat (first | exact Upd.refl _ _ | apply Upd.drew | apply Upd.drewN | apply Upd.alloc))); (refine hu23.seq ?_; (repeat (first | exact Upd.refl _ _ | apply Upd.drew | apply Upd.drewN | apply Upd.alloc))); exact fun j u h => ((Upd.refl [] _).drew).cell (hcr j u h) (by simp); (rintro v2 w4 ⟨ho4, hu4, a2, k2, rfl⟩; have hkeep2 := hu4.cell HY0.out (by simp); dsimp only))
              | ((refine step_app_of rfl (.tmp 52) (.tmp 57) rfl (.slice a1 k k1) (.slice (some ⟨wr.heap.size, 0, none⟩) 1 1) (by rfl) (by rfl) (HA2.out _ a1 k1 (wr.heap.size) ?_ ?_ ?_) ?_); (refine OwnN.upd (S := []) ho3 ?_ (by simp); (repeat (first | exact Upd.refl _ _ | apply Upd.drew | apply Upd.drewN | apply Upd.alloc))); (refine hu23.seq ?_; (repeat (first | exact Upd.refl _ _ | apply Upd.drew | apply Upd.drewN | apply Upd.alloc))); exact fun j u h => ((Upd.refl [] _).drew).cell (hcr j u h) (by simp); (rintro v2 w4 ⟨ho4, hu4, a2, k2, rfl⟩; have hkeep2 := hu4.cell HY0.out (by simp); dsimp only))
              | ((refine step_app_of rfl (.tmp 45) (.tmp 51) rfl (.slice (some ⟨wr.heap.size, 0, none⟩) 0 0) (.slice ao k co) (by rfl) (by rfl) (HA1.out _ (wr.heap.size) (by omega) ?_ ?_) ?_); (repeat (first | exact Upd.refl _ _ | apply Upd.drew | apply Upd.drewN | apply Upd.alloc)); (refine Blk.fresh (w := wr) (C := #[]) (xs := []) rfl rfl ?_; (repeat (first | exact Upd.refl _ _ | apply Upd.drew | apply Upd.drewN | apply Upd.alloc))); (rintro v1 w3 ⟨ho3, hu3, hu23, a1, k1, rfl⟩; have hkeep := hu23.cell HY0.out (by simp); have hkx : (w3.alloc (Obj.cells #[.int .i64 ((k : Int) + 1), .string s, .slice none 0 0] 124)).cell? ⟨gy, 0, none⟩ = some (.slice ao cs.length co) := (hu23.alloc _).cell HY0.out (by simp); have hcr : ∀ j u, ([.int .i64 ((k : Int) + 1), .string s, .slice none 0 0] : List Value)[j]? = some u → w3.cell? ⟨wr.heap.size + 1, j, none⟩ = some u := fun j u h => hu3.cell (((Upd.refl [] _).drew).cell (cells_new (W := wr.alloc (Obj.cells #[] 124)) (by simp) rfl j u h) (by simp)) (by simp); dsimp only))
              | ((refine step_app_of rfl (.tmp 45) (.tmp 51) rfl (.slice (some ⟨wr.heap.size, 0, none⟩) 0 0) (.slice ao k co) (by rfl) (by rfl) (HA1.out _ (wr.heap.size) (by omega) ?_ ?_) ?_); (repeat (first | exact Upd.refl _ _ | apply Upd.drew | apply Upd.drewN | apply Upd.alloc)); (refine Blk.fresh (w := wr) (C := #[]) (xs := []) rfl rfl ?_; (repeat (first | exact Upd.refl _ _ | apply Upd.drew | apply Upd.drewN | apply Upd.alloc))); (rintro v1 w3 ⟨ho3, hu3, hu23, a1, k1, rfl⟩; have hkeep := hu23.cell HY0.out (by simp); have hkx : (w3.alloc (Obj.cells #[.int .i64 ((k : Int) + 1), .string s, .slice none 0 0] 124)).cell? ⟨gy, 0, none⟩ = some (.slice ao cs.length co) := (hu23.alloc _).cell HY0.out (by simp); dsimp only))
              | ((refine step_app_of rfl (.tmp 45) (.tmp 51) rfl (.slice (some ⟨wr.heap.size + 1, 0, none⟩) 0 0) (.slice ao k co) (by rfl) (by rfl) (HA1.out _ (wr.heap.size + 1) (by omega) ?_ ?_) ?_); (repeat (first | exact Upd.refl _ _ | apply Upd.drew | apply Upd.drewN | apply Upd.alloc)); (refine Blk.fresh (w := wr.alloc (Obj.cells #[.int .i64 ((k : Int) + 1), .string s, .slice none 0 0] 124)) (C := #[]) (xs := []) (by simp) rfl ?_; (repeat (first | exact Upd.refl _ _ | apply Upd.drew | apply Upd.drewN | apply Upd.alloc))); (rintro v1 w3 ⟨ho3, hu3, hu23, a1, k1, rfl⟩; have hkeep := hu23.cell HY0.out (by simp); have hkx : (w3.alloc (Obj.cells #[.int .i64 ((k : Int) + 1), .string s, .slice none 0 0] 124)).cell? ⟨gy, 0, none⟩ = some (.slice ao cs.length co) := (hu23.alloc _).cell HY0.out (by simp); have hcr : ∀ j u, ([.int .i64 ((k : Int) + 1), .string s, .slice none 0 0] : List Value)[j]? = some u → w3.cell? ⟨wr.heap.size, j, none⟩ = some u := fun j u h => hu3.cell ((((Upd.refl [] _).alloc _).drew).cell (cells_new (W := wr) rfl rfl j u h) (by simp)) (by simp); dsimp only)))
      all_goals
        have HO9 := Lib.hid ho5
        have HU9 := Lib.hid hu5
        clear ho5 hu5
        go_wp2_with fail
        go_ret
        have hcs := HNEW.out.2.2 ((s, (⟨none, 0, 0⟩ : Sl)), [])
        obtain ⟨r1, r2, r3⟩ := HCW.out.newRow HU9.out HO9.out (by rw [← hcs]; exact HC.out.ris.set_ intOrd _ _) (fun c hc => by
          rw [← hcs] at hc
          rcases tSet_mem cs _ _ c hc with rfl | q
          · exact .inr ⟨rfl, rfl⟩
          · exact .inl q)
        rw [← hcs] at r1
        rw [HY1.out, HFREE.out]
        refine ⟨rfl, RYOut.of r1 (mapY_set (fun v : (ByteArray × Sl) × List UInt8 => (v.1.1, v.2)) cs _ _).symm ?_ (fun c hc => ?_) (HUW.out.trans (T := [gy]) r2 (by simp) (fun x hx => .inl hx)) (fun x hx => by simp at hx; subst hx; exact foot_gy) (fun x hx => .inr (Nat.le_trans HUW.out.size (r3 x hx))) (fun x hx => .inl hx) (fun c hc x hx => ?_)⟩
        · have := tSet_len (lt := ltY) cs ((k : Int) + 1) ((s, (⟨none, 0, 0⟩ : Sl)), []); have := HL12.out; omega
        · rcases tSet_mem cs _ _ c hc with rfl | q
          · have := HL12.out; have := HK.out; exact ⟨by show (1 : Int) ≤ (k : Int) + 1; omega, by show (k : Int) + 1 ≤ 12; omega, by simp⟩
          · exact HIN.out c q
        · rcases tSet_mem cs _ _ c hc with rfl | q
          · simp [blk] at hx
          · exact .inl ⟨c, q, hx⟩
end
end Go.Proofs.Ytmhdhnipljonlaa
