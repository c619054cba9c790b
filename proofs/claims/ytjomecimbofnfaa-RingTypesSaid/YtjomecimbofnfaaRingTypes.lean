/- The walk of RingTypes. -/
import Derived.Test.YtjomecimbofnfaaRingKept
import Derived.Test.YtjomecimbofnfaaRingStr3
import Derived.Test.YtjomecimbofnfaaRingPair3
import Derived.Test.YtjomecimbofnfaaConvStr
import Derived.Test.YtjomecimbofnfaaWithin
import Derived.Deep.DeepCutAuto
import Derived.Deep.CutBlock
namespace Go.Proofs.Ytjomecimbofnfaa
open Go.RowKit
set_option linter.unusedSimpArgs false
set_option linter.unusedVariables false
def ub (m : Int) : UInt8 := UInt8.ofNat m.toNat
theorem bv_ub (m : Int) (h : 0 ≤ m) (h2 : m < 256) : bv (ub m) = .int .u8 m := by
  unfold bv ub
  congr 1
  have : (UInt8.ofNat m.toNat).toNat = m.toNat := by rw [UInt8.toNat_ofNat']; exact Nat.mod_eq_of_lt (by omega)
  rw [this]; omega
def numB (n : Int) : List UInt8 := [ub (n % 256), ub (n / 256 % 256), ub (n / 65536 % 256), ub (n / 16777216 % 256), ub (n / 4294967296 % 256), ub (n / 1099511627776 % 256), ub (n / 281474976710656 % 256), ub (n / 72057594037927936 % 256)]
theorem numB_cells (n : Int) : (numB n).map bv = [.int .u8 (n % 256), .int .u8 (n / 256 % 256), .int .u8 (n / 65536 % 256), .int .u8 (n / 16777216 % 256), .int .u8 (n / 4294967296 % 256), .int .u8 (n / 1099511627776 % 256), .int .u8 (n / 281474976710656 % 256), .int .u8 (n / 72057594037927936 % 256)] := by
  simp only [numB, List.map_cons, List.map_nil]
  rw [bv_ub _ (by omega) (by omega), bv_ub _ (by omega) (by omega), bv_ub _ (by omega) (by omega), bv_ub _ (by omega) (by omega), bv_ub _ (by omega) (by omega), bv_ub _ (by omega) (by omega), bv_ub _ (by omega) (by omega), bv_ub _ (by omega) (by omega)]
def numS (n : Int) : ByteArray := strOf (numB n)
abbrev numP (n : Int) : Int × ByteArray := (n, numS n)
/-- Three rings. -/
structure Tri (base : Nat) (w : World) (g gl g2 gl2 g3 gl3 room : Nat) (qa : List Int) (qb : List ByteArray) (qc : List (Int × ByteArray)) : Prop where
  a : RQInt base w g gl room qa
  b : RQStr base w g2 gl2 room qb
  c : RQPair base w g3 gl3 room qc
  ab : Ap [g, gl] [g2, gl2]
  ac : Ap [g, gl] [g3, gl3]
  bc : Ap [g2, gl2] [g3, gl3]
section
variable {base g gl g2 gl2 g3 gl3 room : Nat} {w w' W : World} {qa qa' : List Int} {qb qb' : List ByteArray} {qc qc' : List (Int × ByteArray)}
theorem Tri.upd0 (h : Tri base w g gl g2 gl2 g3 gl3 room qa qb qc) (hu : Upd [] w w') : Tri base w' g gl g2 gl2 g3 gl3 room qa qb qc := ⟨h.a.upd0 hu, h.b.upd0 hu, h.c.upd0 hu, h.ab, h.ac, h.bc⟩
theorem Tri.sa (h : Tri base w g gl g2 gl2 g3 gl3 room qa qb qc) (hr : RQInt base w' g gl room qa') (hu : Upd [g, gl] w w') : Tri base w' g gl g2 gl2 g3 gl3 room qa' qb qc := ⟨hr, h.b.upd hu h.ab.symm, h.c.upd hu h.ac.symm, h.ab, h.ac, h.bc⟩
theorem Tri.sb (h : Tri base w g gl g2 gl2 g3 gl3 room qa qb qc) (hr : RQStr base w' g2 gl2 room qb') (hu : Upd [g2, gl2] w w') : Tri base w' g gl g2 gl2 g3 gl3 room qa qb' qc := ⟨h.a.upd hu h.ab, hr, h.c.upd hu h.bc.symm, h.ab, h.ac, h.bc⟩
theorem Tri.sc (h : Tri base w g gl g2 gl2 g3 gl3 room qa qb qc) (hr : RQPair base w' g3 gl3 room qc') (hu : Upd [g3, gl3] w w') : Tri base w' g gl g2 gl2 g3 gl3 room qa qb qc' := ⟨h.a.upd hu h.ac, h.b.upd hu h.bc, hr, h.ab, h.ac, h.bc⟩
end
theorem RQStr.base_le {base base' : Nat} {w : World} {g gl room : Nat} {q : List ByteArray} (h : RQStr base w g gl room q) (hb : base' ≤ base) : RQStr base' w g gl room q := by
  obtain ⟨arr, first, h1, h2⟩ := h
  exact ⟨arr, first, ⟨h1.ring, h1.arr_, by have := h1.gb; omega, by have := h1.lb; omega, h1.len, h1.le⟩, h2⟩
theorem RQPair.base_le {base base' : Nat} {w : World} {g gl room : Nat} {q : List (Int × ByteArray)} (h : RQPair base w g gl room q) (hb : base' ≤ base) : RQPair base' w g gl room q := by
  obtain ⟨arr, first, h1, h2⟩ := h
  exact ⟨arr, first, ⟨h1.ring, h1.arr_, by have := h1.gb; omega, by have := h1.lb; omega, h1.len, h1.le⟩, h2⟩
abbrev Tr (base : Nat) (w : World) (g gl g2 gl2 g3 gl3 room : Nat) (q : List Int) : Prop := Tri base w g gl g2 gl2 g3 gl3 room q (q.map numS) (q.map numP)
set_option maxRecDepth 20000 in
set_option maxHeartbeats 4000000 in
theorem ringTypes_any (w : World) (n0 : Int) (hn0 : I64 n0) (v : Value) (asks : List (Int × Int)) (hl : ∀ a ∈ asks, Ask364 a) (h : RdN 2 ask3Cells w v asks) :
    Calls Try.prog 5 #[.int .i64 n0, v] w fun e w' => e = .returned (.bool true) ∧ Upd [] w w' := by
  obtain ⟨a, cap, rfl, hlc, hcm, hcell⟩ := h
  have hm' : asks.length ≤ 9223372036854775807 := by unfold maxLen at hcm; omega
  have HC := Lib.hid hcell
  have HL := Lib.hid hl
  have HN0 := Lib.hid hn0
  clear hlc hcm hcell hl hn0
  go_enter Try.func5, Try.ntmps5
  go_wp2_with fail
  refine (within_any _ _ _ _ HN0.out (by omega) (by omega) (by omega)).mono ?_
  rintro e w' ⟨rfl, rfl⟩
  obtain ⟨r1, r2⟩ := within_in n0 1 40 (by omega)
  generalize within n0 1 40 = room at *
  obtain ⟨room, rfl⟩ := Int.eq_ofNat_of_zero_le (show 0 ≤ room by omega)
  go_wp2_with fail
  refine (rqNewInt_ok _ room room rfl (by omega) (by omega)).mono ?_
  rintro e w1 ⟨g, gl, rfl, hs1, hu1⟩
  go_wp2_with fail
  refine (rqNewStr_ok _ room room rfl (by omega) (by omega)).mono ?_
  rintro e w2 ⟨g2, gl2, rfl, hs2, hu2⟩
  go_wp2_with fail
  refine (rqNewPair_ok _ room room rfl (by omega) (by omega)).mono ?_
  rintro e w3 ⟨g3, gl3, rfl, hs3, hu3⟩
  have HU3 := Lib.hid ((hu1.seq hu2).seq hu3)
  have HT : Hid (Tr w.heap.size w3 g gl g2 gl2 g3 gl3 room []) := by
    have z1 := hu1.size
    have z2 := hu2.size
    exact ⟨(hs1.upd0 hu2).upd0 hu3, (hs2.base_le z1).upd0 hu3, hs3.base_le (by omega), (Ap.new (fun y hy => (hs2.lt y hy).1) (fun x hx => (hs1.lt x hx).2)).symm,
      (Ap.new (fun y hy => (hs3.lt y hy).1) (fun x hx => by have := (hs1.lt x hx).2; omega)).symm, (Ap.new (fun y hy => (hs3.lt y hy).1) (fun x hx => (hs2.lt x hx).2)).symm⟩
  clear hs1 hs2 hs3 hu1 hu2 hu3
  go_wp2_with fail
  go_loopw [11] (fun i wr => ∃ (k : Nat) (q : List Int), k ≤ 150 ∧ k ≤ asks.length ∧ i = .int .i64 k ∧ Hid (Tr w.heap.size wr g gl g2 gl2 g3 gl3 room q) ∧ Hid (Upd [] w wr)) (fun i _ => 150 - (intOf i).toNat)
  case atStart => exact ⟨0, [], by omega, by omega, rfl, HT, HU3⟩
  case round =>
    obtain ⟨k, q, hk, hkl, rfl, hs, hu⟩ := hrel
    clear HT HU3
    by_cases hgo : k < asks.length ∧ k < 150
    · obtain ⟨hlt, h2⟩ := hgo
      obtain ⟨b, off, rfl, hc⟩ := HC.out (by intro h; simp [h] at hlt)
      have c0 : wr.cell? ⟨b, off + k * 2, none⟩ = some (iv (nth asks k).1) := hu.out.cell (hc k hlt 0 (by omega)) (by simp)
      have c1 : wr.cell? ⟨b, off + k * 2 + 1, none⟩ = some (iv (nth asks k).2) := hu.out.cell (hc k hlt 1 (by omega)) (by simp)
      obtain ⟨k1, k2⟩ := HL.out (nth asks k) (by rw [nth_get asks k hlt]; exact List.getElem_mem hlt)
      generalize (nth asks k).1 = kd at *
      generalize (nth asks k).2 = n at *
      obtain ⟨n1, n2⟩ := k2
      have q1 : (k : Int) < asks.length := by omega
      have q2 : (k : Int) < 150 := by omega
      have hcv := convb_str Try.underlying50 Try.underlying5 Try.underlying9 (wr.alloc (Obj.cells #[.int .u8 (n % 256), .int .u8 (n / 256 % 256), .int .u8 (n / 65536 % 256), .int .u8 (n / 16777216 % 256), .int .u8 (n / 4294967296 % 256), .int .u8 (n / 1099511627776 % 256), .int .u8 (n / 281474976710656 % 256), .int .u8 (n / 72057594037927936 % 256)] 5)) (.slice (some ⟨wr.heap.size, 0, none⟩) 8 8) (numB n) (Rd.lit (numB n) rfl (by rw [numB_cells]) rfl (by decide) (by decide))
      have hcv2 : (convert 50 9 (.slice (some ⟨wr.heap.size, 0, none⟩) 8 8)).run Try.prog (wr.alloc (Obj.cells #[.int .u8 (n % 256), .int .u8 (n / 256 % 256), .int .u8 (n / 65536 % 256), .int .u8 (n / 16777216 % 256), .int .u8 (n / 4294967296 % 256), .int .u8 (n / 1099511627776 % 256), .int .u8 (n / 281474976710656 % 256), .int .u8 (n / 72057594037927936 % 256)] 5)) = .ok (.string (numS n)) (wr.alloc (Obj.cells #[.int .u8 (n % 256), .int .u8 (n / 256 % 256), .int .u8 (n / 65536 % 256), .int .u8 (n / 16777216 % 256), .int .u8 (n / 4294967296 % 256), .int .u8 (n / 1099511627776 % 256), .int .u8 (n / 281474976710656 % 256), .int .u8 (n / 72057594037927936 % 256)] 5)) := hcv
      have hs1 := Lib.hid (hs.out.upd0 ((Upd.refl [] wr).alloc (Obj.cells #[.int .u8 (n % 256), .int .u8 (n / 256 % 256), .int .u8 (n / 65536 % 256), .int .u8 (n / 16777216 % 256), .int .u8 (n / 4294967296 % 256), .int .u8 (n / 1099511627776 % 256), .int .u8 (n / 281474976710656 % 256), .int .u8 (n / 72057594037927936 % 256)] 5)))
      have hu1 := Lib.hid (hu.out.alloc (Obj.cells #[.int .u8 (n % 256), .int .u8 (n / 256 % 256), .int .u8 (n / 65536 % 256), .int .u8 (n / 16777216 % 256), .int .u8 (n / 4294967296 % 256), .int .u8 (n / 1099511627776 % 256), .int .u8 (n / 281474976710656 % 256), .int .u8 (n / 72057594037927936 % 256)] 5))
      have d0 : (wr.alloc (Obj.cells #[.int .u8 (n % 256), .int .u8 (n / 256 % 256), .int .u8 (n / 65536 % 256), .int .u8 (n / 16777216 % 256), .int .u8 (n / 4294967296 % 256), .int .u8 (n / 1099511627776 % 256), .int .u8 (n / 281474976710656 % 256), .int .u8 (n / 72057594037927936 % 256)] 5)).cell? ⟨b, off + k * 2, none⟩ = some (iv kd) := ((Upd.refl [] wr).alloc _).cell c0 (by simp)
      have HNS : Hid (numP n = (n, numS n)) := rfl
      clear hc hcv
      go_upto_block 2 with fail
      clear hcv2
      generalize wr.alloc (Obj.cells #[.int .u8 (n % 256), .int .u8 (n / 256 % 256), .int .u8 (n / 65536 % 256), .int .u8 (n / 16777216 % 256), .int .u8 (n / 4294967296 % 256), .int .u8 (n / 1099511627776 % 256), .int .u8 (n / 281474976710656 % 256), .int .u8 (n / 72057594037927936 % 256)] 5) = v0 at *
      clear hs hu c0 c1
      go_cut [] (fun wx => ∃ q' : List Int, Hid (Tr w.heap.size wx g gl g2 gl2 g3 gl3 room q') ∧ Hid (Upd [] w wx))
      case first =>
        have hlenS : Hid ((q.map numS).length = q.length) := by unfold Hid; simp
        have hlenP : Hid ((q.map numP).length = q.length) := by unfold Hid; simp
        by_cases e1 : kd = 1
        · have t1 : (kd == 1) = true := by simpa using e1
          clear e1
          by_cases hfull : q.length < room
          · have HF := Lib.hid hfull
            clear hfull
            go_wp2_with fail
            refine (rqPutInt_ok _ n hs1.out.a HF.out).mono ?_
            rintro e wa ⟨rfl, hra, hua⟩
            have HSa := Lib.hid (hs1.out.sa hra hua)
            have HUa := Lib.hid (RQInt.next hu1.out hs1.out.a hua)
            clear hra hua
            go_wp2_with fail
            refine (rqPutStr_ok _ (numS n) HSa.out.b (by rw [hlenS.out]; exact HF.out)).mono ?_
            rintro e wb ⟨rfl, hrb, hub⟩
            have HSb := Lib.hid (HSa.out.sb hrb hub)
            have HUb := Lib.hid (RQStr.next HUa.out HSa.out.b hub)
            clear hrb hub
            go_wp2_with fail
            refine (rqPutPair_ok _ (numP n) HSb.out.c (by rw [hlenP.out]; exact HF.out)).mono ?_
            rintro e wc ⟨rfl, hrc, huc⟩
            have HSc := Lib.hid (HSb.out.sc hrc huc)
            have HUc := Lib.hid (RQPair.next HUb.out HSb.out.c huc)
            clear hrc huc
            go_wp2_with fail
            go_meet
            exact ⟨q ++ [n], by unfold Hid Tr; rw [List.map_append, List.map_append]; exact HSc.out, HUc⟩
          · have HF : Hid (room ≤ q.length) := by unfold Hid; omega
            clear hfull
            go_wp2_with fail
            refine (rqPutInt_no _ n hs1.out.a HF.out).mono ?_
            rintro e wa ⟨rfl, hua⟩
            have HSa := Lib.hid (hs1.out.upd0 hua)
            have HUa := Lib.hid (hu1.out.seq hua)
            clear hua
            go_wp2_with fail
            refine (rqPutStr_no _ (numS n) HSa.out.b (by rw [hlenS.out]; exact HF.out)).mono ?_
            rintro e wb ⟨rfl, hub⟩
            have HSb := Lib.hid (HSa.out.upd0 hub)
            have HUb := Lib.hid (HUa.out.seq hub)
            clear hub
            go_wp2_with fail
            refine (rqPutPair_no _ (numP n) HSb.out.c (by rw [hlenP.out]; exact HF.out)).mono ?_
            rintro e wc ⟨rfl, huc⟩
            have HSc := Lib.hid (HSb.out.upd0 huc)
            have HUc := Lib.hid (HUb.out.seq huc)
            clear huc
            go_wp2_with fail
            go_meet
            exact ⟨q, HSc, HUc⟩
        · have t1 : (kd == 1) = false := by simpa using e1
          clear e1
          by_cases e2 : kd = 2
          · have t2 : (kd == 2) = true := by simpa using e2
            clear e2
            have hcase : ∃ (x : Int) (y : ByteArray) (z : Int × ByteArray) (r : Bool), qAt q 0 0 = (x, r) ∧ qAt (q.map numS) (⟨#[]⟩ : ByteArray) 0 = (y, r) ∧ qAt (q.map numP) noPair 0 = (z, r) ∧ z = (x, y) := by
              cases q with
              | nil => exact ⟨0, ⟨#[]⟩, noPair, false, qAt_no _ _ _ (by simp), qAt_no _ _ _ (by simp), qAt_no _ _ _ (by simp), rfl⟩
              | cons a l => exact ⟨a, numS a, numP a, true, qAt_ok (a :: l) 0 0 (by simp), qAt_ok (numS a :: l.map numS) _ 0 (by simp), qAt_ok (numP a :: l.map numP) _ 0 (by simp), rfl⟩
            obtain ⟨x, y, z, r, hx, hy, hz, rfl⟩ := hcase
            have HX := Lib.hid hx
            have HY := Lib.hid hy
            have HZ := Lib.hid hz
            clear hx hy hz
            go_wp2_with fail
            refine (rqTakeInt_any _ x r hs1.out.a HX.out).mono ?_
            rintro e wa ⟨rfl, hra, hua⟩
            have HSa := Lib.hid (hs1.out.sa hra hua)
            have HUa := Lib.hid (RQInt.next hu1.out hs1.out.a hua)
            clear hra hua
            go_wp2_with fail
            refine (rqTakeStr_any _ y r HSa.out.b HY.out).mono ?_
            rintro e wb ⟨rfl, hrb, hub⟩
            have HSb := Lib.hid (HSa.out.sb hrb hub)
            have HUb := Lib.hid (RQStr.next HUa.out HSa.out.b hub)
            clear hrb hub
            go_wp2_with fail
            refine (rqTakePair_any _ (x, y) r HSb.out.c HZ.out).mono ?_
            rintro e wc ⟨rfl, hrc, huc⟩
            have HSc : Hid (Tr w.heap.size wc g gl g2 gl2 g3 gl3 room (q.drop 1)) := by
              have := HSb.out.sc hrc huc
              rw [← List.map_drop, ← List.map_drop] at this; exact this
            have HUc := Lib.hid (RQPair.next HUb.out HSb.out.c huc)
            have HSd := Lib.hid (HSc.out.upd0 ((Upd.refl [] wc).alloc (Obj.cells #[.int .i64 x, .string y] 46)))
            have HUd := Lib.hid (HUc.out.alloc (Obj.cells #[.int .i64 x, .string y] 46))
            clear hrc huc
            cases r
            all_goals
              go_wp2_with fail
              go_meet
              exact ⟨q.drop 1, HSd, HUd⟩
          · have t2 : (kd == 2) = false := by simpa using e2
            clear e2
            by_cases e4 : kd = 4
            · have t4 : (kd == 4) = true := by simpa using e4
              clear e4
              have HI : Hid (I64 n) := ⟨n1, n2⟩
              have HQ2 : Hid (qN (q.map numS) n = qN q n) := by unfold Hid qN; simp
              have HQ3 : Hid (qN (q.map numP) n = qN q n) := by unfold Hid qN; simp
              generalize hqn : qN q n = m at *
              have HQ1 := Lib.hid hqn
              clear hqn
              go_wp2_with fail
              refine (rqDropInt_any _ n m m HI.out hs1.out.a HQ1.out rfl).mono ?_
              rintro e wa ⟨rfl, hra, hua⟩
              have HSa := Lib.hid (hs1.out.sa hra hua)
              have HUa := Lib.hid (RQInt.next hu1.out hs1.out.a hua)
              clear hra hua
              go_wp2_with fail
              refine (rqDropStr_any _ n m m HI.out HSa.out.b HQ2.out rfl).mono ?_
              rintro e wb ⟨rfl, hrb, hub⟩
              have HSb := Lib.hid (HSa.out.sb hrb hub)
              have HUb := Lib.hid (RQStr.next HUa.out HSa.out.b hub)
              clear hrb hub
              go_wp2_with fail
              refine (rqDropPair_any _ n m m HI.out HSb.out.c HQ3.out rfl).mono ?_
              rintro e wc ⟨rfl, hrc, huc⟩
              have HSc : Hid (Tr w.heap.size wc g gl g2 gl2 g3 gl3 room (q.drop m)) := by
                have := HSb.out.sc hrc huc
                rw [← List.map_drop, ← List.map_drop] at this; exact this
              have HUc := Lib.hid (RQPair.next HUb.out HSb.out.c huc)
              clear hrc huc
              go_wp2_with fail
              go_meet
              exact ⟨q.drop m, HSc, HUc⟩
            · have t4 : (kd == 4) = false := by simpa using e4
              clear e4
              go_wp2_with fail
              go_meet
              exact ⟨q, hs1, hu1⟩
      case rest =>
        obtain ⟨q', hs2, hu2⟩ := hcut
        clear hs1 hu1
        have hcase : ∃ (x : Int) (y : ByteArray) (r : Bool), qAt q' 0 1 = (x, r) ∧ qAt (q'.map numP) noPair 1 = ((x, y), r) := by
          by_cases h1 : 1 < q'.length
          · exact ⟨nth q' 1, numS (nth q' 1), true, qAt_ok q' 0 1 h1, by
              have := qAt_ok (q'.map numP) noPair 1 (by simpa using h1)
              rw [show nth (q'.map numP) 1 = numP (nth q' 1) from by simp [nth, List.getD, h1]] at this
              exact this⟩
          · exact ⟨0, ⟨#[]⟩, false, qAt_no _ _ _ (by omega), qAt_no _ _ _ (by simp; omega)⟩
        obtain ⟨x, y, r, hx, hz⟩ := hcase
        have HX := Lib.hid hx
        have HZ := Lib.hid hz
        clear hx hz
        go_wp2_with fail
        refine (rqAtInt_any _ 1 x r (i64_small _ (by omega) (by omega)) hs2.out.a HX.out).mono ?_
        rintro e wa ⟨rfl, hua⟩
        have HSa := Lib.hid (hs2.out.upd0 hua)
        have HUa := Lib.hid (hu2.out.seq hua)
        clear hua
        go_wp2_with fail
        refine (rqAtPair_any _ 1 (x, y) r (i64_small _ (by omega) (by omega)) HSa.out.c HZ.out).mono ?_
        rintro e wb ⟨rfl, hub⟩
        have e0 := (Upd.refl [] wb).alloc (Obj.cells #[.int .i64 x, .string y] 46)
        have HSb := Lib.hid ((HSa.out.upd0 hub).upd0 e0)
        have HUb := Lib.hid ((HUa.out.seq hub).seq e0)
        have HLs : Hid (((q'.map numS).length : Int) = q'.length) := by unfold Hid; simp
        have HLp : Hid (((q'.map numP).length : Int) = q'.length) := by unfold Hid; simp
        clear hub e0
        cases r
        all_goals
          go_wp2_with fail
          refine (rqLenInt_any _ _ HSb.out.a rfl).mono ?_
          rintro e w' ⟨rfl, rfl⟩
          go_wp2_with fail
          refine (rqLenStr_any _ _ HSb.out.b HLs.out).mono ?_
          rintro e w' ⟨rfl, rfl⟩
          go_wp2_with fail
          refine (rqLenInt_any _ _ HSb.out.a rfl).mono ?_
          rintro e w' ⟨rfl, rfl⟩
          go_wp2_with fail
          refine (rqLenPair_any _ _ HSb.out.c HLp.out).mono ?_
          rintro e w' ⟨rfl, rfl⟩
          go_wp2_with fail
          go_roundw
          case rel => exact ⟨k + 1, q', by omega, by omega, by go_num, HSb, HUb⟩
          case measure => simp [intOf]; omega
    · have hex : (k = 150 ∧ k < asks.length) ∨ (k = asks.length ∧ k ≤ 150) := by omega
      clear hgo
      rcases hex with ⟨rfl, hx⟩ | ⟨rfl, hx⟩
      all_goals
        go_wp2_with fail
        refine (ringRuns_any _).mono ?_
        rintro e w9 ⟨rfl, hu9⟩
        go_wp2_with fail
        go_ret
        exact ⟨rfl, hu.out.seq hu9⟩
end Go.Proofs.Ytjomecimbofnfaa
