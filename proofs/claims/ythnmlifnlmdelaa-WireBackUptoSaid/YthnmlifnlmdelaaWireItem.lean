/- Chapter 2: an item written by the program and by the document. -/
import Derived.Test.YthnmlifnlmdelaaWireRefPut
import Derived.Deep.RegionHeld3
import Derived.Test.YthnmlifnlmdelaaSls
namespace Go.Proofs.Ythnmlifnlmdelaa
open Go.RowKit
set_option linter.unusedSimpArgs false
set_option linter.unusedVariables false
theorem infoIt : (Try.prog.info? 3).map (fun i => (i.zero, i.size, i.bytes)) = some (some (.int .i64 0), 1, 8) := by kernel_rfl
/-- The bytes of an item. -/
def encItem (kd n : Int) (s : ByteArray) (f : Bool) (l : List Int) : List UInt8 :=
  if kd = 1 ∨ kd = 4 then encNum n.toNat else if kd = 2 then encText s else if kd = 3 then encFlag f else if kd = 5 then encList l else []
def PutSaid (w : World) (B : List UInt8) (e : Ending) (w' : World) : Prop :=
  ∃ x y, e = .returned (.tuple #[x, y]) ∧ Own bv w.heap.size 5 w' x B ∧ Own bv w.heap.size 5 w' y B ∧ Upd [] w w'
set_option maxHeartbeats 2000000 in
theorem put1_any (w : World) (v : Value) (b : List UInt8) (h : Bytes w v b) (hz : b.length ≤ 50000000000) (n mo : Int) (s : ByteArray) (f : Bool) (lv : Sl) (hn : I64 n) :
    Calls Try.prog 38 #[v, .agg #[.int .i64 1, .int .i64 n, .int .i64 mo, .string s, .bool f, slv lv]] w fun e w' => PutSaid w (b ++ encNum n.toNat) e w' := by
  have H := Lib.hid h
  obtain ⟨la, ln, lk⟩ := lv
  dsimp only [slv]
  go_enter Try.func38, Try.ntmps38
  obtain ⟨w0, hw0⟩ : ∃ x, x = w.alloc (.cells #[.int .i64 1, .int .i64 n, .int .i64 mo, .string s, .bool f, .slice la ln lk] 58) := ⟨_, rfl⟩
  have HU0 : Hid (Upd [] w w0) := by rw [hw0]; exact (Upd.refl [] w).alloc _
  have HB0 := Lib.hid (Blk.new w 58 [.int .i64 1, .int .i64 n, .int .i64 mo, .string s, .bool f, .slice la ln lk])
  replace HB0 : Hid (Blk w0 w.heap.size 58 [.int .i64 1, .int .i64 n, .int .i64 mo, .string s, .bool f, .slice la ln lk]) := by rw [hw0]; exact HB0.out
  go_wp2_with fail
  rw [← hw0]
  clear hw0
  have c0 : w0.cell? ⟨w.heap.size, 1, none⟩ = some (.int .i64 n) := HB0.out.cell 1
  have HC1 : Hid (∀ W, Upd [] w W → Calls Try.prog 26 #[v, .int .i64 n] W fun e w' => ∃ x, e = .returned x ∧ Own bv W.heap.size 5 w' x (b ++ encNum n.toNat) ∧ Upd [] W w') := fun W hu => fNum_any _ b n W (H.out.upd0 hu) (by omega) hn
  have HC2 : Hid (∀ W, Upd [] w W → Calls Try.prog 54 #[v, .int .i64 n] W fun e w' => ∃ x, e = .returned x ∧ Own bv W.heap.size 5 w' x (b ++ encNum n.toNat) ∧ Upd [] W w') := fun W hu => dNumW_any _ b n W (H.out.upd0 hu) (by omega) hn
  go_region_held3 (fun w' => w'.cell? ⟨w.heap.size, 1, none⟩ = some (.int .i64 n)) (first | go_keep | exact c2 | exact c1 | exact c0) (first
    | (go_at_call 26; with_reducible refine (HC1.out _ (HU0.out.seq (by repeat (first | with_reducible exact Upd.refl _ _ | with_reducible apply Upd.drew | with_reducible apply Upd.drewN | with_reducible apply Upd.alloc)))).mono ?_; rintro e w1 ⟨x1, rfl, ho1, hu1⟩; have hk1 : Upd [] w0 w1 := Upd.seq (by repeat (first | with_reducible exact Upd.refl _ _ | with_reducible apply Upd.drew | with_reducible apply Upd.drewN | with_reducible apply Upd.alloc)) hu1; have c1 := hk1.cell c0 (by simp); dsimp only)
    | (go_at_call 54; with_reducible refine (HC2.out _ ((HU0.out.seq hk1).seq (by repeat (first | with_reducible exact Upd.refl _ _ | with_reducible apply Upd.drew | with_reducible apply Upd.drewN | with_reducible apply Upd.alloc)))).mono ?_; rintro e w2 ⟨x2, rfl, ho2, hu2⟩; have hk2 : Upd [] w1 w2 := Upd.seq (by repeat (first | with_reducible exact Upd.refl _ _ | with_reducible apply Upd.drew | with_reducible apply Upd.drewN | with_reducible apply Upd.alloc)) hu2; have c2 := hk2.cell c1 (by simp); dsimp only))
  all_goals
    have HU2 := Lib.hid ((HU0.out.seq hk1).seq hk2)
    have HO2 := Lib.hid (ho2.base_le (Nat.le_trans (HU0.out.seq hk1).size (Upd.size (S := []) (by repeat (first | with_reducible exact Upd.refl _ _ | with_reducible apply Upd.drew | with_reducible apply Upd.drewN | with_reducible apply Upd.alloc)))))
    have HO1 := Lib.hid ((ho1.base_le (Nat.le_trans HU0.out.size (Upd.size (S := []) (by repeat (first | with_reducible exact Upd.refl _ _ | with_reducible apply Upd.drew | with_reducible apply Upd.drewN | with_reducible apply Upd.alloc))))).upd hk2 (by simp))
    clear ho1 ho2 hu1 hu2 hk1 hk2 c0 c1 c2
  all_goals go_wp2_with fail
  all_goals go_ret2
  all_goals exact ⟨_, _, rfl, HO1.out, HO2.out, HU2.out⟩
set_option maxHeartbeats 2000000 in
theorem put4_any (w : World) (v : Value) (b : List UInt8) (h : Bytes w v b) (hz : b.length ≤ 50000000000) (n mo : Int) (s : ByteArray) (f : Bool) (lv : Sl) (hn : I64 n) :
    Calls Try.prog 38 #[v, .agg #[.int .i64 4, .int .i64 n, .int .i64 mo, .string s, .bool f, slv lv]] w fun e w' => PutSaid w (b ++ encNum n.toNat) e w' := by
  have H := Lib.hid h
  obtain ⟨la, ln, lk⟩ := lv
  dsimp only [slv]
  go_enter Try.func38, Try.ntmps38
  obtain ⟨w0, hw0⟩ : ∃ x, x = w.alloc (.cells #[.int .i64 4, .int .i64 n, .int .i64 mo, .string s, .bool f, .slice la ln lk] 58) := ⟨_, rfl⟩
  have HU0 : Hid (Upd [] w w0) := by rw [hw0]; exact (Upd.refl [] w).alloc _
  have HB0 := Lib.hid (Blk.new w 58 [.int .i64 4, .int .i64 n, .int .i64 mo, .string s, .bool f, .slice la ln lk])
  replace HB0 : Hid (Blk w0 w.heap.size 58 [.int .i64 4, .int .i64 n, .int .i64 mo, .string s, .bool f, .slice la ln lk]) := by rw [hw0]; exact HB0.out
  go_wp2_with fail
  rw [← hw0]
  clear hw0
  have c0 : w0.cell? ⟨w.heap.size, 1, none⟩ = some (.int .i64 n) := HB0.out.cell 1
  have HC1 : Hid (∀ W, Upd [] w W → Calls Try.prog 26 #[v, .int .i64 n] W fun e w' => ∃ x, e = .returned x ∧ Own bv W.heap.size 5 w' x (b ++ encNum n.toNat) ∧ Upd [] W w') := fun W hu => fNum_any _ b n W (H.out.upd0 hu) (by omega) hn
  have HC2 : Hid (∀ W, Upd [] w W → Calls Try.prog 54 #[v, .int .i64 n] W fun e w' => ∃ x, e = .returned x ∧ Own bv W.heap.size 5 w' x (b ++ encNum n.toNat) ∧ Upd [] W w') := fun W hu => dNumW_any _ b n W (H.out.upd0 hu) (by omega) hn
  go_region_held3 (fun w' => w'.cell? ⟨w.heap.size, 1, none⟩ = some (.int .i64 n)) (first | go_keep | exact c2 | exact c1 | exact c0) (first
    | (go_at_call 26; with_reducible refine (HC1.out _ (HU0.out.seq (by repeat (first | with_reducible exact Upd.refl _ _ | with_reducible apply Upd.drew | with_reducible apply Upd.drewN | with_reducible apply Upd.alloc)))).mono ?_; rintro e w1 ⟨x1, rfl, ho1, hu1⟩; have hk1 : Upd [] w0 w1 := Upd.seq (by repeat (first | with_reducible exact Upd.refl _ _ | with_reducible apply Upd.drew | with_reducible apply Upd.drewN | with_reducible apply Upd.alloc)) hu1; have c1 := hk1.cell c0 (by simp); dsimp only)
    | (go_at_call 54; with_reducible refine (HC2.out _ ((HU0.out.seq hk1).seq (by repeat (first | with_reducible exact Upd.refl _ _ | with_reducible apply Upd.drew | with_reducible apply Upd.drewN | with_reducible apply Upd.alloc)))).mono ?_; rintro e w2 ⟨x2, rfl, ho2, hu2⟩; have hk2 : Upd [] w1 w2 := Upd.seq (by repeat (first | with_reducible exact Upd.refl _ _ | with_reducible apply Upd.drew | with_reducible apply Upd.drewN | with_reducible apply Upd.alloc)) hu2; have c2 := hk2.cell c1 (by simp); dsimp only))
  all_goals
    have HU2 := Lib.hid ((HU0.out.seq hk1).seq hk2)
    have HO2 := Lib.hid (ho2.base_le (Nat.le_trans (HU0.out.seq hk1).size (Upd.size (S := []) (by repeat (first | with_reducible exact Upd.refl _ _ | with_reducible apply Upd.drew | with_reducible apply Upd.drewN | with_reducible apply Upd.alloc)))))
    have HO1 := Lib.hid ((ho1.base_le (Nat.le_trans HU0.out.size (Upd.size (S := []) (by repeat (first | with_reducible exact Upd.refl _ _ | with_reducible apply Upd.drew | with_reducible apply Upd.drewN | with_reducible apply Upd.alloc))))).upd hk2 (by simp))
    clear ho1 ho2 hu1 hu2 hk1 hk2 c0 c1 c2
  all_goals go_wp2_with fail
  all_goals go_ret2
  all_goals exact ⟨_, _, rfl, HO1.out, HO2.out, HU2.out⟩
set_option maxHeartbeats 2000000 in
theorem put2_any (w : World) (v : Value) (b : List UInt8) (h : Bytes w v b) (hz : b.length ≤ 50000000000) (n mo : Int) (s : ByteArray) (f : Bool) (lv : Sl) (hs : s.size ≤ 10000000000) :
    Calls Try.prog 38 #[v, .agg #[.int .i64 2, .int .i64 n, .int .i64 mo, .string s, .bool f, slv lv]] w fun e w' => PutSaid w (b ++ encText s) e w' := by
  have H := Lib.hid h
  obtain ⟨la, ln, lk⟩ := lv
  dsimp only [slv]
  go_enter Try.func38, Try.ntmps38
  obtain ⟨w0, hw0⟩ : ∃ x, x = w.alloc (.cells #[.int .i64 2, .int .i64 n, .int .i64 mo, .string s, .bool f, .slice la ln lk] 58) := ⟨_, rfl⟩
  have HU0 : Hid (Upd [] w w0) := by rw [hw0]; exact (Upd.refl [] w).alloc _
  have HB0 := Lib.hid (Blk.new w 58 [.int .i64 2, .int .i64 n, .int .i64 mo, .string s, .bool f, .slice la ln lk])
  replace HB0 : Hid (Blk w0 w.heap.size 58 [.int .i64 2, .int .i64 n, .int .i64 mo, .string s, .bool f, .slice la ln lk]) := by rw [hw0]; exact HB0.out
  go_wp2_with fail
  rw [← hw0]
  clear hw0
  have c0 : w0.cell? ⟨w.heap.size, 3, none⟩ = some (.string s) := HB0.out.cell 3
  have HC1 : Hid (∀ W, Upd [] w W → Calls Try.prog 27 #[v, .string s] W fun e w' => ∃ x, e = .returned x ∧ Own bv W.heap.size 5 w' x (b ++ encText s) ∧ Upd [] W w') := fun W hu => fText_any _ b s W (H.out.upd0 hu) (by omega) (by omega)
  have HC2 : Hid (∀ W, Upd [] w W → Calls Try.prog 55 #[v, .string s] W fun e w' => ∃ x, e = .returned x ∧ Own bv W.heap.size 5 w' x (b ++ encText s) ∧ Upd [] W w') := fun W hu => dTextW_any _ b s W (H.out.upd0 hu) (by omega) (by omega)
  go_region_held3 (fun w' => w'.cell? ⟨w.heap.size, 3, none⟩ = some (.string s)) (first | go_keep | exact c2 | exact c1 | exact c0) (first
    | (go_at_call 27; with_reducible refine (HC1.out _ (HU0.out.seq (by repeat (first | with_reducible exact Upd.refl _ _ | with_reducible apply Upd.drew | with_reducible apply Upd.drewN | with_reducible apply Upd.alloc)))).mono ?_; rintro e w1 ⟨x1, rfl, ho1, hu1⟩; have hk1 : Upd [] w0 w1 := Upd.seq (by repeat (first | with_reducible exact Upd.refl _ _ | with_reducible apply Upd.drew | with_reducible apply Upd.drewN | with_reducible apply Upd.alloc)) hu1; have c1 := hk1.cell c0 (by simp); dsimp only)
    | (go_at_call 55; with_reducible refine (HC2.out _ ((HU0.out.seq hk1).seq (by repeat (first | with_reducible exact Upd.refl _ _ | with_reducible apply Upd.drew | with_reducible apply Upd.drewN | with_reducible apply Upd.alloc)))).mono ?_; rintro e w2 ⟨x2, rfl, ho2, hu2⟩; have hk2 : Upd [] w1 w2 := Upd.seq (by repeat (first | with_reducible exact Upd.refl _ _ | with_reducible apply Upd.drew | with_reducible apply Upd.drewN | with_reducible apply Upd.alloc)) hu2; have c2 := hk2.cell c1 (by simp); dsimp only))
  all_goals
    have HU2 := Lib.hid ((HU0.out.seq hk1).seq hk2)
    have HO2 := Lib.hid (ho2.base_le (Nat.le_trans (HU0.out.seq hk1).size (Upd.size (S := []) (by repeat (first | with_reducible exact Upd.refl _ _ | with_reducible apply Upd.drew | with_reducible apply Upd.drewN | with_reducible apply Upd.alloc)))))
    have HO1 := Lib.hid ((ho1.base_le (Nat.le_trans HU0.out.size (Upd.size (S := []) (by repeat (first | with_reducible exact Upd.refl _ _ | with_reducible apply Upd.drew | with_reducible apply Upd.drewN | with_reducible apply Upd.alloc))))).upd hk2 (by simp))
    clear ho1 ho2 hu1 hu2 hk1 hk2 c0 c1 c2
  all_goals go_wp2_with fail
  all_goals go_ret2
  all_goals exact ⟨_, _, rfl, HO1.out, HO2.out, HU2.out⟩
set_option maxHeartbeats 2000000 in
theorem put3_any (w : World) (v : Value) (b : List UInt8) (h : Bytes w v b) (hz : b.length ≤ 50000000000) (n mo : Int) (s : ByteArray) (f : Bool) (lv : Sl)  :
    Calls Try.prog 38 #[v, .agg #[.int .i64 3, .int .i64 n, .int .i64 mo, .string s, .bool f, slv lv]] w fun e w' => PutSaid w (b ++ encFlag f) e w' := by
  have H := Lib.hid h
  obtain ⟨la, ln, lk⟩ := lv
  dsimp only [slv]
  go_enter Try.func38, Try.ntmps38
  obtain ⟨w0, hw0⟩ : ∃ x, x = w.alloc (.cells #[.int .i64 3, .int .i64 n, .int .i64 mo, .string s, .bool f, .slice la ln lk] 58) := ⟨_, rfl⟩
  have HU0 : Hid (Upd [] w w0) := by rw [hw0]; exact (Upd.refl [] w).alloc _
  have HB0 := Lib.hid (Blk.new w 58 [.int .i64 3, .int .i64 n, .int .i64 mo, .string s, .bool f, .slice la ln lk])
  replace HB0 : Hid (Blk w0 w.heap.size 58 [.int .i64 3, .int .i64 n, .int .i64 mo, .string s, .bool f, .slice la ln lk]) := by rw [hw0]; exact HB0.out
  go_wp2_with fail
  rw [← hw0]
  clear hw0
  have c0 : w0.cell? ⟨w.heap.size, 4, none⟩ = some (.bool f) := HB0.out.cell 4
  have HC1 : Hid (∀ W, Upd [] w W → Calls Try.prog 28 #[v, .bool f] W fun e w' => ∃ x, e = .returned x ∧ Own bv W.heap.size 5 w' x (b ++ encFlag f) ∧ Upd [] W w') := fun W hu => fFlag_any _ b f W (H.out.upd0 hu) (by omega)
  have HC2 : Hid (∀ W, Upd [] w W → Calls Try.prog 56 #[v, .bool f] W fun e w' => ∃ x, e = .returned x ∧ Own bv W.heap.size 5 w' x (b ++ encFlag f) ∧ Upd [] W w') := fun W hu => dFlagW_any _ b f W (H.out.upd0 hu) (by omega)
  go_region_held3 (fun w' => w'.cell? ⟨w.heap.size, 4, none⟩ = some (.bool f)) (first | go_keep | exact c2 | exact c1 | exact c0) (first
    | (go_at_call 28; with_reducible refine (HC1.out _ (HU0.out.seq (by repeat (first | with_reducible exact Upd.refl _ _ | with_reducible apply Upd.drew | with_reducible apply Upd.drewN | with_reducible apply Upd.alloc)))).mono ?_; rintro e w1 ⟨x1, rfl, ho1, hu1⟩; have hk1 : Upd [] w0 w1 := Upd.seq (by repeat (first | with_reducible exact Upd.refl _ _ | with_reducible apply Upd.drew | with_reducible apply Upd.drewN | with_reducible apply Upd.alloc)) hu1; have c1 := hk1.cell c0 (by simp); dsimp only)
    | (go_at_call 56; with_reducible refine (HC2.out _ ((HU0.out.seq hk1).seq (by repeat (first | with_reducible exact Upd.refl _ _ | with_reducible apply Upd.drew | with_reducible apply Upd.drewN | with_reducible apply Upd.alloc)))).mono ?_; rintro e w2 ⟨x2, rfl, ho2, hu2⟩; have hk2 : Upd [] w1 w2 := Upd.seq (by repeat (first | with_reducible exact Upd.refl _ _ | with_reducible apply Upd.drew | with_reducible apply Upd.drewN | with_reducible apply Upd.alloc)) hu2; have c2 := hk2.cell c1 (by simp); dsimp only))
  all_goals
    have HU2 := Lib.hid ((HU0.out.seq hk1).seq hk2)
    have HO2 := Lib.hid (ho2.base_le (Nat.le_trans (HU0.out.seq hk1).size (Upd.size (S := []) (by repeat (first | with_reducible exact Upd.refl _ _ | with_reducible apply Upd.drew | with_reducible apply Upd.drewN | with_reducible apply Upd.alloc)))))
    have HO1 := Lib.hid ((ho1.base_le (Nat.le_trans HU0.out.size (Upd.size (S := []) (by repeat (first | with_reducible exact Upd.refl _ _ | with_reducible apply Upd.drew | with_reducible apply Upd.drewN | with_reducible apply Upd.alloc))))).upd hk2 (by simp))
    clear ho1 ho2 hu1 hu2 hk1 hk2 c0 c1 c2
  all_goals go_wp2_with fail
  all_goals go_ret2
  all_goals exact ⟨_, _, rfl, HO1.out, HO2.out, HU2.out⟩
set_option maxHeartbeats 4000000 in
theorem put5_any (w : World) (v : Value) (b : List UInt8) (h : Bytes w v b) (hz : b.length ≤ 40000000000) (n mo : Int) (s : ByteArray) (f : Bool) (lv : Sl) (l : List Int) (hl : Rd iv w (slv lv) l) (hi : ∀ x ∈ l, I64 x) (hz2 : l.length ≤ 10000000) :
    Calls Try.prog 38 #[v, .agg #[.int .i64 5, .int .i64 n, .int .i64 mo, .string s, .bool f, slv lv]] w fun e w' => PutSaid w (b ++ encList l) e w' := by
  obtain ⟨la, ln, lk⟩ := lv
  dsimp only [slv] at hl ⊢
  have HLI := Lib.hid hl
  obtain ⟨_, _, he, -, -, hcL⟩ := hl
  obtain ⟨rfl, rfl, rfl⟩ := Value.slice.inj he
  clear he
  have HCL := Lib.hid hcL
  have HI := Lib.hid hi
  clear hcL hi
  have H := Lib.hid h
  go_enter Try.func38, Try.ntmps38
  obtain ⟨w0, hw0⟩ : ∃ x, x = w.alloc (.cells #[.int .i64 5, .int .i64 n, .int .i64 mo, .string s, .bool f, .slice la l.length lk] 58) := ⟨_, rfl⟩
  have HU0 : Hid (Upd [] w w0) := by rw [hw0]; exact (Upd.refl [] w).alloc _
  have HB0 := Lib.hid (Blk.new w 58 [.int .i64 5, .int .i64 n, .int .i64 mo, .string s, .bool f, .slice la l.length lk])
  replace HB0 : Hid (Blk w0 w.heap.size 58 [.int .i64 5, .int .i64 n, .int .i64 mo, .string s, .bool f, .slice la l.length lk]) := by rw [hw0]; exact HB0.out
  go_wp2_with fail
  rw [← hw0]
  clear hw0
  have c5 : w0.cell? ⟨w.heap.size, 5, none⟩ = some (.slice la l.length lk) := HB0.out.cell 5
  go_wp2_with fail
  with_reducible refine (dNumW_any _ b (l.length : Int) _ (H.out.upd0 HU0.out) (by omega) (i64_mk (by omega) (by omega))).mono ?_
  rintro e w1 ⟨v1, rfl, ho1, hu1⟩
  have HO1 := Lib.hid (ho1.base_le HU0.out.size)
  have HU1 := Lib.hid hu1
  clear ho1 hu1
  rw [Int.toNat_natCast] at HO1
  have h8 := nb_le8 l.length (by omega)
  have hel := encNum_len l.length
  have hen : (b ++ encNum l.length).length = b.length + (1 + nb l.length) := by rw [List.length_append, hel]
  have HFIN : Hid (b ++ encList l = (b ++ encNum l.length) ++ (l.take l.length).flatMap (fun x => encNum x.toNat)) := by unfold Hid encList; rw [List.take_length, List.append_assoc]
  generalize b ++ encNum l.length = l1 at *
  clear hel
  go_wp2_with fail
  go_loopw [6, 7] (fun o i wr => ∃ (k : Nat) (c : List UInt8), i = .int .i64 (k : Int) ∧ k ≤ l.length ∧ c = l1 ++ (l.take k).flatMap (fun x => encNum x.toNat) ∧ c.length ≤ b.length + 9 + 9 * k ∧ Hid (Own bv w.heap.size 5 wr o c) ∧ Hid (Upd [] w0 wr)) (fun _ i _ => l.length - (intOf i).toNat)
  case atStart => exact ⟨0, l1, rfl, Nat.zero_le _, by simp, by omega, HO1, HU1⟩
  case round =>
    obtain ⟨k, c, rfl, hk, hce, hcl, hob, hu⟩ := hrel
    have HCE := Lib.hid hce
    have d5 := hu.out.cell c5 (by simp)
    clear hce
    by_cases hlt : k < l.length
    · obtain ⟨b0, off, rfl, hc⟩ := HCL.out (by intro e; rw [e] at hlt; simp at hlt)
      have hck := (HU0.out.seq hu.out).cell (hc k hlt) (by simp)
      have hin := HI.out (nth l k) (by rw [nth_get l k hlt]; exact List.getElem_mem hlt)
      have HST : Hid (c ++ encNum (nth l k).toNat = l1 ++ (l.take (k + 1)).flatMap (fun x => encNum x.toNat)) := by
        unfold Hid; rw [HCE.out, List.take_succ_eq_append_getElem hlt, List.flatMap_append, nth_get l k hlt]; simp
      have h8k := nb_le8 (nth l k).toNat (by have := hin.2; omega)
      have hel2 := encNum_len (nth l k).toNat
      have hcl2 : (c ++ encNum (nth l k).toNat).length = c.length + (1 + nb (nth l k).toNat) := by rw [List.length_append, hel2]
      generalize nth l k = x at *
      clear hc hel2
      have HIN := Lib.hid hin
      clear hin
      go_wp2_with fail
      with_reducible refine (dNumW_any _ c x _ hob.out.rd (by omega) HIN.out).mono ?_
      rintro e w2 ⟨v2, rfl, ho2, hu2⟩
      have HO2 := Lib.hid (ho2.base_le (HU0.out.seq hu.out).size)
      have HU2 := Lib.hid (hu.out.seq hu2)
      clear ho2 hu2
      go_wp2_with fail
      go_roundw
      case rel => exact ⟨k + 1, _, by go_num, by omega, HST.out, by omega, HO2, HU2⟩
      case measure => simp [intOf]; omega
    · obtain rfl : k = l.length := by omega
      have HF : Hid (c = b ++ encList l) := by unfold Hid; rw [HFIN.out, HCE.out]
      go_wp2_with fail
      with_reducible refine (fList_any _ _ b l _ (H.out.upd0 (HU0.out.seq hu.out)) (HLI.out.upd0 (HU0.out.seq hu.out)) HI.out (by omega) (by omega)).mono ?_
      rintro e w2 ⟨v2, rfl, ho2, hu2⟩
      have HO2 := Lib.hid (ho2.base_le (HU0.out.seq hu.out).size)
      have HO3 := Lib.hid (hob.out.upd hu2 (by simp))
      have HU2 := Lib.hid ((HU0.out.seq hu.out).seq hu2)
      clear ho2 hu2
      go_wp2_with fail
      go_ret2
      exact ⟨_, _, rfl, HO2.out, by rw [← HF.out]; exact HO3.out, HU2.out⟩
set_option maxHeartbeats 2000000 in
theorem put0_any (w : World) (v : Value) (b : List UInt8) (h : Bytes w v b) (hz : b.length ≤ 40000000000) (kd n mo : Int) (s : ByteArray) (f : Bool) (lv : Sl) (h1 : kd ≠ 1) (h2 : kd ≠ 2) (h3 : kd ≠ 3) (h4 : kd ≠ 4) (h5 : kd ≠ 5) :
    Calls Try.prog 38 #[v, .agg #[.int .i64 kd, .int .i64 n, .int .i64 mo, .string s, .bool f, slv lv]] w fun e w' => PutSaid w b e w' := by
  obtain ⟨la, ln, lk⟩ := lv
  dsimp only [slv]
  have e1 : (kd == 1) = false := beq_eq_false_iff_ne.2 h1
  have e2 : (kd == 2) = false := beq_eq_false_iff_ne.2 h2
  have e3 : (kd == 3) = false := beq_eq_false_iff_ne.2 h3
  have e4 : (kd == 4) = false := beq_eq_false_iff_ne.2 h4
  have e5 : (kd == 5) = false := beq_eq_false_iff_ne.2 h5
  clear h1 h2 h3 h4 h5
  obtain ⟨va, vk, rfl⟩ : ∃ va vk, v = .slice va b.length vk := by obtain ⟨a, k, h, -⟩ := h; exact ⟨a, k, h⟩
  have H := Lib.hid h
  go_enter Try.func38, Try.ntmps38
  go_wp2_with (first
    | (at_builtin; refine wpList_app bv_one rfl (.tmp 67) (.tmp 68) rfl Try.underlying22 infoByte rfl (.slice (some ⟨w.heap.size + 1, 0, none⟩) 0 0) (.slice va b.length vk) [] b rfl rfl (Own.room (base := w.heap.size) (by simp) (by simp) rfl (Nat.zero_le _)) ((H.out.alloc _).alloc _) (by simp; omega) (by unfold maxLen; simp; omega) (by simp; omega) ?_; intro v1 w1 ho hu hbk; rw [List.nil_append] at ho; have HU1 : Hid (Upd [] w w1) := (((Upd.refl [] w).alloc _).alloc _).trans hu (by simp) (by simp [blk]); have HO1 := Lib.hid ho; have hs1 := HU1.out.size; clear ho hu hbk)
    | (at_builtin; refine wpList_app bv_one rfl (.tmp 70) (.tmp 71) rfl Try.underlying22 infoByte rfl (.slice (some ⟨w1.heap.size, 0, none⟩) 0 0) (.slice va b.length vk) [] b rfl rfl (Own.room (base := w1.heap.size) (Nat.le_refl _) rfl rfl (Nat.zero_le _)) ((H.out.upd0 HU1.out).alloc _) (by simp; omega) (by unfold maxLen; simp; omega) (by simp) ?_; intro v2 w2 ho hu hbk; rw [List.nil_append] at ho; have HU12 : Hid (Upd [] w1 w2) := ((Upd.refl [] w1).alloc _).trans hu (by simp) (by simp [blk]); have HO2 := Lib.hid (ho.base_le hs1); have HO3 := Lib.hid (HO1.out.upd HU12.out (by simp)); clear ho hu hbk))
  go_ret2
  exact ⟨_, _, rfl, HO3.out, HO2.out, HU1.out.seq HU12.out⟩
end Go.Proofs.Ythnmlifnlmdelaa
