/- The walk of DiskRuns. -/
import Derived.Test.YtmhdhnipljonlaaDiskAppend
import Derived.Test.YtmhdhnipljonlaaBookStr
namespace Go.Proofs.Ytmhdhnipljonlaa
open Go.RowKit
set_option linter.unusedSimpArgs false
set_option linter.unusedVariables false
abbrev nA : ByteArray := ⟨#[97]⟩
abbrev nB : ByteArray := ⟨#[98]⟩
abbrev nC : ByteArray := ⟨#[99]⟩
abbrev nQ : ByteArray := ⟨#[113]⟩
def z33 : List UInt8 := List.replicate 33 0
def qs1 : DS := (dAppend ⟨[], [], []⟩ nA z33).2
def qs2 : DS := (dRename qs1 nA nB).2
def qs3 : DS := dBack qs2 2
def qs4 : DS := dMark qs3
def qs5 : DS := (dAppend qs4 nA []).2
def qs6 : DS := (dAppend qs5 nC []).2
theorem i64_d (x : Int) (h1 : -9223372036854775808 ≤ x) (h2 : x ≤ 9223372036854775807) : I64 x := ⟨h1, h2⟩
theorem sameStr_yes (v u : Value) (l : List ByteArray) (w : World) (h : Rd sv w v l) (h2 : Rd sv w u l) :
    Calls Try.prog 34 #[v, u] w fun e w' => e = .returned (.bool true) ∧ Upd [] w w' :=
  (sameStr_ok v u l w h h2).mono fun e w' ⟨h1, n, h2⟩ => ⟨h1, by rw [h2]; exact (Upd.refl [] w).drewN n⟩
theorem DOut.dd {w0 w w' : World} {gd : Nat} {G : List Nat} {s : DS} (h : DOut w0 w gd G s w') : ∃ G', DD w0 w' gd G' s ∧ Upd G w w' ∧ (∀ x ∈ G', x ∈ G ∨ w.heap.size ≤ x) := h
set_option maxRecDepth 100000 in
set_option maxHeartbeats 4000000 in
theorem diskRuns_any (w : World) : Calls Try.prog 6 #[] w fun e w' => e = .returned (.bool true) ∧ Upd [] w w' := by
  go_enter Try.func6, Try.ntmps6
  go_wp2_with fail
  (with_reducible refine (dNew_any w w (Upd.refl [] w)).mono ?_)
  rintro e w1 ⟨gd, G1, rfl, h1, hu1, hf1⟩
  have H1 := Lib.hid h1
  have HU1 := Lib.hid hu1
  clear h1 hu1 hf1
  have hmk : ∀ u : World, (Instr.makeSlice 27 (.int .i64 33) (.int .i64 33)).run Try.prog u = .ok (.slice (some ⟨u.heap.size, 0, none⟩) 33 33) (u.alloc (.cells (List.replicate 33 (.int .u8 0)).toArray 5)) := fun u => run_mk (P := Try.prog) Try.underlying27 infoB8 rfl u 33 33 _ _ rfl rfl (by omega) (by omega) (by omega)
  go_wp2_with fail
  have hua : Upd [] w1 (w1.alloc (.cells #[.int .u8 0, .int .u8 0, .int .u8 0, .int .u8 0, .int .u8 0, .int .u8 0, .int .u8 0, .int .u8 0, .int .u8 0, .int .u8 0, .int .u8 0, .int .u8 0, .int .u8 0, .int .u8 0, .int .u8 0, .int .u8 0, .int .u8 0, .int .u8 0, .int .u8 0, .int .u8 0, .int .u8 0, .int .u8 0, .int .u8 0, .int .u8 0, .int .u8 0, .int .u8 0, .int .u8 0, .int .u8 0, .int .u8 0, .int .u8 0, .int .u8 0, .int .u8 0, .int .u8 0] 5)) := (Upd.refl [] w1).alloc _
  have HB : Hid (Bytes (w1.alloc (.cells #[.int .u8 0, .int .u8 0, .int .u8 0, .int .u8 0, .int .u8 0, .int .u8 0, .int .u8 0, .int .u8 0, .int .u8 0, .int .u8 0, .int .u8 0, .int .u8 0, .int .u8 0, .int .u8 0, .int .u8 0, .int .u8 0, .int .u8 0, .int .u8 0, .int .u8 0, .int .u8 0, .int .u8 0, .int .u8 0, .int .u8 0, .int .u8 0, .int .u8 0, .int .u8 0, .int .u8 0, .int .u8 0, .int .u8 0, .int .u8 0, .int .u8 0, .int .u8 0, .int .u8 0] 5)) (.slice (some ⟨w1.heap.size, 0, none⟩) 33 33) z33) := Rd.lit z33 rfl rfl rfl (Nat.le_refl _) (by decide)
  have HD := Lib.hid (H1.out.upd0 hua)
  have HNG : Hid (∀ x ∈ blk (.slice (some ⟨w1.heap.size, 0, none⟩) 33 33), x ∉ G1) := fun x hx hg => by simp [blk] at hx; have := (H1.out.ge x hg).2; omega
  clear hua hmk
  generalize w1.alloc (.cells #[.int .u8 0, .int .u8 0, .int .u8 0, .int .u8 0, .int .u8 0, .int .u8 0, .int .u8 0, .int .u8 0, .int .u8 0, .int .u8 0, .int .u8 0, .int .u8 0, .int .u8 0, .int .u8 0, .int .u8 0, .int .u8 0, .int .u8 0, .int .u8 0, .int .u8 0, .int .u8 0, .int .u8 0, .int .u8 0, .int .u8 0, .int .u8 0, .int .u8 0, .int .u8 0, .int .u8 0, .int .u8 0, .int .u8 0, .int .u8 0, .int .u8 0, .int .u8 0, .int .u8 0] 5) = w2 at *
  (with_reducible refine (dAppend_any nA _ z33 HB.out (fun _ => HNG.out) HD.out (by decide) (by decide) (by decide)).mono ?_)
  rintro e w3 ⟨rfl, ho⟩
  rw [show (dAppend ⟨[], [], []⟩ nA z33).1 = 0 by kernel_rfl]
  obtain ⟨G3, h3, -, -⟩ := DOut.dd (s := qs1) ho
  have H3 := Lib.hid h3
  clear ho h3 HB HNG HD H1
  go_wp2_with fail
  (with_reducible refine (dCount_any H3.out).mono ?_)
  rw [show (qs1.log.length : Int) = 3 by kernel_rfl]
  rintro e w4 ⟨rfl, rfl⟩
  go_wp2_with fail
  (with_reducible refine (dRename_any nA nB H3.out (Nat.le_of_ble_eq_true (by kernel_rfl)) (Nat.le_of_ble_eq_true (by kernel_rfl))).mono ?_)
  rintro e w4 ⟨rfl, ho⟩
  rw [show (dRename qs1 nA nB).1 = 0 by kernel_rfl]
  obtain ⟨G4, h4, -, -⟩ := DOut.dd (s := qs2) ho
  have H4 := Lib.hid h4
  clear ho h4 H3
  go_wp2_with fail
  (with_reducible refine (dBack_any 2 (i64_d _ (by omega) (by omega)) H4.out (Nat.le_of_ble_eq_true (by kernel_rfl))).mono ?_)
  rintro e w5 ⟨rfl, ho⟩
  obtain ⟨G5, h5, -, -⟩ := DOut.dd (s := qs3) ho
  have H5 := Lib.hid h5
  clear ho h5 H4
  go_wp2_with fail
  (with_reducible refine (dRead_any nA H5.out (Nat.le_of_ble_eq_true (by kernel_rfl))).mono ?_)
  rw [show dGet qs3.now nA = (List.replicate 32 0, true) by kernel_rfl]
  rintro e w6 ⟨v6, rfl, ho6, hu6⟩
  obtain ⟨a6, k6, rfl, -⟩ := ho6.rd
  have H6 := Lib.hid (H5.out.upd0 hu6)
  clear ho6 hu6 H5
  rw [show (List.replicate 32 (0 : UInt8)).length = 32 by rfl]
  go_wp2_with fail
  (with_reducible refine (dNames_any H6.out (Nat.le_of_ble_eq_true (by kernel_rfl))).mono ?_)
  rw [show qs3.now.map (·.1) = [nA] by kernel_rfl]
  rintro e w7 ⟨v7, rfl, ho7, hu7⟩
  have hua : Upd [] w7 (w7.alloc (.cells #[.string ⟨#[97]⟩] 9)) := (Upd.refl [] w7).alloc _
  have H7 := Lib.hid ((H6.out.upd0 hu7).upd0 hua)
  have HA7 := Lib.hid ((ho7.upd hua (by simp)).rd)
  have HB7 : Hid (Rd sv (w7.alloc (.cells #[.string ⟨#[97]⟩] 9)) (.slice (some ⟨w7.heap.size, 0, none⟩) 1 1) [nA]) := Rd.lit [nA] rfl rfl rfl (Nat.le_refl _) (by decide)
  obtain ⟨a7, k7, rfl, -⟩ := ho7.rd
  rw [show [nA].length = 1 by rfl] at HA7
  clear ho7 hu7 H6 hua
  go_wp2_with fail
  (with_reducible refine (sameStr_yes _ _ [nA] _ HA7.out HB7.out).mono ?_)
  rintro e w8 ⟨rfl, hu8⟩
  have H8 := Lib.hid (H7.out.upd0 hu8)
  clear HA7 HB7 H7 hu8
  go_wp2_with fail
  (with_reducible refine (dCount_any H8.out).mono ?_)
  rw [show (qs3.log.length : Int) = 0 by kernel_rfl]
  rintro e w9 ⟨rfl, rfl⟩
  go_wp2_with fail
  (with_reducible refine (dMark_any H8.out (Nat.le_of_ble_eq_true (by kernel_rfl))).mono ?_)
  rintro e w9 ⟨rfl, ho⟩
  obtain ⟨G9, h9, -, -⟩ := DOut.dd (s := qs4) ho
  have H9 := Lib.hid h9
  clear ho h9 H8
  go_wp2_with fail
  (with_reducible refine (dAppend_any nA _ [] (Rd.nil _) (fun h => absurd rfl h) H9.out (by decide) (Nat.le_of_ble_eq_true (by kernel_rfl)) (Nat.le_of_ble_eq_true (by kernel_rfl))).mono ?_)
  rintro e w10 ⟨rfl, ho⟩
  rw [show (dAppend qs4 nA []).1 = 0 by kernel_rfl]
  obtain ⟨G10, h10, -, -⟩ := DOut.dd (s := qs5) ho
  have H10 := Lib.hid h10
  clear ho h10 H9
  go_wp2_with fail
  (with_reducible refine (dAppend_any nC _ [] (Rd.nil _) (fun h => absurd rfl h) H10.out (by decide) (Nat.le_of_ble_eq_true (by kernel_rfl)) (Nat.le_of_ble_eq_true (by kernel_rfl))).mono ?_)
  rintro e w11 ⟨rfl, ho⟩
  rw [show (dAppend qs5 nC []).1 = 0 by kernel_rfl]
  obtain ⟨G11, h11, -, -⟩ := DOut.dd (s := qs6) ho
  have H11 := Lib.hid h11
  clear ho h11 H10
  go_wp2_with fail
  (with_reducible refine (dCount_any H11.out).mono ?_)
  rw [show (qs6.log.length : Int) = 1 by kernel_rfl]
  rintro e w12 ⟨rfl, rfl⟩
  go_wp2_with fail
  (with_reducible refine (dCut_any nA 99 (i64_d _ (by omega) (by omega)) H11.out (Nat.le_of_ble_eq_true (by kernel_rfl)) (Nat.le_of_ble_eq_true (by kernel_rfl))).mono ?_)
  rintro e w12 ⟨rfl, ho⟩
  rw [show (dCut qs6 nA 99).1 = 1 by kernel_rfl]
  rw [show (dCut qs6 nA 99).2 = qs6 by kernel_rfl] at ho
  obtain ⟨G12, h12, -, -⟩ := DOut.dd ho
  have H12 := Lib.hid h12
  clear ho h12 H11
  go_wp2_with fail
  (with_reducible refine (dRemove_any nQ H12.out (Nat.le_of_ble_eq_true (by kernel_rfl)) (Nat.le_of_ble_eq_true (by kernel_rfl))).mono ?_)
  rintro e w13 ⟨rfl, ho⟩
  rw [show (dRemove qs6 nQ).1 = 7 by kernel_rfl]
  obtain ⟨G13, h13, -, -⟩ := DOut.dd ho
  have HO := Lib.hid h13.old
  clear ho h13 H12
  go_wp2_with fail
  go_ret
  exact ⟨rfl, HO.out⟩
end Go.Proofs.Ytmhdhnipljonlaa
