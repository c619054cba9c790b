/- Chapter 21: Taken and Read. -/
import Derived.Test.YtmhdhnipljonlaaYardCut
import Derived.Deep.RegionHeld3
import Derived.Test.YtmhdhnipljonlaaSliceCut
namespace Go.Proofs.Ytmhdhnipljonlaa
open Go.RowKit
set_option linter.unusedSimpArgs false
set_option linter.unusedVariables false
/-- What Read answers, and what is taken behind it. -/
def yRead (fl : FL) (tk : List (Int × Int)) (ino a n : Int) : (List UInt8 × Int) × List (Int × Int) :=
  if isIn ltY fl ino then
    (if a < 0 ∨ n < 0 then (([], 1), tk)
     else ((((nth fl (below ltY fl ino)).2.2.drop a.toNat).take n.toNat, 0), tSet ltY tk ino ((tGet ltY 0 tk ino).1 + ((((nth fl (below ltY fl ino)).2.2.drop a.toNat).take n.toNat).length : Int))))
  else (([], 7), tk)
/-- A yard under way in Read. -/
structure YR (w0 w W : World) (gy gf gt : Nat) (F T : List Nat) (cs : CL) (tk : List (Int × Int)) : Prop where
  ex : ∃ T', YC w0 W gy gf gt F T' cs tk ∧ (∀ y ∈ T', y ∈ foot gy F T cs ∨ w.heap.size ≤ y)
  up : Upd (foot gy F T cs) w W
section
variable {w0 w W W' : World} {gy gf gt : Nat} {F T : List Nat} {cs : CL} {tk : List (Int × Int)}
theorem YR.upd0 (h : YR w0 w W gy gf gt F T cs tk) (hu : Upd [] W W') : YR w0 w W' gy gf gt F T cs tk := by
  obtain ⟨T', hc, hf⟩ := h.ex
  exact ⟨⟨T', hc.upd0 hu, hf⟩, h.up.trans hu (fun _ hx => hx) (by simp)⟩
theorem YR.p1 (h : YR w0 w W gy gf gt F T cs tk) : W.cell? ⟨gy, 1, none⟩ = some (.pointer (some ⟨gt, 0, none⟩)) := by
  obtain ⟨T', hc, hf⟩ := h.ex
  exact hc.p1
theorem YR.first (h : YC w0 w gy gf gt F T cs tk) : YR w0 w w gy gf gt F T cs tk := ⟨⟨T, h, fun y hy => .inl (foot_T hy)⟩, Upd.refl _ _⟩
set_option maxRecDepth 20000 in
set_option maxHeartbeats 400000 in
theorem yTaken_any (k v : Int) (r : Bool) (h : YC w0 w gy gf gt F T cs tk) (hlen : tk.length ≤ 100000) (hk : I64 k) (hv : tGet ltIJ (0 : Int) tk k = (v, r)) :
    Calls Try.prog 22 #[.pointer (some ⟨gy, 0, none⟩), iv k] w fun e w' => e = .returned (iv v) ∧ Upd [] w w' := by
  have HC := Lib.hid h
  have y1 := h.p1
  have HK := Lib.hid hk
  have HV := Lib.hid hv
  clear h hk hv
  go_enter Try.func22, Try.ntmps22
  go_wp2_with fail
  (with_reducible refine (txIJ_Get k v r HC.out.taken hlen HK.out HV.out).mono ?_)
  rintro e w1 ⟨rfl, hu1⟩
  go_wp2_with fail
  go_ret
  exact ⟨rfl, hu1⟩
theorem yrTaken (k v : Int) (r : Bool) (h : YR w0 w W gy gf gt F T cs tk) (hlen : tk.length ≤ 100000) (hk : I64 k) (hv : tGet ltIJ (0 : Int) tk k = (v, r)) :
    Calls Try.prog 22 #[.pointer (some ⟨gy, 0, none⟩), iv k] W fun e w' => e = .returned (iv v) ∧ YR w0 w w' gy gf gt F T cs tk := by
  obtain ⟨T', hc, hf⟩ := h.ex
  refine (yTaken_any k v r hc hlen hk hv).mono ?_
  rintro e w' ⟨he, hu⟩
  exact ⟨he, h.upd0 hu⟩
theorem yrSet (k y : Int) (tk' : List (Int × Int)) (h : YR w0 w W gy gf gt F T cs tk) (hlen : tk.length ≤ 100000) (hk : I64 k) (hv : tSet ltIJ tk k y = tk') :
    Calls Try.prog 56 #[.pointer (some ⟨gt, 0, none⟩), iv k, iv y] W fun e w' => (∃ r, e = .returned (.bool r)) ∧ YR w0 w w' gy gf gt F T cs tk' := by
  obtain ⟨T', hc, hf⟩ := h.ex
  refine (txIJ_Set k y _ tk' hc.taken hlen hk rfl hv).mono ?_
  rintro e w' ⟨rfl, T2, ht, hu, hfr⟩
  refine ⟨⟨_, rfl⟩, ⟨T2, hc.setTaken ht hu, fun y hy => ?_⟩, h.up.trans hu (fun _ hx => hx) (fun y hy => hf y hy)⟩
  rcases hfr y hy with q | q
  · exact hf y q
  · exact .inr (by have := h.up.size; omega)
end
section
variable {w0 w : World} {gy : Nat} {G : List Nat} {fl : FL} {tk : List (Int × Int)}
def YReads (w0 w : World) (gy : Nat) (G : List Nat) (fl : FL) (r : (List UInt8 × Int) × List (Int × Int)) (e : Ending) (w' : World) : Prop :=
  ∃ v, e = .returned (.tuple #[v, .int .i64 r.1.2]) ∧ Own bv w.heap.size 5 w' v r.1.1 ∧ YOut w0 w gy G fl r.2 w' ∧ (∀ G', YD w0 w' gy G' fl r.2 → Ap (blk v) G')
set_option maxRecDepth 20000 in
set_option maxHeartbeats 1000000 in
theorem yRead_any (ino a n : Int) (hi : I64 ino) (ha : I64 a) (hn : I64 n) (h : YD w0 w gy G fl tk) (htl : tk.length ≤ 50000) (htk : ∀ p ∈ tk, 0 ≤ p.2 ∧ p.2 ≤ 1000000000000) :
    Calls Try.prog 21 #[.pointer (some ⟨gy, 0, none⟩), iv ino, .int .i64 a, .int .i64 n] w fun e w' => ∃ v, e = .returned (.tuple #[v, .int .i64 (yRead fl tk ino a n).1.2]) ∧ Own bv w.heap.size 5 w' v (yRead fl tk ino a n).1.1 ∧ ∃ G', YD w0 w' gy G' fl (yRead fl tk ino a n).2 ∧ Upd G w w' ∧ (∀ x ∈ G', x ∈ G ∨ w.heap.size ≤ x) ∧ Ap (blk v) G' := by
  obtain ⟨gf, gt, F, T, cs, hc, rfl, hlen, hin, rfl⟩ := h.ex
  have HC := Lib.hid hc
  have HIN := Lib.hid hin
  have HD := Lib.hid h
  have HRL : Hid ((rowsOf cs).length ≤ 100000) := by unfold Hid; rw [rows_len]; omega
  have HI := Lib.hid hi
  have y0 := hc.p0
  cases hh : isIn ltY cs ino with
  | false =>
    have HY : Hid (yRead (filesOf cs) tk ino a n = (([], 7), tk)) := by unfold Hid yRead; rw [mapY_isIn, hh]; rfl
    have HV : Hid (tGet ltIF zF (rowsOf cs) ino = (zF, false)) := by
      unfold Hid tGet
      have : isIn ltIF (rowsOf cs) ino = false := (mapY_isIn (·.1) cs ino).trans hh
      rw [this]; rfl
    clear hc h hin hh hi ha hn htk
    go_enter Try.func21, Try.ntmps21
    go_wp2_with fail
    (with_reducible refine (txIF_Get ino zF false HC.out.files HRL.out HI.out HV.out).mono ?_)
    rintro e w1 ⟨rfl, hu1⟩
    have HU1 := Lib.hid (hu1.alloc (.cells #[.string ⟨#[]⟩, .slice none 0 0] 91))
    clear hu1
    go_wp2_with fail
    go_ret2
    refine ⟨.slice none 0 0, by rw [HY.out]; rfl, by rw [HY.out]; exact World.ownsRow_nil _ _ _ _, ?_⟩
    rw [HY.out]
    obtain ⟨G', h1, h2, h3⟩ := HD.out.out0 HU1.out
    exact ⟨G', h1, h2, h3, Ap.nil⟩
  | true =>
    obtain ⟨c0, hc0, hk0, hn0⟩ : ∃ c0, c0 ∈ cs ∧ c0.1 = ino ∧ nth cs (below ltY cs ino) = c0 := by
      unfold isIn at hh
      obtain ⟨h1, h2⟩ := of_decide_eq_true hh
      exact ⟨_, nth_mem _ h1, h2, rfl⟩
    have HV : Hid (tGet ltIF zF (rowsOf cs) ino = (c0.2.1, true)) := by
      unfold Hid tGet
      have h1 : isIn ltIF (rowsOf cs) ino = true := (mapY_isIn (·.1) cs ino).trans hh
      have h2 : below ltIF (rowsOf cs) ino = below ltY cs ino := mapY_below (·.1) cs ino
      rw [h1, h2, if_pos rfl, nth_rows cs _ (by unfold isIn at hh; exact (of_decide_eq_true hh).1), hn0]
    have HYB : Hid ((nth (filesOf cs) (below ltY (filesOf cs) ino)).2.2 = c0.2.2) := by
      unfold Hid
      rw [mapY_below, nth_files cs _ (by unfold isIn at hh; exact (of_decide_eq_true hh).1), hn0]
    have hb := (hin _ hc0).2.2
    have ho := hc.own _ hc0
    have HM0 := Lib.hid hc0
    obtain ⟨x, ⟨nm, sl⟩, bs⟩ := c0
    have hk0 : x = ino := hk0
    subst hk0
    have HO : Hid (Own bv w0.heap.size 5 w (slv sl) bs) := ho
    have hsn : sl.n = bs.length := by
      rcases ho.2 with ⟨he, h0⟩ | ⟨g', cap', cur, he, -⟩
      · injection he with e1 e2 e3; rw [e2]; exact h0.symm
      · injection he with e1 e2 e3
    obtain ⟨sa, sn, sk⟩ := sl
    have hsn : sn = bs.length := hsn
    subst hsn
    have hbl : bs.length ≤ 65536 := hb
    have HYB : Hid ((nth (filesOf cs) (below ltY (filesOf cs) x)).2.2 = bs) := HYB
    have HV : Hid (tGet ltIF zF (rowsOf cs) x = ((nm, (⟨sa, bs.length, sk⟩ : Sl)), true)) := HV
    by_cases hbad : a < 0 ∨ n < 0
    · have HY : Hid (yRead (filesOf cs) tk x a n = (([], 1), tk)) := by unfold Hid yRead; rw [mapY_isIn, hh, if_pos rfl, if_pos hbad]
      have hd : a < 0 ∨ (¬ a < 0 ∧ n < 0) := by omega
      clear hc h hin hh hi ha hn htk ho hb hc0 hn0 hbad
      rcases hd with hd | ⟨hd, hd2⟩
      all_goals
        go_enter Try.func21, Try.ntmps21
        go_wp2_with fail
        (with_reducible refine (txIF_Get x _ true HC.out.files HRL.out HI.out HV.out).mono ?_)
        rintro e w1 ⟨rfl, hu1⟩
        have HU1 := Lib.hid (hu1.alloc (.cells #[sv nm, .slice sa bs.length sk] 91))
        clear hu1
        go_wp2_with fail
        go_ret2
        refine ⟨.slice none 0 0, by rw [HY.out]; rfl, by rw [HY.out]; exact World.ownsRow_nil _ _ _ _, ?_⟩
        rw [HY.out]
        obtain ⟨G', h1, h2, h3⟩ := HD.out.out0 HU1.out
        exact ⟨G', h1, h2, h3, Ap.nil⟩
    · obtain ⟨A, rfl⟩ := Int.eq_ofNat_of_zero_le (show 0 ≤ a by omega)
      obtain ⟨N, rfl⟩ := Int.eq_ofNat_of_zero_le (show 0 ≤ n by omega)
      have hsk : bs.length ≤ sk := by
        obtain ⟨a', c', he, h1, -⟩ := HO.out.rd
        injection he with e1 e2 e3
        have e3 : sk = c' := e3
        omega
      have hskm : sk ≤ 9223372036854775807 := by
        obtain ⟨a', c', he, -, h1, -⟩ := HO.out.rd
        injection he with e1 e2 e3
        have e3 : sk = c' := e3
        unfold maxLen at h1; omega
      obtain ⟨K, hK⟩ : ∃ K, (K = A ∧ A ≤ bs.length) ∨ (K = bs.length ∧ bs.length < A) := by
        by_cases q : A ≤ bs.length
        · exact ⟨A, .inl ⟨rfl, q⟩⟩
        · exact ⟨bs.length, .inr ⟨rfl, by omega⟩⟩
      have hKl : K ≤ bs.length := by omega
      obtain ⟨M, hM⟩ : ∃ M, (M = N ∧ N ≤ bs.length - K) ∨ (M = bs.length - K ∧ bs.length - K < N) := by
        by_cases q : N ≤ bs.length - K
        · exact ⟨N, .inl ⟨rfl, q⟩⟩
        · exact ⟨bs.length - K, .inr ⟨rfl, by omega⟩⟩
      have hMl : M ≤ bs.length - K := by omega
      have hr : (bs.drop A).take N = (bs.drop K).take M := by
        rcases hK with ⟨rfl, -⟩ | ⟨rfl, h1⟩
        · rcases hM with ⟨rfl, -⟩ | ⟨rfl, h2⟩
          · rfl
          · rw [List.take_of_length_le (by rw [List.length_drop]; omega), List.take_of_length_le (by rw [List.length_drop]; omega)]
        · rw [List.drop_eq_nil_of_le (by omega), List.drop_length]; simp
      have hrl : ((bs.drop K).take M).length = M := by rw [List.length_take, List.length_drop]; omega
      obtain ⟨v, r0, hv⟩ : ∃ v r0, tGet ltIJ (0 : Int) tk x = (v, r0) := ⟨_, _, rfl⟩
      have hv0 : 0 ≤ v ∧ v ≤ 1000000000000 := by
        unfold tGet at hv
        split at hv
        · rename_i hq
          injection hv with h1 h2
          rw [← h1]
          unfold isIn at hq
          exact htk _ (nth_mem _ (of_decide_eq_true hq).1)
        · injection hv with h1 h2
          rw [← h1]; omega
      obtain ⟨hv1, hv2⟩ := hv0
      obtain ⟨tk2, htk2⟩ : ∃ tk2, tSet ltIJ tk x (v + (M : Int)) = tk2 := ⟨_, rfl⟩
      have HY : Hid (yRead (filesOf cs) tk x (A : Int) (N : Int) = (((bs.drop K).take M, 0), tk2)) := by
        unfold Hid yRead
        rw [mapY_isIn, hh, if_pos rfl, if_neg hbad, HYB.out]
        simp only [Int.toNat_natCast]
        rw [hr, hrl]
        have e1 : (tGet ltY 0 tk x).1 = v := by rw [show tGet ltY 0 tk x = (v, r0) from hv]
        rw [e1]
        exact congrArg (fun z => (((bs.drop K).take M, (0 : Int)), z)) htk2
      have HVT := Lib.hid hv
      have HTK := Lib.hid htk2
      have HTL : Hid (tk.length ≤ 100000) := by unfold Hid; omega
      have hwr : IntKind.i64.wrap (v + (M : Int)) = v + (M : Int) := by rw [IntKind.wrap_i64]; omega
      have HO0 := Lib.hid (show ∀ W, Own bv w0.heap.size 5 W (.slice sa bs.length sk) bs → Bytes W (.slice (if sk = K then sa else sa.map (·.add K)) M (sk - K)) ((bs.drop K).take M) from fun W hW => (hW.rd.drop K hKl).take M (by rw [List.length_drop]; omega))
      have HRL2 := Lib.hid hrl
      obtain ⟨D, hD, hcut1⟩ : ∃ D : Option Addr, D = (if sk = K then sa else sa.map (·.add K)) ∧ ∀ W, (Instr.slice 27 (.slice sa bs.length sk) (some (.int .i64 (K : Int))) none none).run Try.prog W = .ok (.slice D (bs.length - K) (sk - K)) W :=
        ⟨_, rfl, fun W => by have h := run_cut (P := Try.prog) (size := 1) Try.underlying27 (by kernel_rfl) sa bs.length sk K hKl W; simpa using h⟩
      have hcut2 : ∀ W, (Instr.slice 27 (.slice D (bs.length - K) (sk - K)) none (some (.int .i64 (M : Int))) none).run Try.prog W = .ok (.slice D M (sk - K)) W := fun W => run_cut_h (P := Try.prog) (size := 1) Try.underlying27 (by kernel_rfl) D (bs.length - K) (sk - K) M (by omega) W
      rw [← hD] at HO0
      generalize (bs.drop K).take M = r at *
      have q1 : ¬ (A : Int) < 0 := by omega
      have q2 : ¬ (N : Int) < 0 := by omega
      have q3 : (0 : Int) ≤ A := by omega
      have q4 : (0 : Int) ≤ N := by omega
      clear hc h hin ho hb hc0 hn0 hbad hr hD hv htk2 htk hrl hi hh
      rcases hK with ⟨rfl, hK⟩ | ⟨rfl, hK⟩ <;> rcases hM with ⟨rfl, hM⟩ | ⟨rfl, hM⟩
      all_goals
        go_enter Try.func21, Try.ntmps21
        go_wp2_with fail
        (with_reducible refine (txIF_Get x _ true HC.out.files HRL.out HI.out HV.out).mono ?_)
        rintro e w1 ⟨rfl, hu1⟩
        have HU1 := Lib.hid (hu1.alloc (.cells #[sv nm, .slice sa bs.length sk] 91))
        clear hu1
      · have ra := (YR.first HC.out).upd0 HU1.out
        go_wp2_with fail
        generalize w1.alloc (.cells #[sv nm, .slice sa bs.length sk] 91) = wB at *
        have y1 := ra.p1
        go_region_held3 (fun w' => w'.cell? ⟨gy, 1, none⟩ = some (.pointer (some ⟨gt, 0, none⟩))) (first | go_keep | exact ra.p1)
          (first
            | (go_at_call 22; (with_reducible refine (yrTaken x v r0 (YR.upd0 ra ?_) HTL.out HI.out HVT.out).mono ?_); (repeat (first | exact Upd.refl _ _ | apply Upd.drew | apply Upd.drewN | apply Upd.alloc)); (rintro _ W ⟨rfl, ra⟩; dsimp only))
            | (go_at_call 56; (with_reducible refine (yrSet x (v + ((M : Nat) : Int)) tk2 (YR.upd0 ra ?_) HTL.out HI.out HTK.out).mono ?_); (repeat (first | exact Upd.refl _ _ | apply Upd.drew | apply Upd.drewN | apply Upd.alloc)); (rintro _ W ⟨⟨r5, rfl⟩, ra⟩; dsimp only)))
        all_goals
          have RA := Lib.hid ra
          obtain ⟨T', hcW, hfT⟩ := ra.ex
          have HCW := Lib.hid hcW
          have HFT := Lib.hid hfT
          have HOW := Lib.hid (HO0.out _ (hcW.own _ HM0.out))
          have hrM := HRL2.out
          have HAPP := Lib.hid (fun ty => run_app (P := Try.prog) (ty := ty) (base := W.heap.size) bv_one Try.underlying27 infoByte rfl (.slice none 0 0) _ [] r (World.ownsRow_nil _ _ _ _) HOW.out (by simp; omega) (by unfold maxLen; simp; omega) (Nat.le_refl _))
          clear ra hcW hfT hrM
          go_wp2_with (at_builtin; go_must (refine wpList_app_of rfl _ _ rfl (.slice none 0 0) (.slice D (M) (sk - K)) rfl rfl (HAPP.out _) ?_; rintro v9 w9 ⟨ho9, hu9, hk9⟩; have HO9 := Lib.hid ho9; have HU9 := Lib.hid (show Upd [] W w9 from hu9); have HK9 := Lib.hid hk9; obtain ⟨a9, c9, rfl, -⟩ := ho9.rd; clear ho9 hu9 hk9))
          go_ret2
          rw [HY.out]
          refine ⟨_, rfl, by simpa using HO9.out.base_le RA.out.up.size, foot gy F T' cs, ⟨gf, gt, F, T', cs, HCW.out.upd0 HU9.out, rfl, hlen, HIN.out, rfl⟩, RA.out.up.trans HU9.out (fun _ hx => hx) (by simp), fun y hy => ?_, fun y hy hyG => ?_⟩
          · rcases (foot_mem _ _ _ _ _).1 hy with rfl | q | q | ⟨c, hcm, q⟩
            · exact .inl ((foot_mem _ _ _ _ _).2 (.inl rfl))
            · exact .inl (foot_F q)
            · exact HFT.out y q
            · exact .inl (foot_c hcm q)
          · have h1 := (HCW.out.ge y hyG).2
            rcases HK9.out y hy with q | q
            · simp [blk] at q
            · omega
      · have ra := (YR.first HC.out).upd0 HU1.out
        go_wp2_with fail
        generalize w1.alloc (.cells #[sv nm, .slice sa bs.length sk] 91) = wB at *
        have y1 := ra.p1
        go_region_held3 (fun w' => w'.cell? ⟨gy, 1, none⟩ = some (.pointer (some ⟨gt, 0, none⟩))) (first | go_keep | exact ra.p1)
          (first
            | (go_at_call 22; (with_reducible refine (yrTaken x v r0 (YR.upd0 ra ?_) HTL.out HI.out HVT.out).mono ?_); (repeat (first | exact Upd.refl _ _ | apply Upd.drew | apply Upd.drewN | apply Upd.alloc)); (rintro _ W ⟨rfl, ra⟩; dsimp only))
            | (go_at_call 56; (with_reducible refine (yrSet x (v + (((bs.length - K : Nat) : Int) : Int)) tk2 (YR.upd0 ra ?_) HTL.out HI.out HTK.out).mono ?_); (repeat (first | exact Upd.refl _ _ | apply Upd.drew | apply Upd.drewN | apply Upd.alloc)); (rintro _ W ⟨⟨r5, rfl⟩, ra⟩; dsimp only)))
        all_goals
          have RA := Lib.hid ra
          obtain ⟨T', hcW, hfT⟩ := ra.ex
          have HCW := Lib.hid hcW
          have HFT := Lib.hid hfT
          have HOW := Lib.hid (HO0.out _ (hcW.own _ HM0.out))
          have hrM := HRL2.out
          have HAPP := Lib.hid (fun ty => run_app (P := Try.prog) (ty := ty) (base := W.heap.size) bv_one Try.underlying27 infoByte rfl (.slice none 0 0) _ [] r (World.ownsRow_nil _ _ _ _) HOW.out (by simp; omega) (by unfold maxLen; simp; omega) (Nat.le_refl _))
          clear ra hcW hfT hrM
          go_wp2_with (at_builtin; go_must (refine wpList_app_of rfl _ _ rfl (.slice none 0 0) (.slice D (bs.length - K) (sk - K)) rfl rfl (HAPP.out _) ?_; rintro v9 w9 ⟨ho9, hu9, hk9⟩; have HO9 := Lib.hid ho9; have HU9 := Lib.hid (show Upd [] W w9 from hu9); have HK9 := Lib.hid hk9; obtain ⟨a9, c9, rfl, -⟩ := ho9.rd; clear ho9 hu9 hk9))
          go_ret2
          rw [HY.out]
          refine ⟨_, rfl, by simpa using HO9.out.base_le RA.out.up.size, foot gy F T' cs, ⟨gf, gt, F, T', cs, HCW.out.upd0 HU9.out, rfl, hlen, HIN.out, rfl⟩, RA.out.up.trans HU9.out (fun _ hx => hx) (by simp), fun y hy => ?_, fun y hy hyG => ?_⟩
          · rcases (foot_mem _ _ _ _ _).1 hy with rfl | q | q | ⟨c, hcm, q⟩
            · exact .inl ((foot_mem _ _ _ _ _).2 (.inl rfl))
            · exact .inl (foot_F q)
            · exact HFT.out y q
            · exact .inl (foot_c hcm q)
          · have h1 := (HCW.out.ge y hyG).2
            rcases HK9.out y hy with q | q
            · simp [blk] at q
            · omega
      · have ra := (YR.first HC.out).upd0 HU1.out
        go_wp2_with fail
        generalize w1.alloc (.cells #[sv nm, .slice sa bs.length sk] 91) = wB at *
        have y1 := ra.p1
        go_region_held3 (fun w' => w'.cell? ⟨gy, 1, none⟩ = some (.pointer (some ⟨gt, 0, none⟩))) (first | go_keep | exact ra.p1)
          (first
            | (go_at_call 22; (with_reducible refine (yrTaken x v r0 (YR.upd0 ra ?_) HTL.out HI.out HVT.out).mono ?_); (repeat (first | exact Upd.refl _ _ | apply Upd.drew | apply Upd.drewN | apply Upd.alloc)); (rintro _ W ⟨rfl, ra⟩; dsimp only))
            | (go_at_call 56; (with_reducible refine (yrSet x (v + ((M : Nat) : Int)) tk2 (YR.upd0 ra ?_) HTL.out HI.out HTK.out).mono ?_); (repeat (first | exact Upd.refl _ _ | apply Upd.drew | apply Upd.drewN | apply Upd.alloc)); (rintro _ W ⟨⟨r5, rfl⟩, ra⟩; dsimp only)))
        all_goals
          have RA := Lib.hid ra
          obtain ⟨T', hcW, hfT⟩ := ra.ex
          have HCW := Lib.hid hcW
          have HFT := Lib.hid hfT
          have HOW := Lib.hid (HO0.out _ (hcW.own _ HM0.out))
          have hrM := HRL2.out
          have HAPP := Lib.hid (fun ty => run_app (P := Try.prog) (ty := ty) (base := W.heap.size) bv_one Try.underlying27 infoByte rfl (.slice none 0 0) _ [] r (World.ownsRow_nil _ _ _ _) HOW.out (by simp; omega) (by unfold maxLen; simp; omega) (Nat.le_refl _))
          clear ra hcW hfT hrM
          go_wp2_with (at_builtin; go_must (refine wpList_app_of rfl _ _ rfl (.slice none 0 0) (.slice D (M) (sk - bs.length)) rfl rfl (HAPP.out _) ?_; rintro v9 w9 ⟨ho9, hu9, hk9⟩; have HO9 := Lib.hid ho9; have HU9 := Lib.hid (show Upd [] W w9 from hu9); have HK9 := Lib.hid hk9; obtain ⟨a9, c9, rfl, -⟩ := ho9.rd; clear ho9 hu9 hk9))
          go_ret2
          rw [HY.out]
          refine ⟨_, rfl, by simpa using HO9.out.base_le RA.out.up.size, foot gy F T' cs, ⟨gf, gt, F, T', cs, HCW.out.upd0 HU9.out, rfl, hlen, HIN.out, rfl⟩, RA.out.up.trans HU9.out (fun _ hx => hx) (by simp), fun y hy => ?_, fun y hy hyG => ?_⟩
          · rcases (foot_mem _ _ _ _ _).1 hy with rfl | q | q | ⟨c, hcm, q⟩
            · exact .inl ((foot_mem _ _ _ _ _).2 (.inl rfl))
            · exact .inl (foot_F q)
            · exact HFT.out y q
            · exact .inl (foot_c hcm q)
          · have h1 := (HCW.out.ge y hyG).2
            rcases HK9.out y hy with q | q
            · simp [blk] at q
            · omega
      · simp only [Nat.sub_self, Int.natCast_zero, Int.ofNat_zero, Int.add_zero] at HTK HO0 hcut2 HRL2 hwr
        have ra := (YR.first HC.out).upd0 HU1.out
        go_wp2_with fail
        generalize w1.alloc (.cells #[sv nm, .slice sa bs.length sk] 91) = wB at *
        have y1 := ra.p1
        go_region_held3 (fun w' => w'.cell? ⟨gy, 1, none⟩ = some (.pointer (some ⟨gt, 0, none⟩))) (first | go_keep | exact ra.p1)
          (first
            | (go_at_call 22; (with_reducible refine (yrTaken x v r0 (YR.upd0 ra ?_) HTL.out HI.out HVT.out).mono ?_); (repeat (first | exact Upd.refl _ _ | apply Upd.drew | apply Upd.drewN | apply Upd.alloc)); (rintro _ W ⟨rfl, ra⟩; dsimp only))
            | (go_at_call 56; (with_reducible refine (yrSet x v tk2 (YR.upd0 ra ?_) HTL.out HI.out HTK.out).mono ?_); (repeat (first | exact Upd.refl _ _ | apply Upd.drew | apply Upd.drewN | apply Upd.alloc)); (rintro _ W ⟨⟨r5, rfl⟩, ra⟩; dsimp only)))
        all_goals
          have RA := Lib.hid ra
          obtain ⟨T', hcW, hfT⟩ := ra.ex
          have HCW := Lib.hid hcW
          have HFT := Lib.hid hfT
          have HOW := Lib.hid (HO0.out _ (hcW.own _ HM0.out))
          have hrM := HRL2.out
          have HAPP := Lib.hid (fun ty => run_app (P := Try.prog) (ty := ty) (base := W.heap.size) bv_one Try.underlying27 infoByte rfl (.slice none 0 0) _ [] r (World.ownsRow_nil _ _ _ _) HOW.out (by simp; omega) (by unfold maxLen; simp; omega) (Nat.le_refl _))
          clear ra hcW hfT hrM
          go_wp2_with (at_builtin; go_must (refine wpList_app_of rfl _ _ rfl (.slice none 0 0) (.slice D 0 (sk - bs.length)) rfl rfl (HAPP.out _) ?_; rintro v9 w9 ⟨ho9, hu9, hk9⟩; have HO9 := Lib.hid ho9; have HU9 := Lib.hid (show Upd [] W w9 from hu9); have HK9 := Lib.hid hk9; obtain ⟨a9, c9, rfl, -⟩ := ho9.rd; clear ho9 hu9 hk9))
          go_ret2
          rw [HY.out]
          refine ⟨_, rfl, by simpa using HO9.out.base_le RA.out.up.size, foot gy F T' cs, ⟨gf, gt, F, T', cs, HCW.out.upd0 HU9.out, rfl, hlen, HIN.out, rfl⟩, RA.out.up.trans HU9.out (fun _ hx => hx) (by simp), fun y hy => ?_, fun y hy hyG => ?_⟩
          · rcases (foot_mem _ _ _ _ _).1 hy with rfl | q | q | ⟨c, hcm, q⟩
            · exact .inl ((foot_mem _ _ _ _ _).2 (.inl rfl))
            · exact .inl (foot_F q)
            · exact HFT.out y q
            · exact .inl (foot_c hcm q)
          · have h1 := (HCW.out.ge y hyG).2
            rcases HK9.out y hy with q | q
            · simp [blk] at q
            · omega
end
end Go.Proofs.Ytmhdhnipljonlaa
