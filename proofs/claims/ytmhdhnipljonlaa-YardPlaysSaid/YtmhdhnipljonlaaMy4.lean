/- Texts of the proof, joined: Chapter 21: Taken and Read. Chapter 21: Find and Files. Chapter 21: Files. The book's Same at files, the same list on both sides. Chapter 21: Rename. A slice of bytes as a string. The walk of YardRuns. The walk of YardFull. What the book's Roomy gives. -/
import Derived.Test.YtmhdhnipljonlaaMy3
import Derived.Deep.RegionHeld3
import Derived.Test.YtmhdhnipljonlaaMy1
import Derived.Test.YtmhdhnipljonlaaMy2
namespace Go.Proofs.Ytmhdhnipljonlaa
open Go.RowKit
set_option linter.unusedSimpArgs false
set_option linter.unusedVariables false
/-- What Read answers, and what is taken behind it. -/
def yRead (fl : FL) (tk : List (Int × Int)) (ino a n : Int) : (List UInt8 × Int) × List (Int × Int) :=
  if isIn ltY fl ino then
    (if a < 0 ∨ n < 0 then (([], 1), tk)
     else ((((nth fl (below ltY fl ino)).2.2.drop a.toNat).take n.toNat, 0), tSet ltY tk ino ((tGet ltY 0 tk ino).1 + ((((nth fl (below ltY fl ino)).2.2.drop a.toNat).take n.toNat).length : Int))))
  else (([], 7), tk)
/-- A yard under way in Read. -/
structure YR (w0 w W : World) (gy gf gt : Nat) (F T : List Nat) (cs : CL) (tk : List (Int × Int)) : Prop where
  ex : ∃ T', YC w0 W gy gf gt F T' cs tk ∧ (∀ y ∈ T', y ∈ foot gy F T cs ∨ w.heap.size ≤ y)
  up : Upd (foot gy F T cs) w W
section
variable {w0 w W W' : World} {gy gf gt : Nat} {F T : List Nat} {cs : CL} {tk : List (Int × Int)}
theorem YR.upd0 (h : YR w0 w W gy gf gt F T cs tk) (hu : Upd [] W W') : YR w0 w W' gy gf gt F T cs tk := by
  obtain ⟨T', hc, hf⟩ := h.ex
  exact ⟨⟨T', hc.upd0 hu, hf⟩, h.up.trans hu (fun _ hx => hx) (by simp)⟩
theorem YR.p1 (h : YR w0 w W gy gf gt F T cs tk) : W.cell? ⟨gy, 1, none⟩ = some (.pointer (some ⟨gt, 0, none⟩)) := by
  obtain ⟨T', hc, hf⟩ := h.ex
  exact hc.p1
theorem YR.first (h : YC w0 w gy gf gt F T cs tk) : YR w0 w w gy gf gt F T cs tk := ⟨⟨T, h, fun y hy => .inl (foot_T hy)⟩, Upd.refl _ _⟩
set_option maxRecDepth 20000 in
set_option maxHeartbeats 400000 in
theorem yTaken_any (k v : Int) (r : Bool) (h : YC w0 w gy gf gt F T cs tk) (hlen : tk.length ≤ 100000) (hk : I64 k) (hv : tGet ltIJ (0 : Int) tk k = (v, r)) :
    Calls Try.prog 22 #[.pointer (some ⟨gy, 0, none⟩), iv k] w fun e w' => e = .returned (iv v) ∧ Upd [] w w' := by
  have HC := Lib.hid h
  have y1 := h.p1
  have HK := Lib.hid hk
  have HV := Lib.hid hv
  clear h hk hv
  go_enter Try.func22, Try.ntmps22
  go_wp2_with fail
  (with_reducible refine (txIJ_Get k v r HC.out.taken hlen HK.out HV.out).mono ?_)
  rintro e w1 ⟨rfl, hu1⟩
  go_wp2_with fail
  go_ret
  exact ⟨rfl, hu1⟩
theorem yrTaken (k v : Int) (r : Bool) (h : YR w0 w W gy gf gt F T cs tk) (hlen : tk.length ≤ 100000) (hk : I64 k) (hv : tGet ltIJ (0 : Int) tk k = (v, r)) :
    Calls Try.prog 22 #[.pointer (some ⟨gy, 0, none⟩), iv k] W fun e w' => e = .returned (iv v) ∧ YR w0 w w' gy gf gt F T cs tk := by
  obtain ⟨T', hc, hf⟩ := h.ex
  refine (yTaken_any k v r hc hlen hk hv).mono ?_
  rintro e w' ⟨he, hu⟩
  exact ⟨he, h.upd0 hu⟩
theorem yrSet (k y : Int) (tk' : List (Int × Int)) (h : YR w0 w W gy gf gt F T cs tk) (hlen : tk.length ≤ 100000) (hk : I64 k) (hv : tSet ltIJ tk k y = tk') :
    Calls Try.prog 56 #[.pointer (some ⟨gt, 0, none⟩), iv k, iv y] W fun e w' => (∃ r, e = .returned (.bool r)) ∧ YR w0 w w' gy gf gt F T cs tk' := by
  obtain ⟨T', hc, hf⟩ := h.ex
  refine (txIJ_Set k y _ tk' hc.taken hlen hk rfl hv).mono ?_
  rintro e w' ⟨rfl, T2, ht, hu, hfr⟩
  refine ⟨⟨_, rfl⟩, ⟨T2, hc.setTaken ht hu, fun y hy => ?_⟩, h.up.trans hu (fun _ hx => hx) (fun y hy => hf y hy)⟩
  rcases hfr y hy with q | q
  · exact hf y q
  · exact .inr (by have := h.up.size; omega)
end
section
variable {w0 w : World} {gy : Nat} {G : List Nat} {fl : FL} {tk : List (Int × Int)}
def YReads (w0 w : World) (gy : Nat) (G : List Nat) (fl : FL) (r : (List UInt8 × Int) × List (Int × Int)) (e : Ending) (w' : World) : Prop :=
  ∃ v, e = .returned (.tuple #[v, .int .i64 r.1.2]) ∧ Own bv w.heap.size 5 w' v r.1.1 ∧ YOut w0 w gy G fl r.2 w' ∧ (∀ G', YD w0 w' gy G' fl r.2 → Ap (blk v) G')
set_option maxRecDepth 20000 in
set_option maxHeartbeats 1000000 in
theorem yRead_any (ino a n : Int) (hi : I64 ino) (ha : I64 a) (hn : I64 n) (h : YD w0 w gy G fl tk) (htl : tk.length ≤ 50000) (htk : ∀ p ∈ tk, 0 ≤ p.2 ∧ p.2 ≤ 1000000000000) :
    Calls Try.prog 21 #[.pointer (some ⟨gy, 0, none⟩), iv ino, .int .i64 a, .int .i64 n] w fun e w' => ∃ v, e = .returned (.tuple #[v, .int .i64 (yRead fl tk ino a n).1.2]) ∧ Own bv w.heap.size 5 w' v (yRead fl tk ino a n).1.1 ∧ ∃ G', YD w0 w' gy G' fl (yRead fl tk ino a n).2 ∧ Upd G w w' ∧ (∀ x ∈ G', x ∈ G ∨ w.heap.size ≤ x) ∧ Ap (blk v) G' := by
  obtain ⟨gf, gt, F, T, cs, hc, rfl, hlen, hin, rfl⟩ := h.ex
  have HC := Lib.hid hc
  have HIN := Lib.hid hin
  have HD := Lib.hid h
  have HRL : Hid ((rowsOf cs).length ≤ 100000) := by unfold Hid; rw [rows_len]; omega
  have HI := Lib.hid hi
  have y0 := hc.p0
  cases hh : isIn ltY cs ino with
  | false =>
    have HY : Hid (yRead (filesOf cs) tk ino a n = (([], 7), tk)) := by unfold Hid yRead; rw [mapY_isIn, hh]; rfl
    have HV : Hid (tGet ltIF zF (rowsOf cs) ino = (zF, false)) := by
      unfold Hid tGet
      have : isIn ltIF (rowsOf cs) ino = false := (mapY_isIn (·.1) cs ino).trans hh
      rw [this]; rfl
    clear hc h hin hh hi ha hn htk
    go_enter Try.func21, Try.ntmps21
    go_wp2_with fail
    (with_reducible refine (txIF_Get ino zF false HC.out.files HRL.out HI.out HV.out).mono ?_)
    rintro e w1 ⟨rfl, hu1⟩
    have HU1 := Lib.hid (hu1.alloc (.cells #[.string ⟨#[]⟩, .slice none 0 0] 91))
    clear hu1
    go_wp2_with fail
    go_ret2
    refine ⟨.slice none 0 0, by rw [HY.out]; rfl, by rw [HY.out]; exact World.ownsRow_nil _ _ _ _, ?_⟩
    rw [HY.out]
    obtain ⟨G', h1, h2, h3⟩ := HD.out.out0 HU1.out
    exact ⟨G', h1, h2, h3, Ap.nil⟩
  | true =>
    obtain ⟨c0, hc0, hk0, hn0⟩ : ∃ c0, c0 ∈ cs ∧ c0.1 = ino ∧ nth cs (below ltY cs ino) = c0 := by
      unfold isIn at hh
      obtain ⟨h1, h2⟩ := of_decide_eq_true hh
      exact ⟨_, nth_mem _ h1, h2, rfl⟩
    have HV : Hid (tGet ltIF zF (rowsOf cs) ino = (c0.2.1, true)) := by
      unfold Hid tGet
      have h1 : isIn ltIF (rowsOf cs) ino = true := (mapY_isIn (·.1) cs ino).trans hh
      have h2 : below ltIF (rowsOf cs) ino = below ltY cs ino := mapY_below (·.1) cs ino
      rw [h1, h2, if_pos rfl, nth_rows cs _ (by unfold isIn at hh; exact (of_decide_eq_true hh).1), hn0]
    have HYB : Hid ((nth (filesOf cs) (below ltY (filesOf cs) ino)).2.2 = c0.2.2) := by
      unfold Hid
      rw [mapY_below, nth_files cs _ (by unfold isIn at hh; exact (of_decide_eq_true hh).1), hn0]
    have hb := (hin _ hc0).2.2
    have ho := hc.own _ hc0
    have HM0 := Lib.hid hc0
    obtain ⟨x, ⟨nm, sl⟩, bs⟩ := c0
    have hk0 : x = ino := hk0
    subst hk0
    have HO : Hid (Own bv w0.heap.size 5 w (slv sl) bs) := ho
    have hsn : sl.n = bs.length := by
      rcases ho.2 with ⟨he, h0⟩ | ⟨g', cap', cur, he, -⟩
      · injection he with e1 e2 e3; rw [e2]; exact h0.symm
      · injection he with e1 e2 e3
    obtain ⟨sa, sn, sk⟩ := sl
    have hsn : sn = bs.length := hsn
    subst hsn
    have hbl : bs.length ≤ 65536 := hb
    have HYB : Hid ((nth (filesOf cs) (below ltY (filesOf cs) x)).2.2 = bs) := HYB
    have HV : Hid (tGet ltIF zF (rowsOf cs) x = ((nm, (⟨sa, bs.length, sk⟩ : Sl)), true)) := HV
    by_cases hbad : a < 0 ∨ n < 0
    · have HY : Hid (yRead (filesOf cs) tk x a n = (([], 1), tk)) := by unfold Hid yRead; rw [mapY_isIn, hh, if_pos rfl, if_pos hbad]
      have hd : a < 0 ∨ (¬ a < 0 ∧ n < 0) := by omega
      clear hc h hin hh hi ha hn htk ho hb hc0 hn0 hbad
      rcases hd with hd | ⟨hd, hd2⟩
      all_goals
        go_enter Try.func21, Try.ntmps21
        go_wp2_with fail
        (with_reducible refine (txIF_Get x _ true HC.out.files HRL.out HI.out HV.out).mono ?_)
        rintro e w1 ⟨rfl, hu1⟩
        have HU1 := Lib.hid (hu1.alloc (.cells #[sv nm, .slice sa bs.length sk] 91))
        clear hu1
        go_wp2_with fail
        go_ret2
        refine ⟨.slice none 0 0, by rw [HY.out]; rfl, by rw [HY.out]; exact World.ownsRow_nil _ _ _ _, ?_⟩
        rw [HY.out]
        obtain ⟨G', h1, h2, h3⟩ := HD.out.out0 HU1.out
        exact ⟨G', h1, h2, h3, Ap.nil⟩
    · obtain ⟨A, rfl⟩ := Int.eq_ofNat_of_zero_le (show 0 ≤ a by omega)
      obtain ⟨N, rfl⟩ := Int.eq_ofNat_of_zero_le (show 0 ≤ n by omega)
      have hsk : bs.length ≤ sk := by
        obtain ⟨a', c', he, h1, -⟩ := HO.out.rd
        injection he with e1 e2 e3
        have e3 : sk = c' := e3
        omega
      have hskm : sk ≤ 9223372036854775807 := by
        obtain ⟨a', c', he, -, h1, -⟩ := HO.out.rd
        injection he with e1 e2 e3
        have e3 : sk = c' := e3
        unfold maxLen at h1; omega
      obtain ⟨K, hK⟩ : ∃ K, (K = A ∧ A ≤ bs.length) ∨ (K = bs.length ∧ bs.length < A) := by
        by_cases q : A ≤ bs.length
        · exact ⟨A, .inl ⟨rfl, q⟩⟩
        · exact ⟨bs.length, .inr ⟨rfl, by omega⟩⟩
      have hKl : K ≤ bs.length := by omega
      obtain ⟨M, hM⟩ : ∃ M, (M = N ∧ N ≤ bs.length - K) ∨ (M = bs.length - K ∧ bs.length - K < N) := by
        by_cases q : N ≤ bs.length - K
        · exact ⟨N, .inl ⟨rfl, q⟩⟩
        · exact ⟨bs.length - K, .inr ⟨rfl, by omega⟩⟩
      have hMl : M ≤ bs.length - K := by omega
      have hr : (bs.drop A).take N = (bs.drop K).take M := by
        rcases hK with ⟨rfl, -⟩ | ⟨rfl, h1⟩
        · rcases hM with ⟨rfl, -⟩ | ⟨rfl, h2⟩
          · rfl
          · rw [List.take_of_length_le (by rw [List.length_drop]; omega), List.take_of_length_le (by rw [List.length_drop]; omega)]
        · rw [List.drop_eq_nil_of_le (by omega), List.drop_length]; simp
      have hrl : ((bs.drop K).take M).length = M := by rw [List.length_take, List.length_drop]; omega
      obtain ⟨v, r0, hv⟩ : ∃ v r0, tGet ltIJ (0 : Int) tk x = (v, r0) := ⟨_, _, rfl⟩
      have hv0 : 0 ≤ v ∧ v ≤ 1000000000000 := by
        unfold tGet at hv
        split at hv
        · rename_i hq
          injection hv with h1 h2
          rw [← h1]
          unfold isIn at hq
          exact htk _ (nth_mem _ (of_decide_eq_true hq).1)
        · injection hv with h1 h2
          rw [← h1]; omega
      obtain ⟨hv1, hv2⟩ := hv0
      obtain ⟨tk2, htk2⟩ : ∃ tk2, tSet ltIJ tk x (v + (M : Int)) = tk2 := ⟨_, rfl⟩
      have HY : Hid (yRead (filesOf cs) tk x (A : Int) (N : Int) = (((bs.drop K).take M, 0), tk2)) := by
        unfold Hid yRead
        rw [mapY_isIn, hh, if_pos rfl, if_neg hbad, HYB.out]
        simp only [Int.toNat_natCast]
        rw [hr, hrl]
        have e1 : (tGet ltY 0 tk x).1 = v := by rw [show tGet ltY 0 tk x = (v, r0) from hv]
        rw [e1]
        exact congrArg (fun z => (((bs.drop K).take M, (0 : Int)), z)) htk2
      have HVT := Lib.hid hv
      have HTK := Lib.hid htk2
      have HTL : Hid (tk.length ≤ 100000) := by unfold Hid; omega
      have hwr : IntKind.i64.wrap (v + (M : Int)) = v + (M : Int) := by rw [IntKind.wrap_i64]; omega
      have HO0 := Lib.hid (show ∀ W, Own bv w0.heap.size 5 W (.slice sa bs.length sk) bs → Bytes W (.slice (if sk = K then sa else sa.map (·.add K)) M (sk - K)) ((bs.drop K).take M) from fun W hW => (hW.rd.drop K hKl).take M (by rw [List.length_drop]; omega))
      have HRL2 := Lib.hid hrl
      obtain ⟨D, hD, hcut1⟩ : ∃ D : Option Addr, D = (if sk = K then sa else sa.map (·.add K)) ∧ ∀ W, (Instr.slice 27 (.slice sa bs.length sk) (some (.int .i64 (K : Int))) none none).run Try.prog W = .ok (.slice D (bs.length - K) (sk - K)) W :=
        ⟨_, rfl, fun W => by have h := run_cut (P := Try.prog) (size := 1) Try.underlying27 (by kernel_rfl) sa bs.length sk K hKl W; simpa using h⟩
      have hcut2 : ∀ W, (Instr.slice 27 (.slice D (bs.length - K) (sk - K)) none (some (.int .i64 (M : Int))) none).run Try.prog W = .ok (.slice D M (sk - K)) W := fun W => run_cut_h (P := Try.prog) (size := 1) Try.underlying27 (by kernel_rfl) D (bs.length - K) (sk - K) M (by omega) W
      rw [← hD] at HO0
      generalize (bs.drop K).take M = r at *
      have q1 : ¬ (A : Int) < 0 := by omega
      have q2 : ¬ (N : Int) < 0 := by omega
      have q3 : (0 : Int) ≤ A := by omega
      have q4 : (0 : Int) ≤ N := by omega
      clear hc h hin ho hb hc0 hn0 hbad hr hD hv htk2 htk hrl hi hh
      rcases hK with ⟨rfl, hK⟩ | ⟨rfl, hK⟩ <;> rcases hM with ⟨rfl, hM⟩ | ⟨rfl, hM⟩
      all_goals
        go_enter Try.func21, Try.ntmps21
        go_wp2_with fail
        (with_reducible refine (txIF_Get x _ true HC.out.files HRL.out HI.out HV.out).mono ?_)
        rintro e w1 ⟨rfl, hu1⟩
        have HU1 := Lib.hid (hu1.alloc (.cells #[sv nm, .slice sa bs.length sk] 91))
        clear hu1
      · have ra := (YR.first HC.out).upd0 HU1.out
        go_wp2_with fail
        generalize w1.alloc (.cells #[sv nm, .slice sa bs.length sk] 91) = wB at *
        have y1 := ra.p1
        go_region_held3 (fun w' => w'.cell? ⟨gy, 1, none⟩ = some (.pointer (some ⟨gt, 0, none⟩))) (first | go_keep | exact ra.p1)
          (first
            | (go_at_call 22; (with_reducible refine (yrTaken x v r0 (YR.upd0 ra ?_) HTL.out HI.out HVT.out).mono ?_); (repeat (first | exact Upd.refl _ _ | apply Upd.drew | apply Upd.drewN | apply Upd.alloc)); (rintro _ W ⟨rfl, ra⟩; dsimp only))
            | (go_at_call 56; (with_reducible refine (yrSet x (v + ((M : Nat) : Int)) tk2 (YR.upd0 ra ?_) HTL.out HI.out HTK.out).mono ?_); (repeat (first | exact Upd.refl _ _ | apply Upd.drew | apply Upd.drewN | apply Upd.alloc)); (rintro _ W ⟨⟨r5, rfl⟩, ra⟩; dsimp only)))
        all_goals
          have RA := Lib.hid ra
          obtain ⟨T', hcW, hfT⟩ := ra.ex
          have HCW := Lib.hid hcW
          have HFT := Lib.hid hfT
          have HOW := Lib.hid (HO0.out _ (hcW.own _ HM0.out))
          have hrM := HRL2.out
          have HAPP := Lib.hid (fun ty => run_app (P := Try.prog) (ty := ty) (base := W.heap.size) bv_one Try.underlying27 infoByte rfl (.slice none 0 0) _ [] r (World.ownsRow_nil _ _ _ _) HOW.out (by simp; omega) (by unfold maxLen; simp; omega) (Nat.le_refl _))
          clear ra hcW hfT hrM
          go_wp2_with (at_builtin; go_must (refine wpList_app_of rfl _ _ rfl (.slice none 0 0) (.slice D (M) (sk - K)) rfl rfl (HAPP.out _) ?_; rintro v9 w9 ⟨ho9, hu9, hk9⟩; have HO9 := Lib.hid ho9; have HU9 := Lib.hid (show Upd [] W w9 from hu9); have HK9 := Lib.hid hk9; obtain ⟨a9, c9, rfl, -⟩ := ho9.rd; clear ho9 hu9 hk9))
          go_ret2
          rw [HY.out]
          refine ⟨_, rfl, by simpa using HO9.out.base_le RA.out.up.size, foot gy F T' cs, ⟨gf, gt, F, T', cs, HCW.out.upd0 HU9.out, rfl, hlen, HIN.out, rfl⟩, RA.out.up.trans HU9.out (fun _ hx => hx) (by simp), fun y hy => ?_, fun y hy hyG => ?_⟩
          · rcases (foot_mem _ _ _ _ _).1 hy with rfl | q | q | ⟨c, hcm, q⟩
            · exact .inl ((foot_mem _ _ _ _ _).2 (.inl rfl))
            · exact .inl (foot_F q)
            · exact HFT.out y q
            · exact .inl (foot_c hcm q)
          · have h1 := (HCW.out.ge y hyG).2
            rcases HK9.out y hy with q | q
            · simp [blk] at q
            · omega
      · have ra := (YR.first HC.out).upd0 HU1.out
        go_wp2_with fail
        generalize w1.alloc (.cells #[sv nm, .slice sa bs.length sk] 91) = wB at *
        have y1 := ra.p1
        go_region_held3 (fun w' => w'.cell? ⟨gy, 1, none⟩ = some (.pointer (some ⟨gt, 0, none⟩))) (first | go_keep | exact ra.p1)
          (first
            | (go_at_call 22; (with_reducible refine (yrTaken x v r0 (YR.upd0 ra ?_) HTL.out HI.out HVT.out).mono ?_); (repeat (first | exact Upd.refl _ _ | apply Upd.drew | apply Upd.drewN | apply Upd.alloc)); (rintro _ W ⟨rfl, ra⟩; dsimp only))
            | (go_at_call 56; (with_reducible refine (yrSet x (v + (((bs.length - K : Nat) : Int) : Int)) tk2 (YR.upd0 ra ?_) HTL.out HI.out HTK.out).mono ?_); (repeat (first | exact Upd.refl _ _ | apply Upd.drew | apply Upd.drewN | apply Upd.alloc)); (rintro _ W ⟨⟨r5, rfl⟩, ra⟩; dsimp only)))
        all_goals
          have RA := Lib.hid ra
          obtain ⟨T', hcW, hfT⟩ := ra.ex
          have HCW := Lib.hid hcW
          have HFT := Lib.hid hfT
          have HOW := Lib.hid (HO0.out _ (hcW.own _ HM0.out))
          have hrM := HRL2.out
          have HAPP := Lib.hid (fun ty => run_app (P := Try.prog) (ty := ty) (base := W.heap.size) bv_one Try.underlying27 infoByte rfl (.slice none 0 0) _ [] r (World.ownsRow_nil _ _ _ _) HOW.out (by simp; omega) (by unfold maxLen; simp; omega) (Nat.le_refl _))
          clear ra hcW hfT hrM
          go_wp2_with (at_builtin; go_must (refine wpList_app_of rfl _ _ rfl (.slice none 0 0) (.slice D (bs.length - K) (sk - K)) rfl rfl (HAPP.out _) ?_; rintro v9 w9 ⟨ho9, hu9, hk9⟩; have HO9 := Lib.hid ho9; have HU9 := Lib.hid (show Upd [] W w9 from hu9); have HK9 := Lib.hid hk9; obtain ⟨a9, c9, rfl, -⟩ := ho9.rd; clear ho9 hu9 hk9))
          go_ret2
          rw [HY.out]
          refine ⟨_, rfl, by simpa using HO9.out.base_le RA.out.up.size, foot gy F T' cs, ⟨gf, gt, F, T', cs, HCW.out.upd0 HU9.out, rfl, hlen, HIN.out, rfl⟩, RA.out.up.trans HU9.out (fun _ hx => hx) (by simp), fun y hy => ?_, fun y hy hyG => ?_⟩
          · rcases (foot_mem _ _ _ _ _).1 hy with rfl | q | q | ⟨c, hcm, q⟩
            · exact .inl ((foot_mem _ _ _ _ _).2 (.inl rfl))
            · exact .inl (foot_F q)
            · exact HFT.out y q
            · exact .inl (foot_c hcm q)
          · have h1 := (HCW.out.ge y hyG).2
            rcases HK9.out y hy with q | q
            · simp [blk] at q
            · omega
      · have ra := (YR.first HC.out).upd0 HU1.out
        go_wp2_with fail
        generalize w1.alloc (.cells #[sv nm, .slice sa bs.length sk] 91) = wB at *
        have y1 := ra.p1
        go_region_held3 (fun w' => w'.cell? ⟨gy, 1, none⟩ = some (.pointer (some ⟨gt, 0, none⟩))) (first | go_keep | exact ra.p1)
          (first
            | (go_at_call 22; (with_reducible refine (yrTaken x v r0 (YR.upd0 ra ?_) HTL.out HI.out HVT.out).mono ?_); (repeat (first | exact Upd.refl _ _ | apply Upd.drew | apply Upd.drewN | apply Upd.alloc)); (rintro _ W ⟨rfl, ra⟩; dsimp only))
            | (go_at_call 56; (with_reducible refine (yrSet x (v + ((M : Nat) : Int)) tk2 (YR.upd0 ra ?_) HTL.out HI.out HTK.out).mono ?_); (repeat (first | exact Upd.refl _ _ | apply Upd.drew | apply Upd.drewN | apply Upd.alloc)); (rintro _ W ⟨⟨r5, rfl⟩, ra⟩; dsimp only)))
        all_goals
          have RA := Lib.hid ra
          obtain ⟨T', hcW, hfT⟩ := ra.ex
          have HCW := Lib.hid hcW
          have HFT := Lib.hid hfT
          have HOW := Lib.hid (HO0.out _ (hcW.own _ HM0.out))
          have hrM := HRL2.out
          have HAPP := Lib.hid (fun ty => run_app (P := Try.prog) (ty := ty) (base := W.heap.size) bv_one Try.underlying27 infoByte rfl (.slice none 0 0) _ [] r (World.ownsRow_nil _ _ _ _) HOW.out (by simp; omega) (by unfold maxLen; simp; omega) (Nat.le_refl _))
          clear ra hcW hfT hrM
          go_wp2_with (at_builtin; go_must (refine wpList_app_of rfl _ _ rfl (.slice none 0 0) (.slice D (M) (sk - bs.length)) rfl rfl (HAPP.out _) ?_; rintro v9 w9 ⟨ho9, hu9, hk9⟩; have HO9 := Lib.hid ho9; have HU9 := Lib.hid (show Upd [] W w9 from hu9); have HK9 := Lib.hid hk9; obtain ⟨a9, c9, rfl, -⟩ := ho9.rd; clear ho9 hu9 hk9))
          go_ret2
          rw [HY.out]
          refine ⟨_, rfl, by simpa using HO9.out.base_le RA.out.up.size, foot gy F T' cs, ⟨gf, gt, F, T', cs, HCW.out.upd0 HU9.out, rfl, hlen, HIN.out, rfl⟩, RA.out.up.trans HU9.out (fun _ hx => hx) (by simp), fun y hy => ?_, fun y hy hyG => ?_⟩
          · rcases (foot_mem _ _ _ _ _).1 hy with rfl | q | q | ⟨c, hcm, q⟩
            · exact .inl ((foot_mem _ _ _ _ _).2 (.inl rfl))
            · exact .inl (foot_F q)
            · exact HFT.out y q
            · exact .inl (foot_c hcm q)
          · have h1 := (HCW.out.ge y hyG).2
            rcases HK9.out y hy with q | q
            · simp [blk] at q
            · omega
      · simp only [Nat.sub_self, Int.natCast_zero, Int.ofNat_zero, Int.add_zero] at HTK HO0 hcut2 HRL2 hwr
        have ra := (YR.first HC.out).upd0 HU1.out
        go_wp2_with fail
        generalize w1.alloc (.cells #[sv nm, .slice sa bs.length sk] 91) = wB at *
        have y1 := ra.p1
        go_region_held3 (fun w' => w'.cell? ⟨gy, 1, none⟩ = some (.pointer (some ⟨gt, 0, none⟩))) (first | go_keep | exact ra.p1)
          (first
            | (go_at_call 22; (with_reducible refine (yrTaken x v r0 (YR.upd0 ra ?_) HTL.out HI.out HVT.out).mono ?_); (repeat (first | exact Upd.refl _ _ | apply Upd.drew | apply Upd.drewN | apply Upd.alloc)); (rintro _ W ⟨rfl, ra⟩; dsimp only))
            | (go_at_call 56; (with_reducible refine (yrSet x v tk2 (YR.upd0 ra ?_) HTL.out HI.out HTK.out).mono ?_); (repeat (first | exact Upd.refl _ _ | apply Upd.drew | apply Upd.drewN | apply Upd.alloc)); (rintro _ W ⟨⟨r5, rfl⟩, ra⟩; dsimp only)))
        all_goals
          have RA := Lib.hid ra
          obtain ⟨T', hcW, hfT⟩ := ra.ex
          have HCW := Lib.hid hcW
          have HFT := Lib.hid hfT
          have HOW := Lib.hid (HO0.out _ (hcW.own _ HM0.out))
          have hrM := HRL2.out
          have HAPP := Lib.hid (fun ty => run_app (P := Try.prog) (ty := ty) (base := W.heap.size) bv_one Try.underlying27 infoByte rfl (.slice none 0 0) _ [] r (World.ownsRow_nil _ _ _ _) HOW.out (by simp; omega) (by unfold maxLen; simp; omega) (Nat.le_refl _))
          clear ra hcW hfT hrM
          go_wp2_with (at_builtin; go_must (refine wpList_app_of rfl _ _ rfl (.slice none 0 0) (.slice D 0 (sk - bs.length)) rfl rfl (HAPP.out _) ?_; rintro v9 w9 ⟨ho9, hu9, hk9⟩; have HO9 := Lib.hid ho9; have HU9 := Lib.hid (show Upd [] W w9 from hu9); have HK9 := Lib.hid hk9; obtain ⟨a9, c9, rfl, -⟩ := ho9.rd; clear ho9 hu9 hk9))
          go_ret2
          rw [HY.out]
          refine ⟨_, rfl, by simpa using HO9.out.base_le RA.out.up.size, foot gy F T' cs, ⟨gf, gt, F, T', cs, HCW.out.upd0 HU9.out, rfl, hlen, HIN.out, rfl⟩, RA.out.up.trans HU9.out (fun _ hx => hx) (by simp), fun y hy => ?_, fun y hy hyG => ?_⟩
          · rcases (foot_mem _ _ _ _ _).1 hy with rfl | q | q | ⟨c, hcm, q⟩
            · exact .inl ((foot_mem _ _ _ _ _).2 (.inl rfl))
            · exact .inl (foot_F q)
            · exact HFT.out y q
            · exact .inl (foot_c hcm q)
          · have h1 := (HCW.out.ge y hyG).2
            rcases HK9.out y hy with q | q
            · simp [blk] at q
            · omega
end
end Go.Proofs.Ytmhdhnipljonlaa
namespace Go.Proofs.Ytmhdhnipljonlaa
open Go.RowKit
set_option linter.unusedSimpArgs false
set_option linter.unusedVariables false
/-- A file as the yard tells it: its ino, its name, its size. -/
abbrev AF := Int × ByteArray × Int
abbrev afCells (p : AF) : List Value := [iv p.1, sv p.2.1, iv p.2.2]
abbrev af (p : AF) : Value := .agg #[iv p.1, sv p.2.1, iv p.2.2]
def tellF (p : Int × (ByteArray × List UInt8)) : AF := (p.1, p.2.1, (p.2.2.length : Int))
def yFindF (fl : FL) (s : ByteArray) : AF × Bool := if hasN fl s then (tellF (nth fl (findN fl s)), true) else ((0, ⟨#[]⟩, 0), false)
def yFiles (fl : FL) : List AF := fl.map tellF
/-- A result's own block of three cells, written. -/
theorem blk_three {w : World} {b : Nat} {e : TypeId} {x0 y0 z0 : Value} (h : Blk w b e [x0, y0, z0]) (x y z : Value) : Blk (((w.setCell ⟨b, 0, none⟩ x).setCell ⟨b, 1, none⟩ y).setCell ⟨b, 2, none⟩ z) b e [x, y, z] := by
  have := ((h.set_ 0 x).set_ 1 y).set_ 2 z
  simpa using this
section
variable {w0 w : World} {gy : Nat} {G : List Nat} {fl : FL} {tk : List (Int × Int)}
set_option maxRecDepth 20000 in
set_option maxHeartbeats 1000000 in
theorem yFindF_any (s : ByteArray) (h : YD w0 w gy G fl tk) :
    Calls Try.prog 20 #[.pointer (some ⟨gy, 0, none⟩), sv s] w fun e w' => e = .returned (.tuple #[af (yFindF fl s).1, .bool (yFindF fl s).2]) ∧ Upd [] w w' := by
  obtain ⟨gf, gt, F, T, cs, hc, rfl, hlen, hin, rfl⟩ := h.ex
  have hu0 := (Upd.refl [] w).alloc (.cells #[.int .i64 0, .string ⟨#[]⟩, .int .i64 0] 31)
  have HC := Lib.hid (hc.upd0 hu0)
  have HU0 := Lib.hid hu0
  have hB0 := Lib.hid (Blk.new w 31 [.int .i64 0, .string ⟨#[]⟩, .int .i64 0])
  have hlen1 : cs.length ≤ 1000 := by omega
  cases hh : hasN (filesOf cs) s with
  | false =>
    have HY : Hid (yFindF (filesOf cs) s = ((0, ⟨#[]⟩, 0), false)) := by unfold Hid yFindF; rw [hh]; rfl
    have HF := Lib.hid (yFind_no s HC.out hlen1 hh)
    clear hc h hin hh hu0
    go_enter Try.func20, Try.ntmps20
    go_wp2_with fail
    (with_reducible refine HF.out.mono ?_)
    rintro e w1 ⟨rfl, hu1⟩
    have hB1 := hB0.out.upd hu1 (by simp)
    have hB := hB1.upd ((Upd.refl [] _).alloc (.cells #[.string ⟨#[]⟩, .slice none 0 0] 91)) (by simp)
    have HU1 := Lib.hid ((HU0.out.seq hu1).alloc (.cells #[.string ⟨#[]⟩, .slice none 0 0] 91))
    have hlt : w.heap.size < w1.heap.size := hB1.lt
    have d0 := hB1.cell 0
    have d1 := hB1.cell 1
    have d2 := hB1.cell 2
    have f0 := hB1.frozen 0
    have f1 := hB1.frozen 1
    have f2 := hB1.frozen 2
    simp only [List.getElem?_cons_zero, List.getElem?_cons_succ] at d0 d1 d2
    have HB := Lib.hid ((blk_three hB1 (.int .i64 0) (.string ⟨#[]⟩) (.int .i64 0)).upd ((Upd.refl [] _).alloc (.cells #[.string ⟨#[]⟩, .slice none 0 0] 91)) (by simp))
    have HU := Lib.hid (((((HU0.out.seq hu1).setCell ⟨w.heap.size, 0, none⟩ (.int .i64 0) (.inr (Nat.le_refl _))).setCell ⟨w.heap.size, 1, none⟩ (.string ⟨#[]⟩) (.inr (Nat.le_refl _))).setCell ⟨w.heap.size, 2, none⟩ (.int .i64 0) (.inr (Nat.le_refl _))).alloc (.cells #[.string ⟨#[]⟩, .slice none 0 0] 91))
    clear hu1 hB hB1
    go_wp2_with fail
    have e0 := HB.out.cell 0
    have e1 := HB.out.cell 1
    have e2 := HB.out.cell 2
    have hU := HU.out
    clear HB HU
    generalize World.alloc _ _ = W at *
    rw [HY.out]
    exact bodyPost_ret (v := .tuple #[af (0, ⟨#[]⟩, 0), .bool false]) (by simp [results, Try.results20, go_sem, e0, e1, e2]; try rfl) rfl ⟨rfl, hU⟩
  | true =>
    have HF := Lib.hid (yFind_yes s _ HC.out hlen1 hh rfl)
    have hlt : findN (filesOf cs) s < cs.length := by unfold hasN at hh; have := of_decide_eq_true hh; rwa [files_len] at this
    have hat := findN_at (filesOf cs) s (by rw [files_len]; exact hlt)
    rw [nth_files cs _ hlt] at hat
    have hmem : nth cs (findN (filesOf cs) s) ∈ cs := nth_mem _ hlt
    have HY : Hid (yFindF (filesOf cs) s = (((nth cs (findN (filesOf cs) s)).1, (nth cs (findN (filesOf cs) s)).2.1.1, ((nth cs (findN (filesOf cs) s)).2.2.length : Int)), true)) := by unfold Hid yFindF tellF; rw [hh, nth_files cs _ hlt]; rfl
    have hx := hin _ hmem
    have ho := hc.own _ hmem
    generalize nth cs (findN (filesOf cs) s) = c0 at *
    obtain ⟨x, ⟨nm, sl⟩, bs⟩ := c0
    have hat : nm = s := hat
    subst hat
    have hx0 : (x == 0) = false := by rw [beq_eq_false_iff_ne]; have := hx.1; simp at this; omega
    have hsn : sl.n = bs.length := by
      rcases ho.2 with ⟨he, h0⟩ | ⟨g', cap', cur, he, -⟩
      · injection he with e1 e2 e3; rw [e2]; exact h0.symm
      · injection he with e1 e2 e3
    obtain ⟨sa, sn, sk⟩ := sl
    have hsn : sn = bs.length := hsn
    subst hsn
    have HY : Hid (yFindF (filesOf cs) nm = ((x, nm, (bs.length : Int)), true)) := HY
    clear hc h hin hh hu0 hlt hmem ho hx
    go_enter Try.func20, Try.ntmps20
    go_wp2_with fail
    (with_reducible refine HF.out.mono ?_)
    rintro e w1 ⟨rfl, hu1⟩
    have hB1 := hB0.out.upd hu1 (by simp)
    have hlt : w.heap.size < w1.heap.size := hB1.lt
    have d0 := hB1.cell 0
    have d1 := hB1.cell 1
    have d2 := hB1.cell 2
    have f0 := hB1.frozen 0
    have f1 := hB1.frozen 1
    have f2 := hB1.frozen 2
    simp only [List.getElem?_cons_zero, List.getElem?_cons_succ] at d0 d1 d2
    have HB := Lib.hid ((blk_three hB1 (iv x) (sv nm) (.int .i64 (bs.length : Int))).upd ((Upd.refl [] _).alloc (.cells #[sv nm, .slice sa bs.length sk] 91)) (by simp))
    have HU := Lib.hid (((((HU0.out.seq hu1).setCell ⟨w.heap.size, 0, none⟩ (iv x) (.inr (Nat.le_refl _))).setCell ⟨w.heap.size, 1, none⟩ (sv nm) (.inr (Nat.le_refl _))).setCell ⟨w.heap.size, 2, none⟩ (.int .i64 (bs.length : Int)) (.inr (Nat.le_refl _))).alloc (.cells #[sv nm, .slice sa bs.length sk] 91))
    clear hu1 hB1
    go_wp2_with fail
    have e0 := HB.out.cell 0
    have e1 := HB.out.cell 1
    have e2 := HB.out.cell 2
    have hU := HU.out
    clear HB HU
    generalize World.alloc _ _ = W at *
    rw [HY.out]
    exact bodyPost_ret (v := .tuple #[af (x, nm, (bs.length : Int)), .bool true]) (by simp [results, Try.results20, go_sem, e0, e1, e2]; try rfl) rfl ⟨rfl, hU⟩
end
end Go.Proofs.Ytmhdhnipljonlaa
namespace Go.Proofs.Ytmhdhnipljonlaa
open Go.RowKit
set_option linter.unusedSimpArgs false
set_option linter.unusedVariables false
theorem afCells_len : ∀ p, (afCells p).length = 3 := fun _ => rfl
theorem afCells_one : ∀ p, ∀ u ∈ afCells p, u.oneCell' = true := by intro p u hu; simp [afCells] at hu; rcases hu with rfl | rfl | rfl <;> rfl
theorem infoAF : (Try.prog.info? 31).map (fun i => (i.zero, i.size, i.bytes)) = some (some (.agg #[.int .i64 0, .string ⟨#[]⟩, .int .i64 0]), 3, 32) := by kernel_rfl
theorem undAF : Try.prog.underlying 32 = some (.slice 31) := by kernel_rfl
theorem files_take (cs : CL) (k : Nat) (hk : k < cs.length) : (yFiles (filesOf cs)).take (k + 1) = (yFiles (filesOf cs)).take k ++ [((nth cs k).1, (nth cs k).2.1.1, ((nth cs k).2.2.length : Int))] := by
  have h2 : k < (filesOf cs).length := by rw [files_len]; exact hk
  show (List.map tellF (filesOf cs)).take (k + 1) = (List.map tellF (filesOf cs)).take k ++ _
  rw [List.take_succ_eq_append_getElem (by rw [List.length_map]; exact h2), List.getElem_map, ← nth_get (filesOf cs) k h2, nth_files cs k hk]
  rfl
section
variable {w0 w : World} {gy : Nat} {G : List Nat} {fl : FL} {tk : List (Int × Int)}
set_option maxRecDepth 20000 in
set_option maxHeartbeats 1000000 in
theorem yFiles_any (h : YD w0 w gy G fl tk) :
    Calls Try.prog 19 #[.pointer (some ⟨gy, 0, none⟩)] w fun e w' => ∃ v, e = .returned v ∧ OwnN 3 afCells w.heap.size 31 w' v (yFiles fl) ∧ Upd [] w w' := by
  obtain ⟨gf, gt, F, T, cs, hc, rfl, hlen, hin, rfl⟩ := h.ex
  have HC := Lib.hid hc
  have HRL : Hid ((rowsOf cs).length ≤ 100000) := by unfold Hid; rw [rows_len]; omega
  have HLC : Hid (((rowsOf cs).length : Int) = (cs.length : Int)) := by unfold Hid; rw [rows_len]
  have y0 := hc.p0
  clear hc h hin
  go_enter Try.func19, Try.ntmps19
  go_wp2_with fail
  (with_reducible refine (txIF_Len _ HC.out.files HLC.out).mono ?_)
  rintro e w' ⟨rfl, rfl⟩
  clear y0
  go_wp2_with fail
  go_loopw [3, 13] (fun v i wr => ∃ k : Nat, k ≤ cs.length ∧ i = .int .i64 k ∧ Hid (OwnN 3 afCells w.heap.size 31 wr v ((yFiles (filesOf cs)).take k)) ∧ Hid (Upd [] w wr)) (fun _ i _ => cs.length - (intOf i).toNat)
  case atStart => exact ⟨0, Nat.zero_le _, rfl, OwnN.nil _ _ _, Upd.refl _ _⟩
  case round =>
    obtain ⟨k, hk, rfl, ho, hu⟩ := hrel
    by_cases hlt : k < cs.length
    · have HT := Lib.hid (files_take cs k hlt)
      have HA := Lib.hid (tAt_rows cs k hlt)
      have HM := Lib.hid (HC.out.own _ (nth_mem k hlt))
      have hlen2 : ((yFiles (filesOf cs)).take k).length = k := by unfold yFiles; rw [List.length_take, List.length_map, files_len]; omega
      generalize nth cs k = c0 at *
      obtain ⟨x, ⟨nm, sl⟩, bs⟩ := c0
      have hsn : sl.n = bs.length := by
        have ho := HM.out
        rcases ho.2 with ⟨he, h0⟩ | ⟨g', cap', cur, he, -⟩
        · injection he with e1 e2 e3; rw [e2]; exact h0.symm
        · injection he with e1 e2 e3
      obtain ⟨sa, sn, sk⟩ := sl
      have hsn : sn = bs.length := hsn
      subst hsn
      have HT : Hid ((yFiles (filesOf cs)).take (k + 1) = (yFiles (filesOf cs)).take k ++ [(x, nm, (bs.length : Int))]) := HT
      obtain ⟨ao2, co2, rfl, -⟩ := ho.out.rd afCells_len
      rw [hlen2] at ho ⊢
      have HLEN := Lib.hid hlen2
      have HKS : Hid (∃ ks, ks = (yFiles (filesOf cs)).take k) := ⟨_, rfl⟩
      generalize hks : (yFiles (filesOf cs)).take k = ks at *
      clear hlen2 hks HKS HM
      have q0 : (0 : Int) ≤ k := by omega
      have q1 : (k : Int) < cs.length := by omega
      have HI64 : Hid (I64 (k : Int)) := ⟨by omega, by omega⟩
      have HB : Hid ((ks.length + [(x, nm, (bs.length : Int))].length) * 32 ≤ 140737488355328) := by unfold Hid; rw [HLEN.out]; simp; omega
      have HL : Hid (ks.length + [(x, nm, (bs.length : Int))].length ≤ maxLen) := by unfold Hid maxLen; rw [HLEN.out]; simp; omega
      have y1 := (HC.out.upd0 hu.out).p0
      go_wp2_with fail
      (with_reducible refine (txIF_At (k : Int) x (nm, ⟨sa, bs.length, sk⟩) true HI64.out ((HC.out.upd0 hu.out).files) HRL.out HA.out).mono ?_)
      rintro e w2 ⟨rfl, hu2⟩
      have HU2 := Lib.hid ((hu.out.seq hu2).alloc (.cells #[sv nm, .slice sa bs.length sk] 91))
      have HO2 := Lib.hid (ho.out.upd (hu2.alloc (.cells #[sv nm, .slice sa bs.length sk] 91)) (by simp))
      have hsz2 := HU2.out.size
      have HRD : Hid (RdN 3 afCells ((w2.alloc (.cells #[sv nm, .slice sa bs.length sk] 91)).alloc (.cells #[iv x, sv nm, .int .i64 (bs.length : Int)] 31)) (.slice (some ⟨w2.heap.size + 1, 0, none⟩) 1 1) [(x, nm, (bs.length : Int))]) := by
        have hb := Blk.new (w2.alloc (.cells #[sv nm, .slice sa bs.length sk] 91)) 31 [iv x, sv nm, .int .i64 (bs.length : Int)]
        refine ⟨_, 1, rfl, by simp, by simp [maxLen], fun _ => ⟨w2.heap.size + 1, 0, rfl, fun j hj i hi => ?_⟩⟩
        simp at hj; subst hj
        have := hb.cell i
        rw [show (w2.alloc (.cells #[sv nm, .slice sa bs.length sk] 91)).heap.size = w2.heap.size + 1 by simp] at this
        rw [nth_cons_zero, show 0 + (0 * 3 + i) = i by omega]; exact this
      clear hu2 y1 ho
      go_wp2_with (at_builtin; go_must (refine wpList_app_of rfl _ _ rfl (.slice ao2 k co2) (.slice (some ⟨w2.heap.size + 1, 0, none⟩) 1 1) rfl rfl (run_appN (c := afCells) afCells_len (by decide) afCells_one undAF infoAF rfl _ _ ks [(x, nm, (bs.length : Int))] (HO2.out.upd ((Upd.refl [] _).alloc _) (by simp)) HRD.out HB.out HL.out (by simp at hsz2 ⊢; omega)) ?_; rintro v1 w3 ⟨ho3, hu3, hk3⟩; have HO3 := Lib.hid ho3; have HU3 : Hid (Upd [] w w3) := ((HU2.out.alloc _).trans hu3 (by simp) (fun y hy => .inr (HO2.out.ge y hy).1)); clear ho3 hu3 hk3))
      go_roundw
      case rel => exact ⟨k + 1, by omega, by go_num, by rw [HT.out]; exact HO3, HU3⟩
      case measure => simp [intOf]; omega
    · obtain rfl : k = cs.length := by omega
      go_wp2_with fail
      go_ret
      exact ⟨_, rfl, by have := ho.out; rwa [List.take_of_length_le (by unfold yFiles; rw [List.length_map, files_len]; omega)] at this, hu.out⟩
end
end Go.Proofs.Ytmhdhnipljonlaa
namespace Go.Proofs.Ytmhdhnipljonlaa
open Go.RowKit
set_option linter.unusedSimpArgs false
set_option linter.unusedVariables false
set_option maxHeartbeats 400000 in
theorem sameAF_ok (v u : Value) (l : List AF) (w : World) (h : RdN 3 afCells w v l) (h2 : RdN 3 afCells w u l) :
    Calls Try.prog 18 #[v, u] w fun e w' => e = .returned (.bool true) ∧ Upd [] w w' := by
  obtain ⟨a, cap, rfl, hlc, hm, hc⟩ := h
  obtain ⟨a2, cap2, rfl, hlc2, hm2, hc2⟩ := h2
  have hm' : l.length ≤ 9223372036854775807 := by unfold maxLen at hm; omega
  clear hm hlc hm2 hlc2
  have H1 := Lib.hid hc
  have H2 := Lib.hid hc2
  clear hc hc2
  go_enter Try.func18, Try.ntmps18
  go_wp2
  go_loopw [5] (fun i wr => ∃ k : Nat, k ≤ l.length ∧ i = .int .i64 k ∧ Hid (Upd [] w wr)) (fun i _ => l.length - (intOf i).toNat)
  case atStart => exact ⟨0, Nat.zero_le _, rfl, Upd.refl _ _⟩
  case round =>
    obtain ⟨k, hk, rfl, hu⟩ := hrel
    by_cases hlt : k < l.length
    · obtain ⟨b, off, rfl, hc'⟩ := H1.out (by intro h; simp [h] at hlt)
      obtain ⟨b2, off2, rfl, hc2'⟩ := H2.out (by intro h; simp [h] at hlt)
      have d0 : wr.cell? ⟨b, off + k * 3, none⟩ = some (iv (nth l k).1) := hu.out.cell (hc' k hlt 0 (by omega)) (by simp)
      have d1 : wr.cell? ⟨b, off + k * 3 + 1, none⟩ = some (sv (nth l k).2.1) := hu.out.cell (hc' k hlt 1 (by omega)) (by simp)
      have d2 : wr.cell? ⟨b, off + k * 3 + 2, none⟩ = some (iv (nth l k).2.2) := hu.out.cell (hc' k hlt 2 (by omega)) (by simp)
      have e0 : wr.cell? ⟨b2, off2 + k * 3, none⟩ = some (iv (nth l k).1) := hu.out.cell (hc2' k hlt 0 (by omega)) (by simp)
      have e1 : wr.cell? ⟨b2, off2 + k * 3 + 1, none⟩ = some (sv (nth l k).2.1) := hu.out.cell (hc2' k hlt 1 (by omega)) (by simp)
      have e2 : wr.cell? ⟨b2, off2 + k * 3 + 2, none⟩ = some (iv (nth l k).2.2) := hu.out.cell (hc2' k hlt 2 (by omega)) (by simp)
      clear hc' hc2'
      generalize (nth l k).1 = x at *
      generalize (nth l k).2.1 = y at *
      generalize (nth l k).2.2 = z at *
      have q0 : (0 : Int) ≤ k := by omega
      have q1 : (k : Int) < (l.length : Int) := by omega
      go_wp2_with fail
      go_quiet (fail)
      go_wp2_with fail
      go_roundw
      case rel => exact ⟨k + 1, by omega, by go_num, by first | exact hu.out.drewN _ | exact hu.out.drew⟩
      case measure => simp [intOf]; omega
    · obtain rfl : k = l.length := by omega
      go_wp2_with fail
      go_ret
      exact ⟨rfl, hu.out⟩
end Go.Proofs.Ytmhdhnipljonlaa
namespace Go.Proofs.Ytmhdhnipljonlaa
open Go.RowKit
set_option linter.unusedSimpArgs false
set_option linter.unusedVariables false
abbrev fileF : (ByteArray × Sl) × List UInt8 → ByteArray × List UInt8 := fun v => (v.1.1, v.2)
theorem mem_delYR {ν : Type} [Inhabited ν] {l : List (Int × ν)} (h : Rising ltY l) {k : Int} {p : Int × ν} (hp : p ∈ l) (hne : k ≠ p.1) : p ∈ tDel ltY l k := by
  unfold tDel
  split
  · rename_i hin
    unfold isIn at hin
    obtain ⟨h1, h2⟩ := of_decide_eq_true hin
    rw [← List.take_append_drop (below ltY l k) l] at hp
    rcases List.mem_append.1 hp with q | q
    · exact List.mem_append_left _ q
    · rw [List.drop_eq_getElem_cons h1] at q
      rcases List.mem_cons.1 q with q | q
      · exfalso; apply hne
        rw [← h2, nth_get l _ h1, q]
      · exact List.mem_append_right _ q
  · exact hp
section
variable {w0 w : World} {gy : Nat} {G : List Nat} {fl : FL} {tk : List (Int × Int)}
set_option maxRecDepth 20000 in
set_option maxHeartbeats 2000000 in
theorem yRename_any (s t : ByteArray) (h : YD w0 w gy G fl tk) :
    Calls Try.prog 17 #[.pointer (some ⟨gy, 0, none⟩), sv s, sv t] w (YDoes w0 w gy G tk (yRename fl s t)) := by
  obtain ⟨gf, gt, F, T, cs, hc, rfl, hlen, hin, rfl⟩ := h.ex
  have HC := Lib.hid hc
  have hlen1 : cs.length ≤ 1000 := by omega
  have HIN := Lib.hid hin
  have HD := Lib.hid h
  cases hn : nameOk t with
  | false =>
    have HY : Hid (yRename (filesOf cs) s t = (14, filesOf cs)) := by unfold Hid yRename; rw [hn]; rfl
    have HN := Lib.hid (named_any w t)
    rw [hn] at HN
    clear hc h hin hn
    go_enter Try.func17, Try.ntmps17
    go_wp2_with fail
    (with_reducible refine HN.out.mono ?_)
    rintro e w' ⟨rfl, rfl⟩
    go_wp2_with fail
    go_ret
    exact ⟨by rw [HY.out]; rfl, by rw [HY.out]; exact HD.out.out0 (Upd.refl _ _)⟩
  | true =>
   have HN := Lib.hid (named_any w t)
   rw [hn] at HN
   cases hh : hasN (filesOf cs) s with
   | false =>
    have HY : Hid (yRename (filesOf cs) s t = (7, filesOf cs)) := by unfold Hid yRename; rw [hn, hh]; rfl
    have HF := Lib.hid (yFind_no s HC.out hlen1 hh)
    clear hc h hin hh hn
    go_enter Try.func17, Try.ntmps17
    go_wp2_with fail
    (with_reducible refine HN.out.mono ?_)
    rintro e w' ⟨rfl, rfl⟩
    go_wp2_with fail
    (with_reducible refine HF.out.mono ?_)
    rintro e w1 ⟨rfl, hu1⟩
    have HU1 := Lib.hid (hu1.alloc (.cells #[.string ⟨#[]⟩, .slice none 0 0] 91))
    clear hu1
    go_wp2_with fail
    go_ret
    exact ⟨by rw [HY.out]; rfl, by rw [HY.out]; exact HD.out.out0 HU1.out⟩
   | true =>
    have HF := Lib.hid (yFind_yes s _ HC.out hlen1 hh rfl)
    have hlt : findN (filesOf cs) s < cs.length := by unfold hasN at hh; have := of_decide_eq_true hh; rwa [files_len] at this
    have hat := findN_at (filesOf cs) s (by rw [files_len]; exact hlt)
    rw [nth_files cs _ hlt] at hat
    have hmem : nth cs (findN (filesOf cs) s) ∈ cs := nth_mem _ hlt
    have hino : inoN (filesOf cs) s = (nth cs (findN (filesOf cs) s)).1 := by unfold inoN; rw [nth_files cs _ hlt]
    have hby : bytesN (filesOf cs) s = (nth cs (findN (filesOf cs) s)).2.2 := by unfold bytesN; rw [nth_files cs _ hlt]
    generalize nth cs (findN (filesOf cs) s) = c0 at *
    obtain ⟨x, ⟨nm, sl⟩, bs⟩ := c0
    have hat : nm = s := hat
    subst hat
    have hino : inoN (filesOf cs) nm = x := hino
    have hby : bytesN (filesOf cs) nm = bs := hby
    have hx := hin _ hmem
    have hx1 : (1 : Int) ≤ x := hx.1
    have hx2 : x ≤ 12 := hx.2.1
    have hbl : bs.length ≤ 65536 := hx.2.2
    have HX : Hid (I64 x) := ⟨by omega, by omega⟩
    have hx0 : (x == 0) = false := by rw [beq_eq_false_iff_ne]; omega
    have HMEM := Lib.hid hmem
    have ho := hc.own _ hmem
    have HO : Hid (Own bv w0.heap.size 5 w (slv sl) bs) := ho
    have hsn : sl.n = bs.length := by
      rcases ho.2 with ⟨he, h0⟩ | ⟨g', cap', cur, he, -⟩
      · injection he with e1 e2 e3; rw [e2]; exact h0.symm
      · injection he with e1 e2 e3
    obtain ⟨sa, sn, sk⟩ := sl
    have hsn : sn = bs.length := hsn
    subst hsn
    have HH := Lib.hid hh
    have HNM := Lib.hid hn
    have HINO := Lib.hid hino
    have HBY := Lib.hid hby
    clear hc h hin hh hlt hmem ho hx hn hino hby
    cases ht : hasN (filesOf cs) t with
    | false =>
      have HY : Hid (yRename (filesOf cs) nm t = (0, tSet ltY (filesOf cs) x (t, bs))) := by unfold Hid yRename; rw [HNM.out, HH.out, ht, HINO.out, HBY.out]; simp
      have HF2 := Lib.hid (fun W (hu : Upd [] w W) => yFind_no t (HC.out.upd0 hu) hlen1 ht)
      clear ht
      go_enter Try.func17, Try.ntmps17
      go_wp2_with fail
      (with_reducible refine HN.out.mono ?_)
      rintro e w' ⟨rfl, rfl⟩
      go_wp2_with fail
      (with_reducible refine HF.out.mono ?_)
      rintro e w1 ⟨rfl, hu1⟩
      have HU1 := Lib.hid (hu1.alloc (.cells #[sv nm, .slice sa bs.length sk] 91))
      have HB1 := Lib.hid (Blk.new w1 91 [sv nm, .slice sa bs.length sk])
      have hs1 := hu1.size
      clear hu1
      go_wp2_with fail
      (with_reducible refine (HF2.out _ HU1.out).mono ?_)
      rintro e w2 ⟨rfl, hu2⟩
      have HUb := Lib.hid ((HU1.out.seq hu2).alloc (.cells #[.string ⟨#[]⟩, .slice none 0 0] 91))
      have hb2 := HB1.out.upd hu2 (by simp)
      have hlt2 : w1.heap.size < w2.heap.size := hb2.lt
      have hbb : Blk (w2.alloc (.cells #[.string ⟨#[]⟩, .slice none 0 0] 91)) w1.heap.size 91 [sv nm, .slice sa bs.length sk] := hb2.upd ((Upd.refl [] w2).alloc _) (by simp)
      have d0 := hbb.cell 0
      have d1 := hbb.cell 1
      have f0 := hbb.frozen 0
      simp only [List.getElem?_cons_zero, List.getElem?_cons_succ] at d0 d1
      have HB4 := Lib.hid ((hb2.set_ 0 (sv t)).upd ((Upd.refl [] _).alloc (.cells #[.string ⟨#[]⟩, .slice none 0 0] 91)) (by simp))
      have HU4' := ((HU1.out.seq hu2).setCell ⟨w1.heap.size, 0, none⟩ (sv t) (.inr hs1)).alloc (.cells #[.string ⟨#[]⟩, .slice none 0 0] 91)
      have HC4 := Lib.hid (HC.out.upd0 HU4')
      have HU4 := Lib.hid (show Upd (foot gy F T cs) w _ from HU4'.mono (by simp))
      clear hu2 hb2 hbb HU4'
      go_wp2_with fail
      generalize (w2.setCell ⟨w1.heap.size, 0, none⟩ (sv t)).alloc (.cells #[.string ⟨#[]⟩, .slice none 0 0] 91) = w4 at *
      have e0 := HB4.out.cell 0
      have e1 := HB4.out.cell 1
      simp only [List.set_cons_zero, List.getElem?_cons_zero, List.getElem?_cons_succ] at e0 e1
      have y1 := HC4.out.p0
      go_still_tail 6, (by kernel_rfl)
      change wpList _ _ _ _ _ w4.drew
      have HM2 : Hid ((x, (nm, (⟨sa, bs.length, sk⟩ : Sl)), bs) ∈ cs) := HMEM.out
      have HO4 := Lib.hid (HC4.out.own _ HM2.out)
      have HAPD : Hid (∀ d ∈ cs, d.1 ≠ x → Ap (blk (slv ⟨sa, bs.length, sk⟩)) (blk (slv d.2.1.2))) := fun d hd hne => HC4.out.ap _ HM2.out d hd (fun e => hne e.symm)
      have hl4 : (cs).length ≤ cs.length := Nat.le_refl _
      go_wp2_with fail
      (with_reducible refine ((HC4.out.upd0 (Upd.refl [] _).drew).set (by omega) x HX.out t ⟨sa, bs.length, sk⟩ bs (HO4.out.upd (Upd.refl [] _).drew (by simp)) HAPD.out).mono ?_)
      rintro e w5 ⟨⟨r5, rfl⟩, F', hc5, hu5, hf5⟩
      have HC5 := Lib.hid hc5
      have HU5 := Lib.hid hu5
      have HF5 := Lib.hid hf5
      clear hc5 hu5 hf5
      go_wp2_with fail
      go_ret
      refine ⟨by rw [HY.out]; rfl, ?_⟩
      rw [HY.out]
      have hsz := HU4.out.size
      have hfr : ∀ y ∈ F, y ∈ foot gy F T cs ∨ w.heap.size ≤ y := (fun y hy => .inl (foot_F hy))
      refine YOut.of HC5.out ?_ ?_ ?_ (HU4.out.drew.trans HU5.out (fun y hy => hy) (fun y hy => hfr y hy)) (fun y hy => (HF5.out y hy).elim (fun q => hfr y q) (fun q => .inr (by simp at q; omega))) (fun y hy => .inl (foot_T hy)) ?_
      · exact (mapY_set fileF cs x ((t, ⟨sa, bs.length, sk⟩), bs)).symm
      · have hin5 := isIn_mem HC4.out.ris _ HM2.out
        rw [tSet_in (cs) x _ hin5, List.length_set]; omega
      · intro c hcm
        rcases tSet_mem (cs) _ _ c hcm with rfl | q
        · exact ⟨hx1, hx2, hbl⟩
        · exact HIN.out c ((fun c hc => hc) c q)
      · intro c hcm y hy
        rcases tSet_mem (cs) _ _ c hcm with rfl | q
        · exact .inl (foot_c HMEM.out hy)
        · exact .inl (foot_c ((fun c hc => hc) c q) hy)
    | true =>
      have HF2 := Lib.hid (fun W (hu : Upd [] w W) => yFind_yes t _ (HC.out.upd0 hu) hlen1 ht rfl)
      have hlt2 : findN (filesOf cs) t < cs.length := by unfold hasN at ht; have := of_decide_eq_true ht; rwa [files_len] at this
      have hmem2 : nth cs (findN (filesOf cs) t) ∈ cs := nth_mem _ hlt2
      have hino2 : inoN (filesOf cs) t = (nth cs (findN (filesOf cs) t)).1 := by unfold inoN; rw [nth_files cs _ hlt2]
      generalize nth cs (findN (filesOf cs) t) = c2 at *
      obtain ⟨x2, ⟨nm2, sl2⟩, bs2⟩ := c2
      have hino2 : inoN (filesOf cs) t = x2 := hino2
      have hxx := HIN.out _ hmem2
      have hxx1 : (1 : Int) ≤ x2 := hxx.1
      have hxx2 : x2 ≤ 12 := hxx.2.1
      have HX2 : Hid (I64 x2) := ⟨by omega, by omega⟩
      have hx20 : (x2 != 0) = true := by rw [bne_iff_ne]; omega
      by_cases hsame : x2 = x
      · have hsame' := hsame.symm
        subst hsame'
        have HY : Hid (yRename (filesOf cs) nm t = (0, tSet ltY (filesOf cs) x (t, bs))) := by unfold Hid yRename; rw [HNM.out, HH.out, ht, HINO.out, HBY.out, hino2]; simp
        clear ht hlt2 hmem2 hino2 hxx
        go_enter Try.func17, Try.ntmps17
        go_wp2_with fail
        (with_reducible refine HN.out.mono ?_)
        rintro e w' ⟨rfl, rfl⟩
        go_wp2_with fail
        (with_reducible refine HF.out.mono ?_)
        rintro e w1 ⟨rfl, hu1⟩
        have HU1 := Lib.hid (hu1.alloc (.cells #[sv nm, .slice sa bs.length sk] 91))
        have HB1 := Lib.hid (Blk.new w1 91 [sv nm, .slice sa bs.length sk])
        have hs1 := hu1.size
        clear hu1
        go_wp2_with fail
        (with_reducible refine (HF2.out _ HU1.out).mono ?_)
        rintro e w2 ⟨rfl, hu2⟩
        have HUb := Lib.hid ((HU1.out.seq hu2).alloc (.cells #[sv nm2, slv sl2] 91))
        have hb2 := HB1.out.upd hu2 (by simp)
        have hlt2 : w1.heap.size < w2.heap.size := hb2.lt
        have hbb : Blk (w2.alloc (.cells #[sv nm2, slv sl2] 91)) w1.heap.size 91 [sv nm, .slice sa bs.length sk] := hb2.upd ((Upd.refl [] w2).alloc _) (by simp)
        have d0 := hbb.cell 0
        have d1 := hbb.cell 1
        have f0 := hbb.frozen 0
        simp only [List.getElem?_cons_zero, List.getElem?_cons_succ] at d0 d1
        have HB4 := Lib.hid ((hb2.set_ 0 (sv t)).upd ((Upd.refl [] _).alloc (.cells #[sv nm2, slv sl2] 91)) (by simp))
        have HU4' := ((HU1.out.seq hu2).setCell ⟨w1.heap.size, 0, none⟩ (sv t) (.inr hs1)).alloc (.cells #[sv nm2, slv sl2] 91)
        have HC4 := Lib.hid (HC.out.upd0 HU4')
        have HU4 := Lib.hid (show Upd (foot gy F T cs) w _ from HU4'.mono (by simp))
        clear hu2 hb2 hbb HU4'
        go_wp2_with fail
        generalize (w2.setCell ⟨w1.heap.size, 0, none⟩ (sv t)).alloc (.cells #[sv nm2, slv sl2] 91) = w4 at *
        have e0 := HB4.out.cell 0
        have e1 := HB4.out.cell 1
        simp only [List.set_cons_zero, List.getElem?_cons_zero, List.getElem?_cons_succ] at e0 e1
        have y1 := HC4.out.p0
        go_still_tail 6, (by kernel_rfl)
        change wpList _ _ _ _ _ w4.drew
        have HM2 : Hid ((x, (nm, (⟨sa, bs.length, sk⟩ : Sl)), bs) ∈ cs) := HMEM.out
        have HO4 := Lib.hid (HC4.out.own _ HM2.out)
        have HAPD : Hid (∀ d ∈ cs, d.1 ≠ x → Ap (blk (slv ⟨sa, bs.length, sk⟩)) (blk (slv d.2.1.2))) := fun d hd hne => HC4.out.ap _ HM2.out d hd (fun e => hne e.symm)
        have hl4 : (cs).length ≤ cs.length := Nat.le_refl _
        go_wp2_with fail
        (with_reducible refine ((HC4.out.upd0 (Upd.refl [] _).drew).set (by omega) x HX.out t ⟨sa, bs.length, sk⟩ bs (HO4.out.upd (Upd.refl [] _).drew (by simp)) HAPD.out).mono ?_)
        rintro e w5 ⟨⟨r5, rfl⟩, F', hc5, hu5, hf5⟩
        have HC5 := Lib.hid hc5
        have HU5 := Lib.hid hu5
        have HF5 := Lib.hid hf5
        clear hc5 hu5 hf5
        go_wp2_with fail
        go_ret
        refine ⟨by rw [HY.out]; rfl, ?_⟩
        rw [HY.out]
        have hsz := HU4.out.size
        have hfr : ∀ y ∈ F, y ∈ foot gy F T cs ∨ w.heap.size ≤ y := (fun y hy => .inl (foot_F hy))
        refine YOut.of HC5.out ?_ ?_ ?_ (HU4.out.drew.trans HU5.out (fun y hy => hy) (fun y hy => hfr y hy)) (fun y hy => (HF5.out y hy).elim (fun q => hfr y q) (fun q => .inr (by simp at q; omega))) (fun y hy => .inl (foot_T hy)) ?_
        · exact (mapY_set fileF cs x ((t, ⟨sa, bs.length, sk⟩), bs)).symm
        · have hin5 := isIn_mem HC4.out.ris _ HM2.out
          rw [tSet_in (cs) x _ hin5, List.length_set]; omega
        · intro c hcm
          rcases tSet_mem (cs) _ _ c hcm with rfl | q
          · exact ⟨hx1, hx2, hbl⟩
          · exact HIN.out c ((fun c hc => hc) c q)
        · intro c hcm y hy
          rcases tSet_mem (cs) _ _ c hcm with rfl | q
          · exact .inl (foot_c HMEM.out hy)
          · exact .inl (foot_c ((fun c hc => hc) c q) hy)
      · have HY : Hid (yRename (filesOf cs) nm t = (0, tSet ltY (tDel ltY (filesOf cs) x2) x (t, bs))) := by unfold Hid yRename; rw [HNM.out, HH.out, ht, HINO.out, HBY.out, hino2]; simp [hsame]
        have hne : (x2 != x) = true := by rw [bne_iff_ne]; exact hsame
        clear ht hlt2 hmem2 hino2 hxx
        go_enter Try.func17, Try.ntmps17
        go_wp2_with fail
        (with_reducible refine HN.out.mono ?_)
        rintro e w' ⟨rfl, rfl⟩
        go_wp2_with fail
        (with_reducible refine HF.out.mono ?_)
        rintro e w1 ⟨rfl, hu1⟩
        have HU1 := Lib.hid (hu1.alloc (.cells #[sv nm, .slice sa bs.length sk] 91))
        have HB1 := Lib.hid (Blk.new w1 91 [sv nm, .slice sa bs.length sk])
        have hs1 := hu1.size
        clear hu1
        go_wp2_with fail
        (with_reducible refine (HF2.out _ HU1.out).mono ?_)
        rintro e w2 ⟨rfl, hu2⟩
        have HUb := Lib.hid ((HU1.out.seq hu2).alloc (.cells #[sv nm2, slv sl2] 91))
        have hb2 := HB1.out.upd hu2 (by simp)
        have hlt2 : w1.heap.size < w2.heap.size := hb2.lt
        have hbb : Blk (w2.alloc (.cells #[sv nm2, slv sl2] 91)) w1.heap.size 91 [sv nm, .slice sa bs.length sk] := hb2.upd ((Upd.refl [] w2).alloc _) (by simp)
        have HBb := Lib.hid hbb
        have y0 := (HC.out.upd0 HUb.out).p0
        clear hu2 hb2 hbb
        go_wp2_with fail
        (with_reducible refine ((HC.out.upd0 HUb.out).del hlen1 x2 HX2.out).mono ?_)
        rintro e w3 ⟨⟨r, rfl⟩, F3, hc3, hu3, hf3⟩
        have hgF : w1.heap.size ∉ F := fun h => by have := (HC.out.files.ge _ h).2; omega
        have hb3 := HBb.out.upd hu3 hgF
        have HC3 := Lib.hid hc3
        have HU3 := Lib.hid (show Upd (foot gy F T cs) w w3 from HUb.out.trans hu3 (by simp) (fun y hy => .inl (foot_F hy)))
        have HF3 := Lib.hid (show ∀ y ∈ F3, y ∈ foot gy F T cs ∨ w.heap.size ≤ y from fun y hy => (hf3 y hy).imp foot_F (fun q => by have := HUb.out.size; omega))
        have d0 := hb3.cell 0
        have d1 := hb3.cell 1
        have f0 := hb3.frozen 0
        simp only [List.getElem?_cons_zero, List.getElem?_cons_succ] at d0 d1
        have HB4 := Lib.hid (hb3.set_ 0 (sv t))
        have hg1 : w1.heap.size ∉ foot gy F3 T (tDel ltY cs x2) := fun h => by
          rcases (foot_mem _ _ _ _ _).1 h with e | h | h | ⟨c, hcm, h⟩
          · have := HC.out.yard.lt; omega
          · rcases hf3 _ h with q | q
            · exact hgF q
            · simp at q; omega
          · have := (HC.out.taken.ge _ h).2; omega
          · have := ((HC.out.own c (tDel_mem cs x2 c hcm)).ge _ h).2; omega
        have HC4 := Lib.hid (HC3.out.upd ((Upd.refl [w1.heap.size] w3).setCell ⟨w1.heap.size, 0, none⟩ (sv t) (.inl (by simp))) (fun y hy h => hg1 (by simp at h; rw [← h]; exact hy)) (fun y hy => by simp at hy; have := HC.out.old.size; omega))
        have HU4 := Lib.hid (HU3.out.setCell ⟨w1.heap.size, 0, none⟩ (sv t) (.inr hs1))
        have hs34 : w3.heap.size = (w3.setCell ⟨w1.heap.size, 0, none⟩ (sv t)).heap.size := by simp
        clear hc3 hu3 hf3 hb3 hgF hg1 HU3 HC3 HBb y0
        go_wp2_with fail
        generalize w3.setCell ⟨w1.heap.size, 0, none⟩ (sv t) = w4 at *
        have e0 := HB4.out.cell 0
        have e1 := HB4.out.cell 1
        simp only [List.set_cons_zero, List.getElem?_cons_zero, List.getElem?_cons_succ] at e0 e1
        have y1 := HC4.out.p0
        go_still_tail 6, (by kernel_rfl)
        change wpList _ _ _ _ _ w4.drew
        have HM2 : Hid ((x, (nm, (⟨sa, bs.length, sk⟩ : Sl)), bs) ∈ (tDel ltY cs x2)) := mem_delYR HC.out.ris HMEM.out (by simpa using hne)
        have HO4 := Lib.hid (HC4.out.own _ HM2.out)
        have HAPD : Hid (∀ d ∈ (tDel ltY cs x2), d.1 ≠ x → Ap (blk (slv ⟨sa, bs.length, sk⟩)) (blk (slv d.2.1.2))) := fun d hd hne => HC4.out.ap _ HM2.out d hd (fun e => hne e.symm)
        have hl4 : ((tDel ltY cs x2)).length ≤ cs.length := tDel_len cs x2
        go_wp2_with fail
        (with_reducible refine ((HC4.out.upd0 (Upd.refl [] _).drew).set (by omega) x HX.out t ⟨sa, bs.length, sk⟩ bs (HO4.out.upd (Upd.refl [] _).drew (by simp)) HAPD.out).mono ?_)
        rintro e w5 ⟨⟨r5, rfl⟩, F', hc5, hu5, hf5⟩
        have HC5 := Lib.hid hc5
        have HU5 := Lib.hid hu5
        have HF5 := Lib.hid hf5
        clear hc5 hu5 hf5
        go_wp2_with fail
        go_ret
        refine ⟨by rw [HY.out]; rfl, ?_⟩
        rw [HY.out]
        have hsz := HU4.out.size
        have hfr : ∀ y ∈ F3, y ∈ foot gy F T cs ∨ w.heap.size ≤ y := HF3.out
        refine YOut.of HC5.out ?_ ?_ ?_ (HU4.out.drew.trans HU5.out (fun y hy => hy) (fun y hy => hfr y hy)) (fun y hy => (HF5.out y hy).elim (fun q => hfr y q) (fun q => .inr (by simp at q; omega))) (fun y hy => .inl (foot_T hy)) ?_
        · exact (mapY_set fileF (tDel ltY cs x2) x ((t, ⟨sa, bs.length, sk⟩), bs)).symm.trans (by rw [← mapY_del])
        · have hin5 := isIn_mem HC4.out.ris _ HM2.out
          rw [tSet_in ((tDel ltY cs x2)) x _ hin5, List.length_set]; omega
        · intro c hcm
          rcases tSet_mem ((tDel ltY cs x2)) _ _ c hcm with rfl | q
          · exact ⟨hx1, hx2, hbl⟩
          · exact HIN.out c ((fun c hc => tDel_mem cs x2 c hc) c q)
        · intro c hcm y hy
          rcases tSet_mem ((tDel ltY cs x2)) _ _ c hcm with rfl | q
          · exact .inl (foot_c HMEM.out hy)
          · exact .inl (foot_c ((fun c hc => tDel_mem cs x2 c hc) c q) hy)
end
end Go.Proofs.Ytmhdhnipljonlaa
namespace Go.Proofs.Ytmhdhnipljonlaa
open Go.RowKit
set_option linter.unusedSimpArgs false
set_option linter.unusedVariables false
def strOf (l : List UInt8) : ByteArray := ⟨l.toArray⟩
theorem convb_str {P : Program} {src dst e : TypeId} (hs : P.underlying src = some (.slice e)) (he : P.underlying e = some (.int .u8)) (hd : P.underlying dst = some .string) (w : World) (v : Value) (l : List UInt8) (h : Bytes w v l) :
    (convert src dst v).run P w = .ok (.string (strOf l)) w := by
  obtain ⟨a, cap, rfl, h1, h2, h3⟩ := h
  by_cases hne : l = []
  · subst hne
    cases a with
    | none => rw [run_convert_bytes_string w src dst e _ _ _ hs he hd]; simp [Conv.bytesToString]; rfl
    | some a => exact run_convert_bytes_back w src dst e a cap [] hs he hd (fun j hj => absurd hj (by simp))
  · obtain ⟨b, off, rfl, hc⟩ := h3 hne
    exact run_convert_bytes_back w src dst e _ cap l hs he hd (fun j hj => by rw [add_none, hc j hj, nth_get l j hj])
end Go.Proofs.Ytmhdhnipljonlaa
namespace Go.Proofs.Ytmhdhnipljonlaa
open Go.RowKit
set_option linter.unusedSimpArgs false
set_option linter.unusedVariables false
theorem i64_s (n : Int) (h : -10000 ≤ n) (h2 : n ≤ 10000) : I64 n := ⟨by omega, by omega⟩
theorem yTakenD {w0 w : World} {gy : Nat} {G : List Nat} {fl : FL} {tk : List (Int × Int)} (k v : Int) (hk : I64 k) (h : YD w0 w gy G fl tk) (htl : tk.length ≤ 50000) (hv : (tGet ltY (0 : Int) tk k).1 = v) :
    Calls Try.prog 22 #[.pointer (some ⟨gy, 0, none⟩), iv k] w fun e w' => e = .returned (iv v) ∧ Upd [] w w' := by
  obtain ⟨gf, gt, F, T, cs, hc, -⟩ := h.ex
  subst hv
  exact yTaken_any k _ (tGet ltY (0 : Int) tk k).2 hc (by omega) hk rfl
abbrev sA : ByteArray := ⟨#[97]⟩
abbrev sB : ByteArray := ⟨#[98]⟩
abbrev xyz : List UInt8 := [120, 121, 122]
abbrev fl3 : FL := [(1, (sB, xyz))]
abbrev fl4 : FL := [(1, (sB, xyz)), (2, (sA, []))]
theorem c_xyz (u : World) (C : Array Value) (g n c : Nat) (hg : g = u.heap.size) :
    (convert 27 27 (.slice (some ⟨g, 0, none⟩) n c)).run Try.prog (u.alloc (.cells C 5)) = .ok (.slice (some ⟨g, 0, none⟩) n c) (u.alloc (.cells C 5 (C.size, C.size + 1))) :=
  conv_lit Try.underlying27 Try.underlying5 u C g n c hg
set_option maxRecDepth 20000 in
set_option maxHeartbeats 4000000 in
theorem yardRuns_any (w : World) : Calls Try.prog 3 #[] w fun e w' => e = .returned (.bool true) ∧ Upd [] w w' := by
  have hconv := c_xyz
  go_enter Try.func3, Try.ntmps3
  go_wp2_with fail
  (with_reducible refine (yNew_any w _ (Upd.refl [] w)).mono ?_)
  rintro e w1 ⟨gy, rfl, ⟨G1, h1, -⟩, -⟩
  have H1 := Lib.hid h1
  clear h1
  go_wp2_with fail
  (with_reducible refine (yCreate_any sA H1.out).mono ?_)
  rintro e w2 ⟨rfl, G2, h2, -, -⟩
  have H2 : Hid (YD w w2 gy G2 [(1, (sA, []))] []) := h2
  rw [show (yCreate [] sA).1 = 0 by kernel_rfl]
  clear h2 H1
  go_wp2_with fail
  (with_reducible refine (yCreate_any sB H2.out).mono ?_)
  rintro e w3 ⟨rfl, G3, h3, -, -⟩
  have H3 : Hid (YD w w3 gy G3 [(1, (sA, [])), (2, (sB, []))] []) := h3
  rw [show (yCreate [(1, (sA, []))] sB).1 = 0 by kernel_rfl]
  clear h3 H2
  go_wp2_with fail
  have hp4 : Bytes (w3.alloc (.cells #[.int .u8 120, .int .u8 121, .int .u8 122] 5 (3, 4))) (.slice (some ⟨w3.heap.size, 0, none⟩) 3 3) xyz := Rd.lit xyz rfl rfl rfl (by decide) (by decide)
  have H4a := Lib.hid (H3.out.upd0 ((Upd.refl [] w3).alloc (.cells #[.int .u8 120, .int .u8 121, .int .u8 122] 5 (3, 4))))
  (with_reducible refine (yAppend_any sA _ xyz hp4 (by decide) H4a.out).mono ?_)
  rintro e w4 ⟨rfl, G4, h4, -, -⟩
  have H4 : Hid (YD w w4 gy G4 [(1, (sA, xyz)), (2, (sB, []))] []) := h4
  rw [show (yAppend [(1, (sA, [])), (2, (sB, []))] sA xyz).1 = 0 by kernel_rfl]
  clear h4 H3 H4a hp4
  go_wp2_with fail
  (with_reducible refine (yRename_any sA sB H4.out).mono ?_)
  rintro e w5 ⟨rfl, G5, h5, -, -⟩
  have H5 : Hid (YD w w5 gy G5 fl3 []) := h5
  rw [show (yRename [(1, (sA, xyz)), (2, (sB, []))] sA sB).1 = 0 by kernel_rfl]
  clear h5 H4
  go_wp2_with fail
  (with_reducible refine (yFiles_any H5.out).mono ?_)
  rintro e w6 ⟨v6, rfl, ho6, hu6⟩
  have H6 := Lib.hid ((H5.out.upd0 hu6).upd0 ((Upd.refl [] w6).alloc (.cells #[.int .i64 1, sv sB, .int .i64 3] 31)))
  have HO6 := Lib.hid (ho6.upd ((Upd.refl [] w6).alloc (.cells #[.int .i64 1, sv sB, .int .i64 3] 31)) (by simp))
  have HR6 : Hid (RdN 3 afCells (w6.alloc (.cells #[.int .i64 1, sv sB, .int .i64 3] 31)) (.slice (some ⟨w6.heap.size, 0, none⟩) 1 1) (yFiles fl3)) := by
    have hb := Blk.new w6 31 [.int .i64 1, sv sB, .int .i64 3]
    refine ⟨_, 1, rfl, by decide, by simp [maxLen], fun _ => ⟨w6.heap.size, 0, rfl, fun j hj i hi => ?_⟩⟩
    have hj0 : j = 0 := by have : (yFiles fl3).length = 1 := rfl; omega
    subst hj0
    have := hb.cell i
    rw [show 0 + (0 * 3 + i) = i by omega]; exact this
  obtain ⟨a6, c6, rfl, -⟩ := ho6.rd afCells_len
  clear ho6 hu6 H5
  go_wp2_with fail
  (with_reducible refine (sameAF_ok _ _ (yFiles fl3) _ (HO6.out.rd afCells_len) HR6.out).mono ?_)
  rintro e w7 ⟨rfl, hu7⟩
  have H7 := Lib.hid (H6.out.upd0 hu7)
  clear hu7 H6 HO6 HR6
  go_wp2_with fail
  (with_reducible refine (yCreate_any sA H7.out).mono ?_)
  rintro e w8 ⟨rfl, G8, h8, -, -⟩
  have H8 : Hid (YD w w8 gy G8 fl4 []) := h8
  rw [show (yCreate fl3 sA).1 = 0 by kernel_rfl]
  clear h8 H7
  go_wp2_with fail
  (with_reducible refine (yFindF_any sA H8.out).mono ?_)
  rintro e w9 ⟨rfl, hu9⟩
  rw [show yFindF fl4 sA = ((2, sA, 0), true) by kernel_rfl]
  have H9 := Lib.hid ((H8.out.upd0 hu9).upd0 ((Upd.refl [] w9).alloc (.cells #[.int .i64 2, sv sA, .int .i64 0] 31)))
  have hB9 := Lib.hid (Blk.new w9 31 [.int .i64 2, sv sA, .int .i64 0])
  have HN9 : Hid (w9.heap.size ∉ G8 ∧ ∀ x, w9.heap.size + 1 ≤ x → x ≠ w9.heap.size) := ⟨fun hx => by have := ((H8.out.upd0 hu9).ge _ hx).2; omega, fun x h => by omega⟩
  clear hu9 H8
  go_wp2_with fail
  (with_reducible refine (yRead_any 1 1 9 (i64_s _ (by omega) (by omega)) (i64_s _ (by omega) (by omega)) (i64_s _ (by omega) (by omega)) H9.out (by simp) (by simp)).mono ?_)
  rintro e w10 ⟨v10, rfl, ho10, G10, h10, hu10, -, hap10⟩
  have H10 : Hid (YD w w10 gy G10 fl4 [(1, 2)]) := h10
  have HO10 : Hid (Own bv _ 5 w10 v10 [121, 122]) := ho10
  have hB10 := hB9.out.upd hu10 HN9.out.1
  have D10 := Lib.hid (show w10.cell? ⟨w9.heap.size, 0, none⟩ = some (.int .i64 2) from hB10.cell 0)
  have HN10 : Hid (w9.heap.size ∉ G10) := fun hx => by
    obtain ⟨gf, gt, F, T, cs, hc, -, -, -, hG⟩ := h10.ex
    subst hG
    rcases (foot_mem _ _ _ _ _).1 hx with q | q | q | ⟨c, hcm, q⟩
    · have e1 := hB10
      rw [q] at e1
      have := ty_one e1 hc.yard
      exact absurd this (by decide)
    · obtain ⟨C, f, e, e1, e2⟩ := if_ty hc.files _ q
      have := ty_one e1 hB10
      rcases e2 with e2 | e2 <;> (rw [e2] at this; exact absurd this (by decide))
    · obtain ⟨C, f, e, e1, e2⟩ := ij_ty hc.taken _ q
      have := ty_one e1 hB10
      rcases e2 with e2 | e2 <;> (rw [e2] at this; exact absurd this (by decide))
    · obtain ⟨C, f, e1⟩ := (hc.own c hcm).typ _ q
      have := ty_one e1 hB10
      exact absurd this (by decide)
  rw [show (yRead fl4 [] 1 1 9).1.2 = 0 by kernel_rfl]
  have HAP10 := Lib.hid hap10
  obtain ⟨a10, c10, rfl, -⟩ := HO10.out.rd
  clear ho10 h10 hu10 H9 hB10 hap10
  go_wp2_with fail
  (with_reducible refine (yRead_any 3 0 1 (i64_s _ (by omega) (by omega)) (i64_s _ (by omega) (by omega)) (i64_s _ (by omega) (by omega)) H10.out (by simp) (by simp)).mono ?_)
  rintro e w11 ⟨v11, rfl, ho11, G11, h11, hu11, -, -⟩
  have H11 : Hid (YD w w11 gy G11 fl4 [(1, 2)]) := h11
  rw [show (yRead fl4 [(1, 2)] 3 0 1).1.2 = 7 by kernel_rfl]
  obtain ⟨a11, c11, rfl, -⟩ := ho11.rd
  have d11 := hu11.cell D10.out HN10.out
  have hO11 := HO10.out.upd hu11 HAP10.out
  have hcv := convb_str (P := Try.prog) Try.underlying27 Try.underlying5 Try.underlying9 w11 _ _ hO11.rd
  have hcv : (convert 27 9 (.slice a10 2 c10)).run Try.prog w11 = .ok (.string ⟨#[121, 122]⟩) w11 := hcv
  clear ho11 h11 hu11 hO11 H10
  go_wp2_with fail
  (with_reducible refine (yTakenD 1 2 (i64_s _ (by omega) (by omega)) H11.out (by simp) (by kernel_rfl)).mono ?_)
  rintro e w12 ⟨rfl, hu12⟩
  have H12 := Lib.hid (H11.out.upd0 hu12)
  clear hu12 H11
  go_wp2_with fail
  (with_reducible refine (yCut_any sB 4 (i64_s _ (by omega) (by omega)) H12.out).mono ?_)
  rintro e w13 ⟨rfl, G13, h13, -, -⟩
  have H13 := Lib.hid h13.old
  rw [show (yCut fl4 sB 4).1 = 1 by kernel_rfl]
  clear h13
  go_wp2_with fail
  go_ret
  exact ⟨rfl, H13.out⟩
end Go.Proofs.Ytmhdhnipljonlaa
namespace Go.Proofs.Ytmhdhnipljonlaa
open Go.RowKit
set_option linter.unusedSimpArgs false
set_option linter.unusedVariables false
abbrev sF : ByteArray := ⟨#[102]⟩
theorem one_find (bs : List UInt8) (s : ByteArray) : findN [(1, (s, bs))] s = 0 := by unfold findN; rw [List.takeWhile_cons]; simp
theorem one_has (bs : List UInt8) (s : ByteArray) : hasN [(1, (s, bs))] s = true := by unfold hasN; rw [one_find]; simp
theorem one_ino (bs : List UInt8) (s : ByteArray) : inoN [(1, (s, bs))] s = 1 := by unfold inoN; rw [one_find]; rfl
theorem one_bytes (bs : List UInt8) (s : ByteArray) : bytesN [(1, (s, bs))] s = bs := by unfold bytesN; rw [one_find]; rfl
theorem one_set {ν : Type} [Inhabited ν] (a b : ν) : tSet ltY [((1 : Int), a)] 1 b = [(1, b)] := by
  have hb : below ltY [((1 : Int), a)] 1 = 0 := by unfold below; rw [List.takeWhile_cons]; simp
  have hi : isIn ltY [((1 : Int), a)] 1 = true := by unfold isIn; rw [hb]; simp [nth_cons_zero]
  unfold tSet; rw [hi, hb]; rfl
theorem one_append (bs p : List UInt8) (s : ByteArray) : yAppend [(1, (s, bs))] s p = if 65536 < bs.length + p.length then (9, [(1, (s, bs))]) else (0, [(1, (s, bs ++ p))]) := by
  unfold yAppend; rw [one_has, one_ino, one_bytes, one_set]; rfl
theorem one_cut (bs : List UInt8) (k : Nat) (hk : k ≤ bs.length) (s : ByteArray) : yCut [(1, (s, bs))] s (k : Int) = (0, [(1, (s, bs.take k))]) := by
  unfold yCut; rw [one_has, one_ino, one_bytes, one_set, if_pos rfl, if_neg (by omega)]; rfl
theorem one_tell (bs : List UInt8) (s : ByteArray) : yFindF [(1, (s, bs))] s = ((1, s, (bs.length : Int)), true) := by
  unfold yFindF; rw [one_has, one_find]; rfl
set_option maxRecDepth 20000 in
set_option maxHeartbeats 4000000 in
theorem yardFull_any (w : World) (size : Int) (hsz : I64 size) (cut : Int) (hct : I64 cut) :
    Calls Try.prog 4 #[.int .i64 size, .int .i64 cut] w fun e w' => e = .returned (.bool true) ∧ Upd [] w w' := by
  have HSZ : Hid (-9223372036854775808 ≤ size ∧ size ≤ 9223372036854775807) := hsz
  have HCT : Hid (-9223372036854775808 ≤ cut ∧ cut ≤ 9223372036854775807) := hct
  obtain ⟨n1, n2⟩ := within_in size 1 5000 (by omega)
  obtain ⟨n, hn⟩ := Int.eq_ofNat_of_zero_le (show 0 ≤ within size 1 5000 by omega)
  rw [hn] at n1 n2
  have HN := Lib.hid hn
  clear hsz hct hn
  have hmk := fun u => run_mk (P := Try.prog) Try.underlying27 infoByte rfl u n n (n : Int) (n : Int) rfl rfl (Nat.le_refl _) (by omega) (by omega)
  go_enter Try.func4, Try.ntmps4
  go_wp2_with fail
  (with_reducible refine (yNew_any w _ (Upd.refl [] w)).mono ?_)
  rintro e w1 ⟨gy, rfl, ⟨G1, h1, -⟩, -⟩
  have H1 := Lib.hid h1
  clear h1
  go_wp2_with fail
  (with_reducible refine (yCreate_any sF H1.out).mono ?_)
  rintro e w2 ⟨rfl, G2, h2, -, -⟩
  have H2 : Hid (YD w w2 gy G2 [(1, (sF, []))] []) := h2
  rw [show (yCreate [] sF).1 = 0 by kernel_rfl]
  clear h2 H1
  go_wp2_with fail
  (with_reducible refine (within_any _ _ _ _ HSZ.out (by omega) (by omega) (by omega)).mono ?_)
  rintro e w' ⟨rfl, rfl⟩
  rw [HN.out]
  go_wp2_with fail
  have H3 := Lib.hid (H2.out.upd0 ((Upd.refl [] w2).alloc (.cells (List.replicate n (Value.int .u8 0)).toArray 5)))
  have HP3 : Hid (Bytes (w2.alloc (.cells (List.replicate n (Value.int .u8 0)).toArray 5)) (.slice (some ⟨w2.heap.size, 0, none⟩) n n) (List.replicate n 0)) := Rd.lit (List.replicate n 0) rfl (by rw [List.map_replicate]; rfl) (by simp) (Nat.le_refl _) (by unfold maxLen; omega)
  have HG3 : Hid (w2.heap.size ∉ G2) := fun hx => by have := (H2.out.ge _ hx).2; omega
  have HL3 : Hid (w2.heap.size < (w2.alloc (.cells (List.replicate n (Value.int .u8 0)).toArray 5)).heap.size) := by unfold Hid; simp
  go_loopw [8, 9] (fun a i wr => ∃ (k : Nat) (G : List Nat) (bs : List UInt8), k ≤ 80 ∧ i = .int .i64 k ∧ a = .int .i64 (bs.length : Int) ∧ bs.length ≤ 65536 ∧ Hid (YD w wr gy G [(1, (sF, bs))] []) ∧ Hid (Bytes wr (.slice (some ⟨w2.heap.size, 0, none⟩) n n) (List.replicate n 0)) ∧ Hid (w2.heap.size ∉ G) ∧ Hid (w2.heap.size < wr.heap.size)) (fun _ i _ => 80 - (intOf i).toNat)
  case atStart => exact ⟨0, G2, [], by omega, rfl, rfl, by simp, H3, HP3, HG3, HL3⟩
  case round =>
    clear H3 HP3 HG3 HL3
    obtain ⟨k, G, bs, hk, rfl, rfl, hbl, hs, hp, hg, hlt⟩ := hrel
    by_cases hk80 : k < 80
    · have HY := one_append bs (List.replicate n 0) sF
      rw [List.length_replicate] at HY
      by_cases hfit : bs.length + n ≤ 65536
      · rw [if_neg (by omega)] at HY
        have q1 : (bs.length : Int) + n ≤ 65536 := by omega
        have HYH := Lib.hid HY
        clear HY
        go_wp2_with fail
        (with_reducible refine (yAppend_any sF _ _ hp.out (by simp; omega) hs.out).mono ?_)
        rw [HYH.out]
        rintro e w3 ⟨rfl, G3, h3, hu3, hf3⟩
        have HS3 : Hid (YD w w3 gy G3 [(1, (sF, bs ++ List.replicate n 0))] []) := h3
        have HP3 := Lib.hid (hp.out.upd hu3 (fun x hx => by simp [blk] at hx; rw [hx]; exact hg.out))
        have HG3 : Hid (w2.heap.size ∉ G3) := fun hx => by
          rcases hf3 _ hx with q | q
          · exact hg.out q
          · have := hlt.out; omega
        have HL3 : Hid (w2.heap.size < w3.heap.size) := by have := hlt.out; have := hu3.size; unfold Hid; omega
        have hbl3 : (bs ++ List.replicate n 0).length = bs.length + n := by simp
        have HBL := Lib.hid hbl3
        clear h3 hu3 hf3 hs hp hg hlt hbl3
        by_cases h40 : k = 40
        · subst h40
          have hwI := within_in cut 0 ((bs.length : Int) + n) (by omega)
          obtain ⟨c1, c2⟩ := hwI
          obtain ⟨c, hc⟩ := Int.eq_ofNat_of_zero_le c1
          rw [hc] at c2
          have HCW := Lib.hid hc
          have hcl : c ≤ (bs ++ List.replicate n 0).length := by rw [HBL.out]; omega
          have HYC := Lib.hid (one_cut (bs ++ List.replicate n 0) c hcl sF)
          have HCL : Hid (((bs ++ List.replicate n 0).take c).length = c) := by unfold Hid; rw [List.length_take]; omega
          have HI : Hid (I64 (c : Int)) := ⟨by omega, by omega⟩
          clear hc c1 hcl
          go_wp2_with fail
          (with_reducible refine (within_any _ _ _ _ HCT.out (by omega) (by omega) (by omega)).mono ?_)
          rintro e w' ⟨rfl, rfl⟩
          rw [HCW.out]
          go_wp2_with fail
          (with_reducible refine (yCut_any sF (c : Int) HI.out HS3.out).mono ?_)
          rw [HYC.out]
          rintro e w4 ⟨rfl, G4, h4, hu4, hf4⟩
          have HS4 : Hid (YD w w4 gy G4 [(1, (sF, (bs ++ List.replicate n 0).take c))] []) := h4
          have HP4 := Lib.hid (HP3.out.upd hu4 (fun x hx => by simp [blk] at hx; rw [hx]; exact HG3.out))
          have HG4 : Hid (w2.heap.size ∉ G4) := fun hx => by
            rcases hf4 _ hx with q | q
            · exact HG3.out q
            · have := HL3.out; omega
          have HL4 : Hid (w2.heap.size < w4.heap.size) := by have := HL3.out; have := hu4.size; unfold Hid; omega
          clear h4 hu4 hf4 HS3 HP3 HG3 HL3
          go_wp2_with fail
          go_roundw
          case rel => exact ⟨41, G4, _, by omega, by go_num, by rw [HCL.out], by rw [HCL.out]; omega, HS4, HP4, HG4, HL4⟩
          case measure => simp [intOf]
        · have t40 : ((k : Int) == 40) = false := by rw [beq_eq_false_iff_ne]; omega
          clear h40
          go_wp2_with fail
          go_roundw
          case rel => exact ⟨k + 1, G3, _, by omega, by go_num, by rw [HBL.out]; go_num, by rw [HBL.out]; omega, HS3, HP3, HG3, HL3⟩
          case measure => simp [intOf]; omega
      · rw [if_pos (by omega)] at HY
        have q1 : ¬ (bs.length : Int) + n ≤ 65536 := by omega
        have HYH := Lib.hid HY
        clear HY
        go_wp2_with fail
        (with_reducible refine (yAppend_any sF _ _ hp.out (by simp; omega) hs.out).mono ?_)
        rw [HYH.out]
        rintro e w3 ⟨rfl, G3, h3, hu3, hf3⟩
        have HS3 : Hid (YD w w3 gy G3 [(1, (sF, bs))] []) := h3
        have HP3 := Lib.hid (hp.out.upd hu3 (fun x hx => by simp [blk] at hx; rw [hx]; exact hg.out))
        have HG3 : Hid (w2.heap.size ∉ G3) := fun hx => by
          rcases hf3 _ hx with q | q
          · exact hg.out q
          · have := hlt.out; omega
        have HL3 : Hid (w2.heap.size < w3.heap.size) := by have := hlt.out; have := hu3.size; unfold Hid; omega
        clear h3 hu3 hf3 hs hp hg hlt
        by_cases h40 : k = 40
        · subst h40
          have hwI := within_in cut 0 (bs.length : Int) (by omega)
          obtain ⟨c1, c2⟩ := hwI
          obtain ⟨c, hc⟩ := Int.eq_ofNat_of_zero_le c1
          rw [hc] at c2
          have HCW := Lib.hid hc
          have hcl : c ≤ bs.length := by omega
          have HYC := Lib.hid (one_cut bs c hcl sF)
          have HCL : Hid ((bs.take c).length = c) := by unfold Hid; rw [List.length_take]; omega
          have HI : Hid (I64 (c : Int)) := ⟨by omega, by omega⟩
          clear hc c1 hcl
          go_wp2_with fail
          (with_reducible refine (within_any _ _ _ _ HCT.out (by omega) (by omega) (by omega)).mono ?_)
          rintro e w' ⟨rfl, rfl⟩
          rw [HCW.out]
          go_wp2_with fail
          (with_reducible refine (yCut_any sF (c : Int) HI.out HS3.out).mono ?_)
          rw [HYC.out]
          rintro e w4 ⟨rfl, G4, h4, hu4, hf4⟩
          have HS4 : Hid (YD w w4 gy G4 [(1, (sF, bs.take c))] []) := h4
          have HP4 := Lib.hid (HP3.out.upd hu4 (fun x hx => by simp [blk] at hx; rw [hx]; exact HG3.out))
          have HG4 : Hid (w2.heap.size ∉ G4) := fun hx => by
            rcases hf4 _ hx with q | q
            · exact HG3.out q
            · have := HL3.out; omega
          have HL4 : Hid (w2.heap.size < w4.heap.size) := by have := HL3.out; have := hu4.size; unfold Hid; omega
          clear h4 hu4 hf4 HS3 HP3 HG3 HL3
          go_wp2_with fail
          go_roundw
          case rel => exact ⟨41, G4, _, by omega, by go_num, by rw [HCL.out], by rw [HCL.out]; omega, HS4, HP4, HG4, HL4⟩
          case measure => simp [intOf]
        · have t40 : ((k : Int) == 40) = false := by rw [beq_eq_false_iff_ne]; omega
          clear h40
          go_wp2_with fail
          go_roundw
          case rel => exact ⟨k + 1, G3, _, by omega, by go_num, rfl, hbl, HS3, HP3, HG3, HL3⟩
          case measure => simp [intOf]; omega
    · obtain rfl : k = 80 := by omega
      have HT := Lib.hid (one_tell bs sF)
      go_wp2_with fail
      (with_reducible refine (yFindF_any sF hs.out).mono ?_)
      rw [HT.out]
      rintro e w5 ⟨rfl, hu5⟩
      have HO5 := Lib.hid (hs.out.old.seq hu5)
      clear hu5
      go_wp2_with fail
      (with_reducible refine (yardRuns_any _).mono ?_)
      rintro e w9 ⟨rfl, hu9⟩
      go_wp2_with fail
      go_ret
      exact ⟨rfl, (HO5.out.alloc _).seq hu9⟩
end Go.Proofs.Ytmhdhnipljonlaa
namespace Go.Proofs.Ytmhdhnipljonlaa
open Go.RowKit
set_option linter.unusedSimpArgs false
set_option linter.unusedVariables false
theorem Roomed.rd {α : Type} [Inhabited α] {c : α → Value} {e : TypeId} {w w' : World} {v : Value} {l : List α} {m : α} (h : Roomed c e w w' v l m) (hl : l.length + 80 ≤ maxLen) : Rd c w' v (l ++ List.replicate 80 m) := by
  obtain ⟨rfl, hb, _⟩ := h
  rw [← List.append_nil ((l ++ List.replicate 80 m).map c)] at hb
  exact hb.rd_pre _ _ _ (by simp) (by omega) hl
theorem Roomed.pre {α : Type} [Inhabited α] {c : α → Value} {e : TypeId} {w w' : World} {v : Value} {l : List α} {m : α} (h : Roomed c e w w' v l m) (hl : l.length + 80 ≤ maxLen) : Rd c w' (.slice (some ⟨w.heap.size, 0, none⟩) l.length (l.length + 80)) l := by
  have h1 := h.rd hl
  obtain ⟨rfl, hb, _⟩ := h
  have h2 := h1.take l.length (by simp)
  simpa using h2
end Go.Proofs.Ytmhdhnipljonlaa
