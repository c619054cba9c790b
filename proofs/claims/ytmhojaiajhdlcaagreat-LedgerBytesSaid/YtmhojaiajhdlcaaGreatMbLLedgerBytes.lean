/- LedgerBytes: the law returns true, whatever it is given. -/
import Derived.Test.YtmhojaiajhdlcaaGreatMb1
import Derived.Test.YtmhojaiajhdlcaaGreatMb2
import Derived.Deep.Fields
import Derived.ChangeSame
import Derived.OpenShut
import Derived.Test.YtmhojaiajhdlcaaGreatMb19
namespace Go.Proofs.YtmhojaiajhdlcaaGreat
open Go.ChangeShapes Go.WideShapes Go.ChangeAt Go.RowKit Go.Deep
set_option linter.unusedSimpArgs false
set_option linter.unusedVariables false
section
variable {H : Type} {enc : TypeId × Value → H} {P : Program} {w : World} {b0 : Nat} {held : Bool}
theorem el_fields {e : TypeId} {fs : Array Field} {n : Nat} {cs : List Value} {y : DataW H × List MemPlace} (he : P.underlying e = some (.struct fs)) (hone : oneCellFields P fs = true) (hC : cs.length = fs.size)
    (h : DataW.trod enc P w 0 (fun _ => true) held n e cs = some y) (j : Nat) (f : Field) (hj : fs[j]? = some f) : ∃ (n' : Nat) (v : Value) (z : DataW H × List MemPlace), cs[j]? = some v ∧ DataW.trod enc P w 0 (fun _ => true) held n' f.type [v] = some z := by
  obtain ⟨ys, n', hn', hy, hlen, hyl, hf⟩ := DataW.trod_struct he h
  obtain ⟨ho, hk⟩ := hone_of hone j f hj
  have hjl : j < fs.size := (Array.getElem?_eq_some_iff.1 hj).1
  have h1 := hf j f hj
  rw [ho, hk] at h1
  have hone' : (cs.drop j).take 1 = [cs[j]'(by omega)] := by
    rw [List.drop_eq_getElem_cons (by omega)]; rfl
  rw [hone'] at h1
  have hys : ys[j]? = some (ys[j]'(by omega)) := List.getElem?_eq_getElem (by omega)
  exact ⟨n', _, _, List.getElem?_eq_getElem (by omega), h1.trans hys⟩
theorem open_rdN {α : Type} [Inhabited α] (sz : Nat) (c : α → List Value) (good : α → Prop) {t e : TypeId} {v : Value} {d : DataW H} {p : List MemPlace} (ht : P.underlying t = some (.slice e)) (hc : P.cellsOf e = sz) (hpos : 0 < sz)
    (hel : ∀ n cs y, cs.length = sz → DataW.trod enc P w 0 (fun _ => true) held n e cs = some y → ∃ x, cs = c x ∧ good x)
    (hval : Value.okWide P w .any b0 t v) (h : DataW.Trod enc P w 0 (fun _ => true) held t v d p) :
    ∃ l : List α, RdN sz c w v l ∧ (∀ x ∈ l, good x) ∧ (∀ (ts : List TypeId) (ds : List (DataW H)) (j : Nat), (DataW.weightsEach P ts ds).all (· ≤ reachBytes) = true → ts[j]? = some t → ds[j]? = some d → l.length * P.bytesOf e ≤ reachBytes) ∧ DLen d l.length := by
  obtain ⟨a0, len0, cap0, rfl⟩ := okWide_slice ht hval
  obtain ⟨fuel, hf⟩ := h
  rcases open_slice ht hf with ⟨hcs, hx⟩ | ⟨a, len, cap, m, n, D, Pl, hcs, hb, hl, hm, hmm, hx, hi⟩
  · simp [Value.cells] at hcs
    obtain ⟨rfl, rfl, rfl⟩ := hcs
    exact ⟨[], ⟨none, 0, rfl, Nat.le_refl _, Nat.zero_le _, fun q => absurd rfl q⟩, by simp, by intros; simp, .inl rfl⟩
  · simp [Value.cells] at hcs
    obtain ⟨rfl, rfl, rfl⟩ := hcs
    simp only [if_true] at hmm
    subst hmm
    obtain ⟨l, hl', hp⟩ := exists_list len0 (fun i x => w.cells? 0 (a.add (i * sz)) sz = some (c x) ∧ good x) (fun i hi' => by
      obtain ⟨cs', hc1, hc2⟩ := hi i (by omega)
      rw [hc] at hc1
      obtain ⟨_, hcl, _⟩ := World.cells?_some hc1
      obtain ⟨x, rfl, hg⟩ := hel _ _ _ hcl hc2
      exact ⟨x, hc1, hg⟩)
    refine ⟨l, ?_, ?_, ?_, ?_⟩
    · refine ⟨_, _, by rw [hl'], by omega, hm, fun hne => ?_⟩
      have hpos' : 0 < len0 := by rw [← hl']; exact List.length_pos_iff.2 hne
      obtain ⟨b, off, spot⟩ := a
      have hspot : spot = none := by
        have h0 := (hp 0 (by omega)).1
        obtain ⟨_, hcl, hat⟩ := World.cells?_some h0
        have h1 := hat 0 hpos
        rw [List.getElem?_eq_getElem (by omega)] at h1
        simpa [Addr.add] using World.cell?_spot h1
      subst hspot
      refine ⟨b, off, rfl, fun j hj i hi' => ?_⟩
      obtain ⟨_, hcl, hat⟩ := World.cells?_some (hp j (by omega)).1
      have h1 := hat i hi'
      rw [add_none, add_none] at h1
      rw [← Nat.add_assoc]; exact h1
    · intro x hx'
      obtain ⟨i, hi', rfl⟩ := List.mem_iff_getElem.1 hx'
      have := (hp i (by omega)).2
      rwa [nth_get l i hi'] at this
    · intro ts ds j hall htj hdj
      have hd := congrArg Prod.fst hx
      simp only at hd
      rw [hd] at hdj
      have := sized_slice hall htj hdj ht
      simp only [List.length_map, List.length_range] at this
      exact Nat.le_trans (Nat.mul_le_mul_right _ (by omega)) this
    · exact .inr ⟨_, _, congrArg Prod.fst hx, by simp [hl']⟩
end
end Go.Proofs.YtmhojaiajhdlcaaGreat
namespace Go.Proofs.YtmhojaiajhdlcaaGreat
open Go.ChangeShapes Go.WideShapes Go.ChangeAt Go.RowKit Go.Deep
set_option linter.unusedSimpArgs false
set_option linter.unusedVariables false
section
variable {H : Type} {enc : TypeId × Value → H} {P : Program} {w : World} {held : Bool}
theorem el_part {e : TypeId} {fs : Array Field} {n : Nat} {cs : List Value} {y : DataW H × List MemPlace} (he : P.underlying e = some (.struct fs))
    (h : DataW.trod enc P w 0 (fun _ => true) held n e cs = some y) (j : Nat) (f : Field) (hj : fs[j]? = some f) : ∃ (n' : Nat) (z : DataW H × List MemPlace), DataW.trod enc P w 0 (fun _ => true) held n' f.type ((cs.drop f.offset).take (P.cellsOf f.type)) = some z := by
  obtain ⟨ys, n', hn', hy, hlen, hyl, hf⟩ := DataW.trod_struct he h
  have hjl : j < fs.size := (Array.getElem?_eq_some_iff.1 hj).1
  exact ⟨n', _, (hf j f hj).trans (List.getElem?_eq_getElem (by omega))⟩
theorem el_elem {t e : TypeId} {k n : Nat} {cs : List Value} {y : DataW H × List MemPlace} (he : P.underlying t = some (.array k e))
    (h : DataW.trod enc P w 0 (fun _ => true) held n t cs = some y) (i : Nat) (hi : i < k) : ∃ (m : Nat) (z : DataW H × List MemPlace), DataW.trod enc P w 0 (fun _ => true) held m e ((cs.drop (i * P.cellsOf e)).take (P.cellsOf e)) = some z := by
  obtain ⟨ys, m, hm, hy, hlen, hyl, hf⟩ := DataW.trod_array he h
  exact ⟨m, _, (hf i hi).trans (List.getElem?_eq_getElem (by omega))⟩
end
theorem cells_intR : Tryz.prog.cellsOf 3 = 1 := by kernel_rfl
theorem cells_strR : Tryz.prog.cellsOf 9 = 1 := by kernel_rfl
theorem cells_keyR : Tryz.prog.cellsOf 23 = 4 := by kernel_rfl
theorem cells_capsR : Tryz.prog.cellsOf 25 = 10 := by kernel_rfl
theorem cells_recR : Tryz.prog.cellsOf 27 = 15 := by kernel_rfl
set_option maxRecDepth 100000 in
theorem el_rec {H : Type} {enc : TypeId × Value → H} {w : World} (n : Nat) (cs : List Value) (y : DataW H × List MemPlace) (hl : cs.length = 15) (h : DataW.trod enc Tryz.prog w 0 (fun _ => true) true n 27 cs = some y) :
    ∃ r : Rec, cs = recCells r ∧ Rec64 r := by
  obtain ⟨n0, z0, t0⟩ := el_part Tryz.underlying27 h 0 _ rfl
  obtain ⟨n1, z1, t1⟩ := el_part Tryz.underlying27 h 1 _ rfl
  obtain ⟨n2, z2, t2⟩ := el_part Tryz.underlying27 h 2 _ rfl
  match cs, hl with
  | [c0, c1, c2, c3, c4, c5, c6, c7, c8, c9, c10, c11, c12, c13, c14], _ =>
    have t0 : DataW.trod enc Tryz.prog w 0 (fun _ => true) true n0 23 [c0, c1, c2, c3] = some z0 := t0
    have t1 : DataW.trod enc Tryz.prog w 0 (fun _ => true) true n1 3 [c4] = some z1 := t1
    have t2 : DataW.trod enc Tryz.prog w 0 (fun _ => true) true n2 25 [c5, c6, c7, c8, c9, c10, c11, c12, c13, c14] = some z2 := t2
    obtain ⟨a0, y0, u0⟩ := el_part Tryz.underlying23 t0 0 _ rfl
    obtain ⟨a1, y1, u1⟩ := el_part Tryz.underlying23 t0 1 _ rfl
    obtain ⟨a2, y2, u2⟩ := el_part Tryz.underlying23 t0 2 _ rfl
    obtain ⟨a3, y3, u3⟩ := el_part Tryz.underlying23 t0 3 _ rfl
    have u0 : DataW.trod enc Tryz.prog w 0 (fun _ => true) true a0 3 [c0] = some y0 := u0
    have u1 : DataW.trod enc Tryz.prog w 0 (fun _ => true) true a1 3 [c1] = some y1 := u1
    have u2 : DataW.trod enc Tryz.prog w 0 (fun _ => true) true a2 3 [c2] = some y2 := u2
    have u3 : DataW.trod enc Tryz.prog w 0 (fun _ => true) true a3 9 [c3] = some y3 := u3
    obtain ⟨k0, rfl, g0⟩ := el_int Tryz.underlying3 _ _ _ u0
    obtain ⟨k1, rfl, g1⟩ := el_int Tryz.underlying3 _ _ _ u1
    obtain ⟨k2, rfl, g2⟩ := el_int Tryz.underlying3 _ _ _ u2
    obtain ⟨s, hs, -, -⟩ := DataW.trod_string Tryz.underlying9 u3
    have hs : [c3] = [Value.string s] := hs
    obtain rfl : c3 = .string s := by simpa using hs
    obtain ⟨k4, rfl, g4⟩ := el_int Tryz.underlying3 _ _ _ t1
    obtain ⟨b0, x0, q0⟩ := el_elem Tryz.underlying25 t2 0 (by omega)
    have q0 : DataW.trod enc Tryz.prog w 0 (fun _ => true) true b0 3 [c5] = some x0 := q0
    obtain ⟨e0, rfl, g5⟩ := el_int Tryz.underlying3 _ _ _ q0
    obtain ⟨b1, x1, q1⟩ := el_elem Tryz.underlying25 t2 1 (by omega)
    have q1 : DataW.trod enc Tryz.prog w 0 (fun _ => true) true b1 3 [c6] = some x1 := q1
    obtain ⟨e1, rfl, g6⟩ := el_int Tryz.underlying3 _ _ _ q1
    obtain ⟨b2, x2, q2⟩ := el_elem Tryz.underlying25 t2 2 (by omega)
    have q2 : DataW.trod enc Tryz.prog w 0 (fun _ => true) true b2 3 [c7] = some x2 := q2
    obtain ⟨e2, rfl, g7⟩ := el_int Tryz.underlying3 _ _ _ q2
    obtain ⟨b3, x3, q3⟩ := el_elem Tryz.underlying25 t2 3 (by omega)
    have q3 : DataW.trod enc Tryz.prog w 0 (fun _ => true) true b3 3 [c8] = some x3 := q3
    obtain ⟨e3, rfl, g8⟩ := el_int Tryz.underlying3 _ _ _ q3
    obtain ⟨b4, x4, q4⟩ := el_elem Tryz.underlying25 t2 4 (by omega)
    have q4 : DataW.trod enc Tryz.prog w 0 (fun _ => true) true b4 3 [c9] = some x4 := q4
    obtain ⟨e4, rfl, g9⟩ := el_int Tryz.underlying3 _ _ _ q4
    obtain ⟨b5, x5, q5⟩ := el_elem Tryz.underlying25 t2 5 (by omega)
    have q5 : DataW.trod enc Tryz.prog w 0 (fun _ => true) true b5 3 [c10] = some x5 := q5
    obtain ⟨e5, rfl, g10⟩ := el_int Tryz.underlying3 _ _ _ q5
    obtain ⟨b6, x6, q6⟩ := el_elem Tryz.underlying25 t2 6 (by omega)
    have q6 : DataW.trod enc Tryz.prog w 0 (fun _ => true) true b6 3 [c11] = some x6 := q6
    obtain ⟨e6, rfl, g11⟩ := el_int Tryz.underlying3 _ _ _ q6
    obtain ⟨b7, x7, q7⟩ := el_elem Tryz.underlying25 t2 7 (by omega)
    have q7 : DataW.trod enc Tryz.prog w 0 (fun _ => true) true b7 3 [c12] = some x7 := q7
    obtain ⟨e7, rfl, g12⟩ := el_int Tryz.underlying3 _ _ _ q7
    obtain ⟨b8, x8, q8⟩ := el_elem Tryz.underlying25 t2 8 (by omega)
    have q8 : DataW.trod enc Tryz.prog w 0 (fun _ => true) true b8 3 [c13] = some x8 := q8
    obtain ⟨e8, rfl, g13⟩ := el_int Tryz.underlying3 _ _ _ q8
    obtain ⟨b9, x9, q9⟩ := el_elem Tryz.underlying25 t2 9 (by omega)
    have q9 : DataW.trod enc Tryz.prog w 0 (fun _ => true) true b9 3 [c14] = some x9 := q9
    obtain ⟨e9, rfl, g14⟩ := el_int Tryz.underlying3 _ _ _ q9
    refine ⟨⟨⟨k0, k1, k2, s⟩, k4, ⟨[e0, e1, e2, e3, e4, e5, e6, e7, e8, e9], rfl⟩⟩, rfl, ⟨i64_of g0, i64_of g1, i64_of g2, i64_of g4, fun c hc => ?_⟩⟩
    simp only [List.mem_cons, List.not_mem_nil, or_false] at hc
    rcases hc with rfl | rfl | rfl | rfl | rfl | rfl | rfl | rfl | rfl | rfl
    · exact i64_of g5
    · exact i64_of g6
    · exact i64_of g7
    · exact i64_of g8
    · exact i64_of g9
    · exact i64_of g10
    · exact i64_of g11
    · exact i64_of g12
    · exact i64_of g13
    · exact i64_of g14
set_option maxRecDepth 100000 in
/-- Records that are handed in. -/
theorem open_recs {H : Type} {enc : TypeId × Value → H} {w : World} {b0 : Nat} {v : Value} {d : DataW H} {p : List MemPlace} (hval : Value.okWide Tryz.prog w .any b0 36 v) (h : DataW.Trod enc Tryz.prog w 0 (fun _ => true) true 36 v d p) :
    ∃ l : List Rec, RdN 15 recCells w v l ∧ ∀ x ∈ l, Rec64 x := by
  obtain ⟨l, h1, h2, -⟩ := open_rdN 15 recCells Rec64 Tryz.underlying36 cells_recR (by omega) (fun n cs y hl h => el_rec n cs y hl h) hval h
  exact ⟨l, h1, h2⟩
set_option maxRecDepth 100000 in
/-- A record that is handed in. -/
theorem open_rec {H : Type} {enc : TypeId × Value → H} {w : World} {b0 : Nat} {v : Value} {d : DataW H} {p : List MemPlace} (hval : Value.okWide Tryz.prog w .any b0 27 v) (h : DataW.Trod enc Tryz.prog w 0 (fun _ => true) true 27 v d p) :
    ∃ r : Rec, v = recVal r ∧ Rec64 r := by
  obtain ⟨cs, rfl, hsz⟩ := okWide_struct Tryz.underlying27 hval
  obtain ⟨fuel, hf⟩ := h
  rw [cells_recR] at hsz
  have hcl : (Value.agg cs).cells.toList.length = 15 := by simpa [Value.cells] using hsz
  obtain ⟨x, hx, hg⟩ := el_rec fuel _ _ (by simpa [Value.cells] using hsz) hf
  refine ⟨x, ?_, hg⟩
  have h1 : cs.toList = recCells x := by simpa [Value.cells] using hx
  have h2 : cs = (recCells x).toArray := by rw [← h1]
  rw [h2]
end Go.Proofs.YtmhojaiajhdlcaaGreat
namespace Go.Proofs.YtmhojaiajhdlcaaGreat.lLedgerBytes
open Go.ChangeShapes Go.WideShapes Go.ChangeAt Go.RowKit Go.Deep
open Go.ChangeMaps (open_string shut_string)
set_option linter.unusedSimpArgs false
set_option linter.unusedVariables false
theorem own : ownKnob Tryz.prog.godebug = none := by kernel_rfl
theorem laidOut : laidOutB Tryz.prog = true := by kernel_rfl
theorem cells_bytes : Tryz.checked.prog.cellsOf 5 = 1 := by kernel_rfl
theorem size_bytes : Tryz.checked.prog.bytesOf 5 = 1 := by kernel_rfl
set_option maxRecDepth 100000 in
theorem walk (H : Type) (enc : TypeId × Value → H) : LawCalls Tryz.prog 3 Tryz.f3 H enc (fun ds => True) := by
  intro W base args ds ps hval hA hsz hk
  rw [Tryz.params3] at hA hval hsz
  obtain ⟨v0, vs0, d0, ds0, p0, q0, hargs, rfl, rfl, h0, r0⟩ := trodAll_cons hA
  obtain ⟨v1, vs1, d1, ds1, p1, q1, rfl, rfl, rfl, h1, r1⟩ := trodAll_cons r0
  obtain ⟨rfl, rfl, rfl⟩ := trodAll_nil r1
  obtain rfl : args = #[v0, v1] := by cases args; simp_all
  obtain ⟨r0, rfl, g0⟩ := open_rec (hval 0 _ v0 rfl rfl) h0
  obtain ⟨l1, w1, z1, u1⟩ := open_bytes Tryz.underlying28 Tryz.underlying5 cells_bytes size_bytes (hval 1 _ v1 rfl rfl) h1
  have z1 := z1 _ _ 1 hsz rfl rfl
  exact ledgerBytes_any W r0 v1 l1 w1 z1
set_option maxRecDepth 100000 in
theorem lifted (os : Os) (started : os.Started) (H : Type) (enc : TypeId × Value → H) :
    ReturnsInHanded {} Tryz.checked os 3 .any (Rows.ledgerBytesSpec.pre6 enc Tryz.prog Tryz.f3 Rows.ledgerBytesRow.domain false) (Rows.ledgerBytesSpec.post enc Tryz.prog Tryz.f3 false true false false) :=
  law_said (C := Tryz.checked) own started (by kernel_rfl) Tryz.func3
    (ChangeSpec.witness6 (enc := enc) (C := Tryz.checked) false ⟨#[], #[.agg #[.int .i64 0, .int .i64 0, .int .i64 0, .string .empty, .int .i64 0, .int .i64 0, .int .i64 0, .int .i64 0, .int .i64 0, .int .i64 0, .int .i64 0, .int .i64 0, .int .i64 0, .int .i64 0, .int .i64 0], .slice none 0 0], []⟩ 8 (by kernel_rfl) (by kernel_rfl) (by kernel_rfl) (by kernel_rfl))
    laidOut (by rw [Tryz.params3]; intro t ht; simp only [List.mem_cons, List.not_mem_nil, or_false] at ht; rcases ht with rfl | rfl <;> exact ⟨by kernel_rfl, of_decide_eq_true (by kernel_rfl)⟩) rfl 4 (by kernel_rfl) Tryz.underlying4 (by intro ds h; match ds, h with | [d0, d1], _ => exact ⟨rfl, rfl, rfl⟩) (walk H enc)
theorem proved : Rows.LedgerBytesSaid :=
  OpenClaim.holds_of_wide 3 Tryz.f3 rfl rfl rfl rfl rfl rfl rfl ⟨rfl, rfl, rfl, rfl, rfl⟩ rfl rfl rfl rfl rfl (by kernel_rfl) Tryz.func3 (by kernel_rfl)
    (of_decide_eq_true (by kernel_rfl)) (by unfold Func.isWrapper; rw [if_neg (of_decide_eq_false (by kernel_rfl))]; exact ⟨rfl, rfl⟩)
    (fun os started H enc _ => lifted os started H enc)
end Go.Proofs.YtmhojaiajhdlcaaGreat.lLedgerBytes
