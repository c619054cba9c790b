/- Texts of the proof, joined: The document's yard: Cut. Arguments that are slices of structs. Arguments that are asks of chapter 21. The walk of YardPlays: both yards. The walk of YardPlays: a call. The walk of YardPlays: a call that asks. The walk of YardPlays: the law. -/
import Derived.Test.YtmhdhnipljonlaaMy8
import Derived.Test.YtmhdhnipljonlaaMy1
import Derived.Deep.Fields
import Derived.ChangeSame
import Derived.Test.YtmhdhnipljonlaaMy2
import Derived.Test.YtmhdhnipljonlaaMy9
import Derived.Test.YtmhdhnipljonlaaMy4
import Derived.Test.YtmhdhnipljonlaaMy3
import Derived.Deep.RegionHeld3
namespace Go.Proofs.Ytmhdhnipljonlaa
open Go.RowKit
set_option linter.unusedSimpArgs false
set_option linter.unusedVariables false
section
variable {w0 w w' : World} {gy : Nat} {G : List Nat} {fl : FL} {T : List Int}
set_option maxRecDepth 20000 in
set_option maxHeartbeats 4000000 in
theorem ryCut_any (s : ByteArray) (n0 : Int) (hn0 : I64 n0) (h : RYD w0 w gy G fl T) :
    Calls Try.prog 79 #[.pointer (some ⟨gy, 0, none⟩), sv s, .int .i64 n0] w fun e w' => e = .returned (.int .i64 (yCut fl s n0).1) ∧ RYOut w0 w gy G (yCut fl s n0).2 T w' := by
  obtain ⟨lv, tv, cs, hc, rfl, hl, hin, rfl⟩ := h.ex
  have HC := Lib.hid hc
  have HL : Hid (cs.length ≤ 1000) := by unfold Hid; omega
  have H := Lib.hid h
  have HIN := Lib.hid hin
  cases hs : hasN (filesOf cs) s with
  | false =>
    have HY : Hid (yCut (filesOf cs) s n0 = (7, filesOf cs)) := by unfold Hid yCut; rw [hs]; rfl
    have HI := Lib.hid (fIx_neg hs)
    clear h hc hin hs
    go_enter Try.func79, Try.ntmps79
    go_wp2_with fail
    (with_reducible refine (ryFind_any s HC.out HL.out).mono ?_)
    rw [HI.out]
    rintro e w1 ⟨rfl, hu1⟩
    have HO := Lib.hid (H.out.out0 hu1)
    clear hu1
    go_wp2_with fail
    go_ret
    rw [HY.out]
    exact ⟨rfl, HO.out⟩
  | true =>
    obtain ⟨k, hk, h1, h2, h3, h4⟩ := fIx_at hs
    have hyA : yCut (filesOf cs) s n0 = if n0 < 0 ∨ (bytesN (filesOf cs) s).length < n0 then (1, filesOf cs) else (0, tSet ltY (filesOf cs) (inoN (filesOf cs) s) (s, (bytesN (filesOf cs) s).take n0.toNat)) := by unfold yCut; rw [if_pos hs]
    rw [← h2, ← h4] at hyA
    have HI := Lib.hid h1
    have HK := Lib.hid hk
    have hmem := nth_mem k hk
    have hbd := hin _ hmem
    have ho := hc.own _ hmem
    obtain ⟨g, cap, rfl, hc1, hc2, hrow⟩ := hc.rowAt k hk
    obtain ⟨⟨ino, ⟨nm, ⟨oa, on, ok⟩⟩, old⟩, hx⟩ : ∃ x, nth cs k = x := ⟨_, rfl⟩
    have HX := Lib.hid hx
    rw [hx] at hyA h3 hbd ho hrow
    have h3 : nm = s := h3
    subst h3
    have HO := Lib.hid (show Own bv w0.heap.size 5 w (.slice oa on ok) old from ho)
    obtain ⟨hon, hok1, hok2⟩ := own_len HO.out
    subst hon
    have hob : old.length ≤ 65536 := hbd.2.2
    have HY := Lib.hid hyA
    have HBD := Lib.hid hbd
    have HR2 : Hid (∀ W, Upd [] w W → W.cell? ⟨g, k * 3 + 2, none⟩ = some (.slice oa old.length ok)) := fun W hW => (hrow 2 (by omega) W hW).1
    have HFR : Hid (∀ W, Upd [] w W → W.frozen? ⟨g, k * 3 + 2, none⟩ = false) := fun W hW => (hrow 2 (by omega) W hW).2
    have p0 : (0 : Int) ≤ k := by omega
    have hn1 : -9223372036854775808 ≤ n0 ∧ n0 ≤ 9223372036854775807 := hn0
    have HN1 := Lib.hid hn1
    clear hn1 hn0
    have p1 : (k : Int) < cs.length := by omega
    have q0 : ¬ (k : Int) < 0 := by omega
    clear h hc hin hs h1 h2 h4 hk hmem hbd ho hrow hx hyA
    go_enter Try.func79, Try.ntmps79
    go_wp2_with fail
    (with_reducible refine (ryFind_any nm HC.out HL.out).mono ?_)
    rw [HI.out]
    rintro e w1 ⟨rfl, hu1⟩
    have HC1 := Lib.hid (HC.out.upd0 hu1)
    have HU1 := Lib.hid hu1
    have y0 := HC1.out.c0
    have c2 := HR2.out w1 hu1
    clear hu1
    by_cases hneg : n0 < 0
    · have HY1 : Hid (yCut (filesOf cs) nm n0 = (1, filesOf cs)) := by unfold Hid; rw [HY.out]; exact if_pos (.inl hneg)
      have HO9 := Lib.hid (H.out.out0 HU1.out)
      go_wp2_with fail
      go_ret
      rw [HY1.out]
      exact ⟨rfl, HO9.out⟩
    by_cases hbig : (old.length : Int) < n0
    · have HY1 : Hid (yCut (filesOf cs) nm n0 = (1, filesOf cs)) := by unfold Hid; rw [HY.out]; exact if_pos (.inr hbig)
      have HO9 := Lib.hid (H.out.out0 HU1.out)
      go_wp2_with fail
      go_ret
      rw [HY1.out]
      exact ⟨rfl, HO9.out⟩
    · obtain ⟨m, rfl⟩ := Int.eq_ofNat_of_zero_le (show 0 ≤ n0 by omega)
      have hm : m ≤ old.length := by omega
      have HM := Lib.hid hm
      have HY1 : Hid (yCut (filesOf cs) nm (m : Int) = (0, tSet ltY (filesOf cs) ino (nm, old.take m))) := by unfold Hid; rw [HY.out]; exact if_neg (by intro q; rcases q with q | q <;> omega)
      have HBG : Hid (old.length ≤ 65536) := by unfold Hid; omega
      have HOLD : Hid (Bytes w1 (.slice oa old.length ok) old) := HO.out.rd.upd0 HU1.out
      have hcutA : ∀ W, (Instr.slice 27 (.slice oa old.length ok) none (some (.int .i64 (m : Int))) none).run Try.prog W = .ok (.slice oa m ok) W := fun W => run_cut_h (P := Try.prog) (size := 1) Try.underlying27 (by kernel_rfl) oa old.length ok m (by omega) W
      have m0 : (0 : Int) ≤ m := by omega
      have m1 : (m : Int) ≤ ok := by omega
      have m2 : ¬ (old.length : Int) < (m : Int) := by omega
      have m3 : ¬ (m : Int) < 0 := by omega
      clear hbig HY hneg
      have HR1 : Hid (∀ (ty : TypeId) (W : World), Upd [] w1 W → Blk W w1.heap.size 5 [] → ∃ v' w', (Builtin.append_ #[27, 27] ty #[.slice (some ⟨w1.heap.size, 0, none⟩) 0 0, .slice oa m ok]).run Try.prog W = .ok v' w' ∧ (Own bv w1.heap.size 5 w' v' (old.take m) ∧ Upd [] w1 w' ∧ ∃ a1 n1 k1, v' = .slice a1 n1 k1)) := by
        intro ty W hU hB
        obtain ⟨v', w', h1, h2, h3, h4⟩ := run_app (P := Try.prog) (w := W) (ty := ty) bv_one Try.underlying27 infoB8 rfl _ (.slice oa m ok) [] (old.take m) (own_emptyR w1.heap.size W w1.heap.size (Nat.le_refl _) hB) ((HOLD.out.upd0 hU).take m HM.out) (by rw [List.length_take]; simp; omega) (by rw [List.length_take]; simp [maxLen]; omega) hU.size
        rw [List.nil_append] at h2
        obtain ⟨a1, k1, h5, _⟩ := h2.rd
        exact ⟨v', w', h1, h2, hU.trans h3 (by simp) (fun y hy => .inr (by simp [blk] at hy; omega)), a1, _, k1, h5⟩
      have Y0 := Lib.hid y0
      have CR := Lib.hid c2
      have y0' : (w1.alloc (Obj.cells #[] 5)).cell? ⟨gy, 0, none⟩ = some (.slice (some ⟨g, 0, none⟩) cs.length cap) := ((Upd.refl [] w1).alloc _).cell y0 (by simp)
      have c2' : (w1.alloc (Obj.cells #[] 5)).cell? ⟨g, k * 3 + 2, none⟩ = some (.slice oa old.length ok) := ((Upd.refl [] w1).alloc _).cell c2 (by simp)
      go_wp2_with fail
      go_region_law (first
        | ((refine step_app_of rfl (.tmp 33) (.tmp 43) rfl (.slice (some ⟨w1.heap.size, 0, none⟩) 0 0) (.slice oa m ok) (by rfl) (by rfl) (HR1.out _ _ ?_ ?_) ?_); (repeat (first | exact Upd.refl _ _ | apply Upd.drew | apply Upd.drewN | apply Upd.alloc)); (refine Blk.fresh (w := w1) (C := #[]) (xs := []) rfl rfl ?_; (repeat (first | exact Upd.refl _ _ | apply Upd.drew | apply Upd.drewN | apply Upd.alloc))); (rintro v9 w9 ⟨ho9, hu9, a9, n9, k9, rfl⟩; have y9 := hu9.cell Y0.out (by simp); have c9 := hu9.cell CR.out (by simp); have f9 := HFR.out w9 (HU1.out.seq hu9); dsimp only)))
      all_goals
        have HO9 := Lib.hid ho9
        have HU9 := Lib.hid hu9
        clear ho9 hu9
        go_wp2_with fail
        go_ret
        obtain ⟨r1, r2⟩ := HC.out.setRow (HU1.out.seq HU9.out) k 2 HK.out (by omega) (.slice a9 n9 k9) (ino, ((nm, (⟨a9, n9, k9⟩ : Sl)), old.take m)) (by rw [HX.out]; rfl) (by rw [HX.out]) (HO9.out.base_le (Nat.le_trans HC.out.old.size HU1.out.size))
        rw [HY1.out]
        refine ⟨rfl, RYOut.of r1 (mapY_set _ cs ino ((nm, (⟨a9, n9, k9⟩ : Sl)), old.take m)).symm ?_ (fun c hc => ?_) r2 (fun x hx => by simp at hx; subst hx; exact foot_lv (by simp [blk])) (fun x hx => .inl hx) (fun x hx => .inl hx) (fun c hc x hx => ?_)⟩
        · show (tSet ltY cs ino _).length ≤ 12
          have e := setY HC.out.ris k HK.out ((nm, (⟨a9, n9, k9⟩ : Sl)), old.take m)
          rw [HX.out] at e
          rw [show tSet ltY cs ino ((nm, (⟨a9, n9, k9⟩ : Sl)), old.take m) = _ from e, List.length_set]; exact hl
        · rcases tSet_mem cs _ _ c hc with rfl | q
          · exact ⟨HBD.out.1, HBD.out.2.1, by show (old.take m).length ≤ 65536; have := HBG.out; rw [List.length_take]; omega⟩
          · exact HIN.out c q
        · rcases tSet_mem cs _ _ c hc with rfl | q
          · exact .inr (Nat.le_trans HU1.out.size (HO9.out.ge x hx).1)
          · exact .inl ⟨c, q, hx⟩
end
end Go.Proofs.Ytmhdhnipljonlaa
namespace Go.Proofs.Ytmhdhnipljonlaa
open Go.ChangeShapes Go.WideShapes Go.ChangeAt Go.RowKit Go.Deep
set_option linter.unusedSimpArgs false
set_option linter.unusedVariables false
section
variable {H : Type} {enc : TypeId × Value → H} {P : Program} {w : World} {b0 : Nat} {held : Bool}
theorem el_fields {e : TypeId} {fs : Array Field} {n : Nat} {cs : List Value} {y : DataW H × List MemPlace} (he : P.underlying e = some (.struct fs)) (hone : oneCellFields P fs = true) (hC : cs.length = fs.size)
    (h : DataW.trod enc P w 0 (fun _ => true) held n e cs = some y) (j : Nat) (f : Field) (hj : fs[j]? = some f) : ∃ (n' : Nat) (v : Value) (z : DataW H × List MemPlace), cs[j]? = some v ∧ DataW.trod enc P w 0 (fun _ => true) held n' f.type [v] = some z := by
  obtain ⟨ys, n', hn', hy, hlen, hyl, hf⟩ := DataW.trod_struct he h
  obtain ⟨ho, hk⟩ := hone_of hone j f hj
  have hjl : j < fs.size := (Array.getElem?_eq_some_iff.1 hj).1
  have h1 := hf j f hj
  rw [ho, hk] at h1
  have hone' : (cs.drop j).take 1 = [cs[j]'(by omega)] := by
    rw [List.drop_eq_getElem_cons (by omega)]; rfl
  rw [hone'] at h1
  have hys : ys[j]? = some (ys[j]'(by omega)) := List.getElem?_eq_getElem (by omega)
  exact ⟨n', _, _, List.getElem?_eq_getElem (by omega), h1.trans hys⟩
theorem open_rdN {α : Type} [Inhabited α] (sz : Nat) (c : α → List Value) (good : α → Prop) {t e : TypeId} {v : Value} {d : DataW H} {p : List MemPlace} (ht : P.underlying t = some (.slice e)) (hc : P.cellsOf e = sz) (hpos : 0 < sz)
    (hel : ∀ n cs y, cs.length = sz → DataW.trod enc P w 0 (fun _ => true) held n e cs = some y → ∃ x, cs = c x ∧ good x)
    (hval : Value.okWide P w .any b0 t v) (h : DataW.Trod enc P w 0 (fun _ => true) held t v d p) :
    ∃ l : List α, RdN sz c w v l ∧ (∀ x ∈ l, good x) ∧ (∀ (ts : List TypeId) (ds : List (DataW H)) (j : Nat), (DataW.weightsEach P ts ds).all (· ≤ reachBytes) = true → ts[j]? = some t → ds[j]? = some d → l.length * P.bytesOf e ≤ reachBytes) ∧ DLen d l.length := by
  obtain ⟨a0, len0, cap0, rfl⟩ := okWide_slice ht hval
  obtain ⟨fuel, hf⟩ := h
  rcases open_slice ht hf with ⟨hcs, hx⟩ | ⟨a, len, cap, m, n, D, Pl, hcs, hb, hl, hm, hmm, hx, hi⟩
  · simp [Value.cells] at hcs
    obtain ⟨rfl, rfl, rfl⟩ := hcs
    exact ⟨[], ⟨none, 0, rfl, Nat.le_refl _, Nat.zero_le _, fun q => absurd rfl q⟩, by simp, by intros; simp, .inl rfl⟩
  · simp [Value.cells] at hcs
    obtain ⟨rfl, rfl, rfl⟩ := hcs
    simp only [if_true] at hmm
    subst hmm
    obtain ⟨l, hl', hp⟩ := exists_list len0 (fun i x => w.cells? 0 (a.add (i * sz)) sz = some (c x) ∧ good x) (fun i hi' => by
      obtain ⟨cs', hc1, hc2⟩ := hi i (by omega)
      rw [hc] at hc1
      obtain ⟨_, hcl, _⟩ := World.cells?_some hc1
      obtain ⟨x, rfl, hg⟩ := hel _ _ _ hcl hc2
      exact ⟨x, hc1, hg⟩)
    refine ⟨l, ?_, ?_, ?_, ?_⟩
    · refine ⟨_, _, by rw [hl'], by omega, hm, fun hne => ?_⟩
      have hpos' : 0 < len0 := by rw [← hl']; exact List.length_pos_iff.2 hne
      obtain ⟨b, off, spot⟩ := a
      have hspot : spot = none := by
        have h0 := (hp 0 (by omega)).1
        obtain ⟨_, hcl, hat⟩ := World.cells?_some h0
        have h1 := hat 0 hpos
        rw [List.getElem?_eq_getElem (by omega)] at h1
        simpa [Addr.add] using World.cell?_spot h1
      subst hspot
      refine ⟨b, off, rfl, fun j hj i hi' => ?_⟩
      obtain ⟨_, hcl, hat⟩ := World.cells?_some (hp j (by omega)).1
      have h1 := hat i hi'
      rw [add_none, add_none] at h1
      rw [← Nat.add_assoc]; exact h1
    · intro x hx'
      obtain ⟨i, hi', rfl⟩ := List.mem_iff_getElem.1 hx'
      have := (hp i (by omega)).2
      rwa [nth_get l i hi'] at this
    · intro ts ds j hall htj hdj
      have hd := congrArg Prod.fst hx
      simp only at hd
      rw [hd] at hdj
      have := sized_slice hall htj hdj ht
      simp only [List.length_map, List.length_range] at this
      exact Nat.le_trans (Nat.mul_le_mul_right _ (by omega)) this
    · exact .inr ⟨_, _, congrArg Prod.fst hx, by simp [hl']⟩
end
end Go.Proofs.Ytmhdhnipljonlaa
namespace Go.Proofs.Ytmhdhnipljonlaa
open Go.ChangeShapes Go.WideShapes Go.ChangeAt Go.RowKit Go.Deep
set_option linter.unusedSimpArgs false
set_option linter.unusedVariables false
/-- An ask. -/
structure Ask21 where
  kd : Int
  n : Int
  pos : Int
  ino : Int
  nm : ByteArray
  tn : ByteArray
  dv : Sl
  d : List UInt8
instance : Inhabited Ask21 := ⟨⟨0, 0, 0, 0, .empty, .empty, default, []⟩⟩
abbrev ask21Cells (x : Ask21) : List Value := [.int .i64 x.kd, .int .i64 x.n, .int .i64 x.pos, .int .i64 x.ino, .string x.nm, .string x.tn, slv x.dv]
structure Ask21Good (w : World) (x : Ask21) : Prop where
  kd : I64 x.kd
  n : I64 x.n
  pos : I64 x.pos
  ino : I64 x.ino
  rd : Bytes w (slv x.dv) x.d
theorem cells_byte21 : Try.checked.prog.cellsOf 5 = 1 := by kernel_rfl
theorem cells_ask21 : Try.checked.prog.cellsOf 81 = 7 := by kernel_rfl
set_option maxRecDepth 100000 in
theorem el_ask21 {H : Type} {enc : TypeId × Value → H} {w : World} (n : Nat) (cs : List Value) (y : DataW H × List MemPlace) (hl : cs.length = 7) (h : DataW.trod enc Try.prog w 0 (fun _ => true) true n 81 cs = some y) :
    ∃ x : Ask21, cs = ask21Cells x ∧ Ask21Good w x := by
  obtain ⟨_, v0, _, h0, t0⟩ := el_fields Try.underlying81 (by kernel_rfl) hl h 0 _ rfl
  obtain ⟨_, v1, _, h1, t1⟩ := el_fields Try.underlying81 (by kernel_rfl) hl h 1 _ rfl
  obtain ⟨_, v2, _, h2, t2⟩ := el_fields Try.underlying81 (by kernel_rfl) hl h 2 _ rfl
  obtain ⟨_, v3, _, h3, t3⟩ := el_fields Try.underlying81 (by kernel_rfl) hl h 3 _ rfl
  obtain ⟨_, v4, _, h4, t4⟩ := el_fields Try.underlying81 (by kernel_rfl) hl h 4 _ rfl
  obtain ⟨_, v5, _, h5, t5⟩ := el_fields Try.underlying81 (by kernel_rfl) hl h 5 _ rfl
  obtain ⟨_, v6, _, h6, t6⟩ := el_fields Try.underlying81 (by kernel_rfl) hl h 6 _ rfl
  obtain ⟨k0, rfl, g0⟩ := el_int Try.underlying3 _ _ _ t0
  obtain ⟨k1, rfl, g1⟩ := el_int Try.underlying3 _ _ _ t1
  obtain ⟨k2, rfl, g2⟩ := el_int Try.underlying3 _ _ _ t2
  obtain ⟨k3, rfl, g3⟩ := el_int Try.underlying3 _ _ _ t3
  obtain ⟨s, hs1, _⟩ := DataW.trod_string Try.underlying9 t4
  obtain ⟨s', hs2, _⟩ := DataW.trod_string Try.underlying9 t5
  obtain ⟨a0, len0, cap0, rfl⟩ := trod_slice_form Try.underlying27 t6
  obtain ⟨x, hx, l, hb⟩ := el_bytes Try.underlying27 Try.underlying5 cells_byte21 _ _ _ t6
  have hx : .slice a0 len0 cap0 = x := hx
  subst hx
  simp at hs1 hs2
  subst hs1 hs2
  match cs, hl with
  | [c0, c1, c2, c3, c4, c5, c6], _ =>
    simp at h0 h1 h2 h3 h4 h5 h6
    exact ⟨⟨k0, k1, k2, k3, s, s', ⟨a0, len0, cap0⟩, l⟩, by rw [h0, h1, h2, h3, h4, h5, h6], ⟨i64_of g0, i64_of g1, i64_of g2, i64_of g3, hb⟩⟩
set_option maxRecDepth 100000 in
/-- Asks that are handed in. -/
theorem open_asks21 {H : Type} {enc : TypeId × Value → H} {w : World} {b0 : Nat} {v : Value} {d : DataW H} {p : List MemPlace} (hval : Value.okWide Try.prog w .any b0 75 v) (h : DataW.Trod enc Try.prog w 0 (fun _ => true) true 75 v d p) :
    ∃ l : List Ask21, RdN 7 ask21Cells w v l ∧ ∀ x ∈ l, Ask21Good w x := by
  obtain ⟨l, h1, h2, -⟩ := open_rdN 7 ask21Cells (Ask21Good w) Try.underlying75 cells_ask21 (by omega) (fun n cs y hl h => el_ask21 n cs y hl h) hval h
  exact ⟨l, h1, h2⟩
end Go.Proofs.Ytmhdhnipljonlaa
namespace Go.Proofs.Ytmhdhnipljonlaa
open Go.RowKit
set_option linter.unusedSimpArgs false
set_option linter.unusedVariables false
theorem apY_grow {X Y X' : List Nat} {n : Nat} (h : Ap X Y) (hx : ∀ x ∈ X', x ∈ X ∨ n ≤ x) (hy : ∀ y ∈ Y, y < n) : Ap X' Y := fun x hx' hy' => by
  rcases hx x hx' with q | q
  · exact h x q hy'
  · have := hy x hy'; omega
/-- Both yards, and a block that neither writes. -/
structure Y3 (w0 w : World) (gy gr gb : Nat) (bs : List Value) (fl : FL) (tk : List (Int × Int)) (fl2 : FL) (T : List Int) : Prop where
  ex : ∃ G1 G2, YD w0 w gy G1 fl tk ∧ RYD w0 w gr G2 fl2 T ∧ Ap G1 G2 ∧ Blk w gb 81 bs ∧ gb ∉ G1 ∧ gb ∉ G2
section
variable {w0 w w' : World} {gy gr gb : Nat} {bs : List Value} {fl fl2 fl' : FL} {tk tk' : List (Int × Int)} {T T' : List Int}
theorem Y3.old (h : Y3 w0 w gy gr gb bs fl tk fl2 T) : Upd [] w0 w := by
  obtain ⟨G1, G2, h1, -⟩ := h.ex
  exact h1.old
theorem Y3.b (h : Y3 w0 w gy gr gb bs fl tk fl2 T) : Blk w gb 81 bs := by
  obtain ⟨G1, G2, -, -, -, h1, -⟩ := h.ex
  exact h1
theorem Y3.upd0 (h : Y3 w0 w gy gr gb bs fl tk fl2 T) (hu : Upd [] w w') : Y3 w0 w' gy gr gb bs fl tk fl2 T := by
  obtain ⟨G1, G2, h1, h2, h3, h4, h5, h6⟩ := h.ex
  exact ⟨G1, G2, h1.upd0 hu, h2.upd0 hu, h3, h4.upd hu (by simp), h5, h6⟩
theorem Y3.stepY {G1 G2 : List Nat} (h1 : YD w0 w gy G1 fl tk) (h2 : RYD w0 w gr G2 fl2 T) (h3 : Ap G1 G2) (h4 : Blk w gb 81 bs) (h5 : gb ∉ G1) (h6 : gb ∉ G2) {G' : List Nat} (k1 : YD w0 w' gy G' fl' tk') (k2 : Upd G1 w w') (k3 : ∀ x ∈ G', x ∈ G1 ∨ w.heap.size ≤ x) : Y3 w0 w' gy gr gb bs fl' tk' fl2 T := by
  refine ⟨G', G2, k1, h2.upd k2 (fun x hx hs => h3 x hs hx) (fun x hx => (h1.ge x hx).1), apY_grow h3 k3 (fun y hy => (h2.ge y hy).2), h4.upd k2 h5, fun q => ?_, h6⟩
  rcases k3 gb q with r | r
  · exact h5 r
  · have := h4.lt; omega
theorem Y3.stepR {G1 G2 : List Nat} (h1 : YD w0 w gy G1 fl tk) (h2 : RYD w0 w gr G2 fl2 T) (h3 : Ap G1 G2) (h4 : Blk w gb 81 bs) (h5 : gb ∉ G1) (h6 : gb ∉ G2) {G' : List Nat} (k1 : RYD w0 w' gr G' fl' T') (k2 : Upd G2 w w') (k3 : ∀ x ∈ G', x ∈ G2 ∨ w.heap.size ≤ x) : Y3 w0 w' gy gr gb bs fl tk fl' T' := by
  refine ⟨G1, G', h1.upd k2 (fun x hx hs => h3 x hx hs) (fun x hx => (h2.ge x hx).1), k1, fun x hx hy => ?_, h4.upd k2 h6, h5, fun q => ?_⟩
  · rcases k3 x hy with q | q
    · exact h3 x hx q
    · have := (h1.ge x hx).2; omega
  · rcases k3 gb q with r | r
    · exact h6 r
    · have := h4.lt; omega
theorem y3Create (h : Y3 w0 w gy gr gb bs fl tk fl2 T) (s : ByteArray) {r : Int} {f : FL} (he : yCreate fl s = (r, f)) :
    Calls Try.prog 15 #[.pointer (some ⟨gy, 0, none⟩), sv s] w fun e w' => e = .returned (.int .i64 r) ∧ Y3 w0 w' gy gr gb bs f tk fl2 T := by
  obtain ⟨G1, G2, h1, h2, h3, h4, h5, h6⟩ := h.ex
  have hc := yCreate_any s h1
  rw [he] at hc
  refine hc.mono ?_
  rintro e w' ⟨rfl, G', k1, k2, k3⟩
  exact ⟨rfl, Y3.stepY h1 h2 h3 h4 h5 h6 k1 k2 k3⟩
theorem y3CreateR (h : Y3 w0 w gy gr gb bs fl tk fl2 T) (s : ByteArray) {r : Int} {f : FL} (he : yCreate fl2 s = (r, f)) :
    Calls Try.prog 76 #[.pointer (some ⟨gr, 0, none⟩), sv s] w fun e w' => e = .returned (.int .i64 r) ∧ Y3 w0 w' gy gr gb bs fl tk f T := by
  obtain ⟨G1, G2, h1, h2, h3, h4, h5, h6⟩ := h.ex
  have hc := ryCreate_any s h2
  rw [he] at hc
  refine hc.mono ?_
  rintro e w' ⟨rfl, G', k1, k2, k3⟩
  exact ⟨rfl, Y3.stepR h1 h2 h3 h4 h5 h6 k1 k2 k3⟩
theorem y3Append (h : Y3 w0 w gy gr gb bs fl tk fl2 T) (s : ByteArray) (v : Value) (p : List UInt8) (hp : Bytes w v p) (hpl : p.length ≤ 1000000) {r : Int} {f : FL} (he : yAppend fl s p = (r, f)) :
    Calls Try.prog 16 #[.pointer (some ⟨gy, 0, none⟩), sv s, v] w fun e w' => e = .returned (.int .i64 r) ∧ Y3 w0 w' gy gr gb bs f tk fl2 T := by
  obtain ⟨G1, G2, h1, h2, h3, h4, h5, h6⟩ := h.ex
  have hc := yAppend_any s v p hp (by omega) h1
  rw [he] at hc
  refine hc.mono ?_
  rintro e w' ⟨rfl, G', k1, k2, k3⟩
  exact ⟨rfl, Y3.stepY h1 h2 h3 h4 h5 h6 k1 k2 k3⟩
theorem y3AppendR (h : Y3 w0 w gy gr gb bs fl tk fl2 T) (s : ByteArray) (v : Value) (p : List UInt8) (hp : Bytes w v p) (hpl : p.length ≤ 1000000) {r : Int} {f : FL} (he : yAppend fl2 s p = (r, f)) :
    Calls Try.prog 77 #[.pointer (some ⟨gr, 0, none⟩), sv s, v] w fun e w' => e = .returned (.int .i64 r) ∧ Y3 w0 w' gy gr gb bs fl tk f T := by
  obtain ⟨G1, G2, h1, h2, h3, h4, h5, h6⟩ := h.ex
  have hc := ryAppend_any s v p hp hpl h2
  rw [he] at hc
  refine hc.mono ?_
  rintro e w' ⟨rfl, G', k1, k2, k3⟩
  exact ⟨rfl, Y3.stepR h1 h2 h3 h4 h5 h6 k1 k2 k3⟩
theorem y3Rename (h : Y3 w0 w gy gr gb bs fl tk fl2 T) (s t : ByteArray) {r : Int} {f : FL} (he : yRename fl s t = (r, f)) :
    Calls Try.prog 17 #[.pointer (some ⟨gy, 0, none⟩), sv s, sv t] w fun e w' => e = .returned (.int .i64 r) ∧ Y3 w0 w' gy gr gb bs f tk fl2 T := by
  obtain ⟨G1, G2, h1, h2, h3, h4, h5, h6⟩ := h.ex
  have hc := yRename_any s t h1
  rw [he] at hc
  refine hc.mono ?_
  rintro e w' ⟨rfl, G', k1, k2, k3⟩
  exact ⟨rfl, Y3.stepY h1 h2 h3 h4 h5 h6 k1 k2 k3⟩
theorem y3RenameR (h : Y3 w0 w gy gr gb bs fl tk fl2 T) (s t : ByteArray) (hU : UN fl2) (hN : NE fl2) {r : Int} {f : FL} (he : yRename fl2 s t = (r, f)) :
    Calls Try.prog 78 #[.pointer (some ⟨gr, 0, none⟩), sv s, sv t] w fun e w' => e = .returned (.int .i64 r) ∧ Y3 w0 w' gy gr gb bs fl tk f T := by
  obtain ⟨G1, G2, h1, h2, h3, h4, h5, h6⟩ := h.ex
  have hc := ryRename_any s t hU hN h2
  rw [he] at hc
  refine hc.mono ?_
  rintro e w' ⟨rfl, G', k1, k2, k3⟩
  exact ⟨rfl, Y3.stepR h1 h2 h3 h4 h5 h6 k1 k2 k3⟩
theorem y3Cut (h : Y3 w0 w gy gr gb bs fl tk fl2 T) (s : ByteArray) (n : Int) (hn : I64 n) {r : Int} {f : FL} (he : yCut fl s n = (r, f)) :
    Calls Try.prog 23 #[.pointer (some ⟨gy, 0, none⟩), sv s, .int .i64 n] w fun e w' => e = .returned (.int .i64 r) ∧ Y3 w0 w' gy gr gb bs f tk fl2 T := by
  obtain ⟨G1, G2, h1, h2, h3, h4, h5, h6⟩ := h.ex
  have hc := yCut_any s n hn h1
  rw [he] at hc
  refine hc.mono ?_
  rintro e w' ⟨rfl, G', k1, k2, k3⟩
  exact ⟨rfl, Y3.stepY h1 h2 h3 h4 h5 h6 k1 k2 k3⟩
theorem y3CutR (h : Y3 w0 w gy gr gb bs fl tk fl2 T) (s : ByteArray) (n : Int) (hn : I64 n) {r : Int} {f : FL} (he : yCut fl2 s n = (r, f)) :
    Calls Try.prog 79 #[.pointer (some ⟨gr, 0, none⟩), sv s, .int .i64 n] w fun e w' => e = .returned (.int .i64 r) ∧ Y3 w0 w' gy gr gb bs fl tk f T := by
  obtain ⟨G1, G2, h1, h2, h3, h4, h5, h6⟩ := h.ex
  have hc := ryCut_any s n hn h2
  rw [he] at hc
  refine hc.mono ?_
  rintro e w' ⟨rfl, G', k1, k2, k3⟩
  exact ⟨rfl, Y3.stepR h1 h2 h3 h4 h5 h6 k1 k2 k3⟩
theorem y3Remove (h : Y3 w0 w gy gr gb bs fl tk fl2 T) (s : ByteArray) {r : Int} {f : FL} (he : yRemove fl s = (r, f)) :
    Calls Try.prog 46 #[.pointer (some ⟨gy, 0, none⟩), sv s] w fun e w' => e = .returned (.int .i64 r) ∧ Y3 w0 w' gy gr gb bs f tk fl2 T := by
  obtain ⟨G1, G2, h1, h2, h3, h4, h5, h6⟩ := h.ex
  have hc := yRemove_any s h1
  rw [he] at hc
  refine hc.mono ?_
  rintro e w' ⟨rfl, G', k1, k2, k3⟩
  exact ⟨rfl, Y3.stepY h1 h2 h3 h4 h5 h6 k1 k2 k3⟩
theorem y3RemoveR (h : Y3 w0 w gy gr gb bs fl tk fl2 T) (s : ByteArray) {r : Int} {f : FL} (he : yRemove fl2 s = (r, f)) :
    Calls Try.prog 80 #[.pointer (some ⟨gr, 0, none⟩), sv s] w fun e w' => e = .returned (.int .i64 r) ∧ Y3 w0 w' gy gr gb bs fl tk f T := by
  obtain ⟨G1, G2, h1, h2, h3, h4, h5, h6⟩ := h.ex
  have hc := ryRemove_any s h2
  rw [he] at hc
  refine hc.mono ?_
  rintro e w' ⟨rfl, G', k1, k2, k3⟩
  exact ⟨rfl, Y3.stepR h1 h2 h3 h4 h5 h6 k1 k2 k3⟩
theorem y3Find (h : Y3 w0 w gy gr gb bs fl tk fl2 T) (s : ByteArray) {x : AF} {ok : Bool} (he : yFindF fl s = (x, ok)) :
    Calls Try.prog 20 #[.pointer (some ⟨gy, 0, none⟩), sv s] w fun e w' => e = .returned (.tuple #[af x, .bool ok]) ∧ Upd [] w w' := by
  obtain ⟨G1, G2, h1, h2, h3, h4, h5, h6⟩ := h.ex
  have hc := yFindF_any s h1
  rw [he] at hc
  exact hc
theorem y3FindR (h : Y3 w0 w gy gr gb bs fl tk fl2 T) (s : ByteArray) {x : AF} {ok : Bool} (he : yFindF fl2 s = (x, ok)) :
    Calls Try.prog 81 #[.pointer (some ⟨gr, 0, none⟩), sv s] w fun e w' => e = .returned (.tuple #[af x, .bool ok]) ∧ Upd [] w w' := by
  obtain ⟨G1, G2, h1, h2, h3, h4, h5, h6⟩ := h.ex
  have hc := ryFindF_any s h2
  rw [he] at hc
  exact hc
theorem y3Files (h : Y3 w0 w gy gr gb bs fl tk fl2 T) {l : List AF} (he : yFiles fl = l) :
    Calls Try.prog 19 #[.pointer (some ⟨gy, 0, none⟩)] w fun e w' => ∃ a k, e = .returned (.slice a l.length k) ∧ Hid (RdN 3 afCells w' (.slice a l.length k) l) ∧ Upd [] w w' := by
  subst he
  obtain ⟨G1, G2, h1, h2, h3, h4, h5, h6⟩ := h.ex
  refine (yFiles_any h1).mono ?_
  rintro e w' ⟨v, rfl, ho, hu⟩
  have hr := ho.rd afCells_len
  obtain ⟨a, k, rfl, -⟩ := id hr
  exact ⟨a, k, rfl, hr, hu⟩
theorem y3FilesR (h : Y3 w0 w gy gr gb bs fl tk fl2 T) {l : List AF} (he : yFiles fl2 = l) :
    Calls Try.prog 43 #[.pointer (some ⟨gr, 0, none⟩)] w fun e w' => ∃ a k, e = .returned (.slice a l.length k) ∧ Hid (RdN 3 afCells w' (.slice a l.length k) l) ∧ Upd [] w w' := by
  subst he
  obtain ⟨G1, G2, h1, h2, h3, h4, h5, h6⟩ := h.ex
  refine (ryFiles_any h2).mono ?_
  rintro e w' ⟨v, rfl, ho, hu⟩
  have hr := ho.rd afCells_len
  obtain ⟨a, k, rfl, -⟩ := id hr
  exact ⟨a, k, rfl, hr, hu⟩
/-- Both yards, and the bytes that the first one told. -/
structure Y4 (w0 w : World) (gy gr gb : Nat) (bs : List Value) (fl : FL) (tk : List (Int × Int)) (fl2 : FL) (T : List Int) (u : Value) (q : List UInt8) : Prop where
  ex : ∃ G1 G2, YD w0 w gy G1 fl tk ∧ RYD w0 w gr G2 fl2 T ∧ Ap G1 G2 ∧ Blk w gb 81 bs ∧ gb ∉ G1 ∧ gb ∉ G2 ∧ Bytes w u q ∧ ∀ x ∈ blk u, x ∉ G2
theorem Y4.upd0 {u : Value} {q : List UInt8} (h : Y4 w0 w gy gr gb bs fl tk fl2 T u q) (hu : Upd [] w w') : Y4 w0 w' gy gr gb bs fl tk fl2 T u q := by
  obtain ⟨G1, G2, h1, h2, h3, h4, h5, h6, h7, h8⟩ := h.ex
  exact ⟨G1, G2, h1.upd0 hu, h2.upd0 hu, h3, h4.upd hu (by simp), h5, h6, h7.upd0 hu, h8⟩
theorem Y4.y3 {u : Value} {q : List UInt8} (h : Y4 w0 w gy gr gb bs fl tk fl2 T u q) : Y3 w0 w gy gr gb bs fl tk fl2 T := by
  obtain ⟨G1, G2, h1, h2, h3, h4, h5, h6, h7, h8⟩ := h.ex
  exact ⟨G1, G2, h1, h2, h3, h4, h5, h6⟩
theorem y3Read (h : Y3 w0 w gy gr gb bs fl tk fl2 T) (ino a n : Int) (hi : I64 ino) (ha : I64 a) (hn : I64 n) (htl : tk.length ≤ 50000) (htk : ∀ p ∈ tk, 0 ≤ p.2 ∧ p.2 ≤ 1000000000000) {p : List UInt8} {r : Int} {tk' : List (Int × Int)} (he : yRead fl tk ino a n = ((p, r), tk')) :
    Calls Try.prog 21 #[.pointer (some ⟨gy, 0, none⟩), .int .i64 ino, .int .i64 a, .int .i64 n] w fun e w' => ∃ va k, e = .returned (.tuple #[.slice va p.length k, .int .i64 r]) ∧ Y4 w0 w' gy gr gb bs fl tk' fl2 T (.slice va p.length k) p := by
  obtain ⟨G1, G2, h1, h2, h3, h4, h5, h6⟩ := h.ex
  have hc := yRead_any ino a n hi ha hn h1 htl htk
  rw [he] at hc
  refine hc.mono ?_
  rintro e w' ⟨v, rfl, ho, G', k1, k2, k3, k4⟩
  have hr := ho.rd
  obtain ⟨va, k, rfl, -⟩ := id hr
  have hY := Y3.stepY h1 h2 h3 h4 h5 h6 k1 k2 k3
  refine ⟨va, k, rfl, G', G2, k1, h2.upd k2 (fun x hx hs => h3 x hs hx) (fun x hx => (h1.ge x hx).1), apY_grow h3 k3 (fun y hy => (h2.ge y hy).2), h4.upd k2 h5, fun q => ?_, h6, hr, fun x hx q => ?_⟩
  · rcases k3 gb q with r | r
    · exact h5 r
    · have := h4.lt; omega
  · have := (ho.ge x hx).1; have := (h2.ge x q).2; omega
theorem y4ReadR {u : Value} {q : List UInt8} (h : Y4 w0 w gy gr gb bs fl tk fl2 T u q) {tq : List (Int × Int)} (ino a n : Int) (hi : I64 ino) (ha : I64 a) (hn : I64 n) (hTl : T.length ≤ 13) (hTR : TR T tq) (hbd : ∀ k : Nat, 0 ≤ (tGet ltY 0 tq (k : Int)).1 ∧ (tGet ltY 0 tq (k : Int)).1 ≤ 1000000000000) {p : List UInt8} {r : Int} {tk' : List (Int × Int)} (he : yRead fl2 tq ino a n = ((p, r), tk')) :
    Calls Try.prog 44 #[.pointer (some ⟨gr, 0, none⟩), .int .i64 ino, .int .i64 a, .int .i64 n] w fun e w' => ∃ va k T', e = .returned (.tuple #[.slice va p.length k, .int .i64 r]) ∧ Y3 w0 w' gy gr gb bs fl tk fl2 T' ∧ TR T' tk' ∧ T'.length ≤ 13 ∧ Hid (Bytes w' (.slice va p.length k) p) ∧ Hid (Bytes w' u q) := by
  obtain ⟨G1, G2, h1, h2, h3, h4, h5, h6, h7, h8⟩ := h.ex
  have hc := ryRead_any ino a n hi ha hn h2 hTl hTR hbd
  rw [he] at hc
  refine hc.mono ?_
  rintro e w' ⟨v, rfl, ho, T', t1, t2, G', k1, k2, k3⟩
  have hr := ho.rd
  obtain ⟨va, k, rfl, -⟩ := id hr
  exact ⟨va, k, T', rfl, Y3.stepR h1 h2 h3 h4 h5 h6 k1 k2 k3, t1, t2, hr, h7.upd k2 h8⟩
theorem y3Taken (h : Y3 w0 w gy gr gb bs fl tk fl2 T) (htl : tk.length ≤ 50000) (k : Int) (hk : I64 k) {v : Int} (hv : (tGet ltY 0 tk k).1 = v) :
    Calls Try.prog 22 #[.pointer (some ⟨gy, 0, none⟩), .int .i64 k] w fun e w' => e = .returned (.int .i64 v) ∧ Upd [] w w' := by
  subst hv
  obtain ⟨G1, G2, h1, h2, h3, h4, h5, h6⟩ := h.ex
  obtain ⟨gf, gt, F, T0, cs, hc, -, -, -, -⟩ := h1.ex
  exact yTaken_any k _ (tGet ltY 0 tk k).2 hc (by omega) hk rfl
theorem y3TakenR (h : Y3 w0 w gy gr gb bs fl tk fl2 T) (hTl : T.length ≤ 13) (k : Int) (hk : I64 k) {v : Int} (hv : tkAt T k = v) :
    Calls Try.prog 45 #[.pointer (some ⟨gr, 0, none⟩), .int .i64 k] w fun e w' => e = .returned (.int .i64 v) ∧ Upd [] w w' := by
  subst hv
  obtain ⟨G1, G2, h1, h2, h3, h4, h5, h6⟩ := h.ex
  obtain ⟨lv, tv, cs, hc, -⟩ := h2.ex
  exact ryTaken_any k hk hc (by omega)
end
end Go.Proofs.Ytmhdhnipljonlaa
namespace Go.Proofs.Ytmhdhnipljonlaa
open Go.RowKit
set_option linter.unusedSimpArgs false
set_option linter.unusedVariables false
/-- What an ask does to the files, and to what was taken. -/
def yDo (kd n0 : Int) (nm tn : ByteArray) (d : List UInt8) (fl : FL) : FL :=
  if kd = 1 then (yCreate fl nm).2 else if kd = 2 then (yAppend fl nm d).2 else if kd = 3 then (yRename fl nm tn).2 else if kd = 4 then (yCut fl nm n0).2 else if kd = 5 then (yRemove fl nm).2 else fl
def yTk (kd n0 pos ino : Int) (fl : FL) (tk : List (Int × Int)) : List (Int × Int) := if kd = 7 then (yRead fl tk ino pos n0).2 else tk
section
variable {w0 w : World} {gy gr : Nat} {bs : List Value} {fl : FL} {tk : List (Int × Int)} {T : List Int}
set_option maxRecDepth 20000 in
set_option maxHeartbeats 4000000 in
theorem yCall1 (n0 pos ino : Int) (nm tn : ByteArray) (da : Option Addr) (dc : Nat) (d : List UInt8) (h : Y3 w0 (w.alloc (.cells ([.int .i64 1, .int .i64 n0, .int .i64 pos, .int .i64 ino, .string nm, .string tn, .slice da d.length dc] : List Value).toArray 81)) gy gr w.heap.size [.int .i64 1, .int .i64 n0, .int .i64 pos, .int .i64 ino, .string nm, .string tn, .slice da d.length dc] fl tk fl T)  :
    Calls Try.prog 42 #[.pointer (some ⟨gy, 0, none⟩), .pointer (some ⟨gr, 0, none⟩), .agg #[.int .i64 1, .int .i64 n0, .int .i64 pos, .int .i64 ino, .string nm, .string tn, .slice da d.length dc]] w fun e w' => e = .returned (.bool true) ∧ Y3 w0 w' gy gr w.heap.size [.int .i64 1, .int .i64 n0, .int .i64 pos, .int .i64 ino, .string nm, .string tn, .slice da d.length dc] (yCreate fl nm).2 tk (yCreate fl nm).2 T := by
  obtain ⟨r, f, hrf⟩ : ∃ r f, yCreate fl nm = (r, f) := ⟨_, _, rfl⟩
  have HRF := Lib.hid hrf
  have ra := h
  have HLT : Hid (w.heap.size < (w.alloc (.cells ([.int .i64 1, .int .i64 n0, .int .i64 pos, .int .i64 ino, .string nm, .string tn, .slice da d.length dc] : List Value).toArray 81)).heap.size) := h.b.lt
  have x1 : (r == r) = true := by simp
  clear h hrf
  have d0 := ra.b.cell 0
  have d1 := ra.b.cell 1
  have d2 := ra.b.cell 2
  have d3 := ra.b.cell 3
  have d4 := ra.b.cell 4
  have d5 := ra.b.cell 5
  have d6 := ra.b.cell 6
  simp only [List.getElem?_cons_zero, List.getElem?_cons_succ] at d0 d1 d2 d3 d4 d5 d6
  go_enter Try.func42, Try.ntmps42
  go_wp2_with fail
  go_region_held3 (fun W => W.cell? ⟨w.heap.size, 4, none⟩ = some (.string nm)) (first | go_keep | exact ra.b.cell 4) (first
    | (go_at_call 15; (with_reducible refine (y3Create (ra.upd0 ?_) nm HRF.out).mono ?_); (repeat (first | exact Upd.refl _ _ | apply Upd.drew | apply Upd.drewN | apply Upd.alloc)); (rintro _ W1 ⟨rfl, ra⟩; dsimp only))
    | (go_at_call 76; (with_reducible refine (y3CreateR (ra.upd0 ?_) nm HRF.out).mono ?_); (repeat (first | exact Upd.refl _ _ | apply Upd.drew | apply Upd.drewN | apply Upd.alloc)); (rintro _ W1 ⟨rfl, ra⟩; dsimp only)))
  all_goals
    have RA := Lib.hid ra
    clear ra
    go_wp2_with fail
    go_ret
    rw [HRF.out]
    first | exact ⟨rfl, RA.out⟩ | exact ⟨by simp, RA.out⟩
set_option maxRecDepth 20000 in
set_option maxHeartbeats 4000000 in
theorem yCall2 (n0 pos ino : Int) (nm tn : ByteArray) (da : Option Addr) (dc : Nat) (d : List UInt8) (h : Y3 w0 (w.alloc (.cells ([.int .i64 2, .int .i64 n0, .int .i64 pos, .int .i64 ino, .string nm, .string tn, .slice da d.length dc] : List Value).toArray 81)) gy gr w.heap.size [.int .i64 2, .int .i64 n0, .int .i64 pos, .int .i64 ino, .string nm, .string tn, .slice da d.length dc] fl tk fl T) (HD : Hid (Bytes w0 (.slice da d.length dc) d)) (HDL : Hid (d.length ≤ 1000000)) :
    Calls Try.prog 42 #[.pointer (some ⟨gy, 0, none⟩), .pointer (some ⟨gr, 0, none⟩), .agg #[.int .i64 2, .int .i64 n0, .int .i64 pos, .int .i64 ino, .string nm, .string tn, .slice da d.length dc]] w fun e w' => e = .returned (.bool true) ∧ Y3 w0 w' gy gr w.heap.size [.int .i64 2, .int .i64 n0, .int .i64 pos, .int .i64 ino, .string nm, .string tn, .slice da d.length dc] (yAppend fl nm d).2 tk (yAppend fl nm d).2 T := by
  obtain ⟨r, f, hrf⟩ : ∃ r f, yAppend fl nm d = (r, f) := ⟨_, _, rfl⟩
  have HRF := Lib.hid hrf
  have ra := h
  have HLT : Hid (w.heap.size < (w.alloc (.cells ([.int .i64 2, .int .i64 n0, .int .i64 pos, .int .i64 ino, .string nm, .string tn, .slice da d.length dc] : List Value).toArray 81)).heap.size) := h.b.lt
  have x1 : (r == r) = true := by simp
  clear h hrf
  have d0 := ra.b.cell 0
  have d1 := ra.b.cell 1
  have d2 := ra.b.cell 2
  have d3 := ra.b.cell 3
  have d4 := ra.b.cell 4
  have d5 := ra.b.cell 5
  have d6 := ra.b.cell 6
  simp only [List.getElem?_cons_zero, List.getElem?_cons_succ] at d0 d1 d2 d3 d4 d5 d6
  go_enter Try.func42, Try.ntmps42
  go_wp2_with fail
  go_region_held3 (fun W => W.cell? ⟨w.heap.size, 4, none⟩ = some (.string nm) ∧ W.cell? ⟨w.heap.size, 6, none⟩ = some (.slice da d.length dc)) (first | go_keep | exact ⟨ra.b.cell 4, ra.b.cell 6⟩) (first
    | (go_at_call 16; (with_reducible refine (y3Append (ra.upd0 ?_) nm _ d (HD.out.upd0 (ra.old.seq ?_)) HDL.out HRF.out).mono ?_); (repeat (first | exact Upd.refl _ _ | apply Upd.drew | apply Upd.drewN | apply Upd.alloc)); (rintro _ W1 ⟨rfl, ra⟩; dsimp only))
    | (go_at_call 77; (with_reducible refine (y3AppendR (ra.upd0 ?_) nm _ d (HD.out.upd0 (ra.old.seq ?_)) HDL.out HRF.out).mono ?_); (repeat (first | exact Upd.refl _ _ | apply Upd.drew | apply Upd.drewN | apply Upd.alloc)); (rintro _ W1 ⟨rfl, ra⟩; dsimp only)))
  all_goals
    have RA := Lib.hid ra
    clear ra
    go_wp2_with fail
    go_ret
    rw [HRF.out]
    first | exact ⟨rfl, RA.out⟩ | exact ⟨by simp, RA.out⟩
set_option maxRecDepth 20000 in
set_option maxHeartbeats 4000000 in
theorem yCall3 (n0 pos ino : Int) (nm tn : ByteArray) (da : Option Addr) (dc : Nat) (d : List UInt8) (h : Y3 w0 (w.alloc (.cells ([.int .i64 3, .int .i64 n0, .int .i64 pos, .int .i64 ino, .string nm, .string tn, .slice da d.length dc] : List Value).toArray 81)) gy gr w.heap.size [.int .i64 3, .int .i64 n0, .int .i64 pos, .int .i64 ino, .string nm, .string tn, .slice da d.length dc] fl tk fl T) (HU : Hid (UN fl)) (HN : Hid (NE fl)) :
    Calls Try.prog 42 #[.pointer (some ⟨gy, 0, none⟩), .pointer (some ⟨gr, 0, none⟩), .agg #[.int .i64 3, .int .i64 n0, .int .i64 pos, .int .i64 ino, .string nm, .string tn, .slice da d.length dc]] w fun e w' => e = .returned (.bool true) ∧ Y3 w0 w' gy gr w.heap.size [.int .i64 3, .int .i64 n0, .int .i64 pos, .int .i64 ino, .string nm, .string tn, .slice da d.length dc] (yRename fl nm tn).2 tk (yRename fl nm tn).2 T := by
  obtain ⟨r, f, hrf⟩ : ∃ r f, yRename fl nm tn = (r, f) := ⟨_, _, rfl⟩
  have HRF := Lib.hid hrf
  have ra := h
  have HLT : Hid (w.heap.size < (w.alloc (.cells ([.int .i64 3, .int .i64 n0, .int .i64 pos, .int .i64 ino, .string nm, .string tn, .slice da d.length dc] : List Value).toArray 81)).heap.size) := h.b.lt
  have x1 : (r == r) = true := by simp
  clear h hrf
  have d0 := ra.b.cell 0
  have d1 := ra.b.cell 1
  have d2 := ra.b.cell 2
  have d3 := ra.b.cell 3
  have d4 := ra.b.cell 4
  have d5 := ra.b.cell 5
  have d6 := ra.b.cell 6
  simp only [List.getElem?_cons_zero, List.getElem?_cons_succ] at d0 d1 d2 d3 d4 d5 d6
  go_enter Try.func42, Try.ntmps42
  go_wp2_with fail
  go_region_held3 (fun W => W.cell? ⟨w.heap.size, 4, none⟩ = some (.string nm) ∧ W.cell? ⟨w.heap.size, 5, none⟩ = some (.string tn)) (first | go_keep | exact ⟨ra.b.cell 4, ra.b.cell 5⟩) (first
    | (go_at_call 17; (with_reducible refine (y3Rename (ra.upd0 ?_) nm tn HRF.out).mono ?_); (repeat (first | exact Upd.refl _ _ | apply Upd.drew | apply Upd.drewN | apply Upd.alloc)); (rintro _ W1 ⟨rfl, ra⟩; dsimp only))
    | (go_at_call 78; (with_reducible refine (y3RenameR (ra.upd0 ?_) nm tn HU.out HN.out HRF.out).mono ?_); (repeat (first | exact Upd.refl _ _ | apply Upd.drew | apply Upd.drewN | apply Upd.alloc)); (rintro _ W1 ⟨rfl, ra⟩; dsimp only)))
  all_goals
    have RA := Lib.hid ra
    clear ra
    go_wp2_with fail
    go_ret
    rw [HRF.out]
    first | exact ⟨rfl, RA.out⟩ | exact ⟨by simp, RA.out⟩
set_option maxRecDepth 20000 in
set_option maxHeartbeats 4000000 in
theorem yCall4 (n0 pos ino : Int) (nm tn : ByteArray) (da : Option Addr) (dc : Nat) (d : List UInt8) (h : Y3 w0 (w.alloc (.cells ([.int .i64 4, .int .i64 n0, .int .i64 pos, .int .i64 ino, .string nm, .string tn, .slice da d.length dc] : List Value).toArray 81)) gy gr w.heap.size [.int .i64 4, .int .i64 n0, .int .i64 pos, .int .i64 ino, .string nm, .string tn, .slice da d.length dc] fl tk fl T) (HI : Hid (I64 n0)) :
    Calls Try.prog 42 #[.pointer (some ⟨gy, 0, none⟩), .pointer (some ⟨gr, 0, none⟩), .agg #[.int .i64 4, .int .i64 n0, .int .i64 pos, .int .i64 ino, .string nm, .string tn, .slice da d.length dc]] w fun e w' => e = .returned (.bool true) ∧ Y3 w0 w' gy gr w.heap.size [.int .i64 4, .int .i64 n0, .int .i64 pos, .int .i64 ino, .string nm, .string tn, .slice da d.length dc] (yCut fl nm n0).2 tk (yCut fl nm n0).2 T := by
  obtain ⟨r, f, hrf⟩ : ∃ r f, yCut fl nm n0 = (r, f) := ⟨_, _, rfl⟩
  have HRF := Lib.hid hrf
  have ra := h
  have HLT : Hid (w.heap.size < (w.alloc (.cells ([.int .i64 4, .int .i64 n0, .int .i64 pos, .int .i64 ino, .string nm, .string tn, .slice da d.length dc] : List Value).toArray 81)).heap.size) := h.b.lt
  have x1 : (r == r) = true := by simp
  clear h hrf
  have d0 := ra.b.cell 0
  have d1 := ra.b.cell 1
  have d2 := ra.b.cell 2
  have d3 := ra.b.cell 3
  have d4 := ra.b.cell 4
  have d5 := ra.b.cell 5
  have d6 := ra.b.cell 6
  simp only [List.getElem?_cons_zero, List.getElem?_cons_succ] at d0 d1 d2 d3 d4 d5 d6
  go_enter Try.func42, Try.ntmps42
  go_wp2_with fail
  go_region_held3 (fun W => W.cell? ⟨w.heap.size, 4, none⟩ = some (.string nm) ∧ W.cell? ⟨w.heap.size, 1, none⟩ = some (.int .i64 n0)) (first | go_keep | exact ⟨ra.b.cell 4, ra.b.cell 1⟩) (first
    | (go_at_call 23; (with_reducible refine (y3Cut (ra.upd0 ?_) nm n0 HI.out HRF.out).mono ?_); (repeat (first | exact Upd.refl _ _ | apply Upd.drew | apply Upd.drewN | apply Upd.alloc)); (rintro _ W1 ⟨rfl, ra⟩; dsimp only))
    | (go_at_call 79; (with_reducible refine (y3CutR (ra.upd0 ?_) nm n0 HI.out HRF.out).mono ?_); (repeat (first | exact Upd.refl _ _ | apply Upd.drew | apply Upd.drewN | apply Upd.alloc)); (rintro _ W1 ⟨rfl, ra⟩; dsimp only)))
  all_goals
    have RA := Lib.hid ra
    clear ra
    go_wp2_with fail
    go_ret
    rw [HRF.out]
    first | exact ⟨rfl, RA.out⟩ | exact ⟨by simp, RA.out⟩
set_option maxRecDepth 20000 in
set_option maxHeartbeats 4000000 in
theorem yCall5 (n0 pos ino : Int) (nm tn : ByteArray) (da : Option Addr) (dc : Nat) (d : List UInt8) (h : Y3 w0 (w.alloc (.cells ([.int .i64 5, .int .i64 n0, .int .i64 pos, .int .i64 ino, .string nm, .string tn, .slice da d.length dc] : List Value).toArray 81)) gy gr w.heap.size [.int .i64 5, .int .i64 n0, .int .i64 pos, .int .i64 ino, .string nm, .string tn, .slice da d.length dc] fl tk fl T)  :
    Calls Try.prog 42 #[.pointer (some ⟨gy, 0, none⟩), .pointer (some ⟨gr, 0, none⟩), .agg #[.int .i64 5, .int .i64 n0, .int .i64 pos, .int .i64 ino, .string nm, .string tn, .slice da d.length dc]] w fun e w' => e = .returned (.bool true) ∧ Y3 w0 w' gy gr w.heap.size [.int .i64 5, .int .i64 n0, .int .i64 pos, .int .i64 ino, .string nm, .string tn, .slice da d.length dc] (yRemove fl nm).2 tk (yRemove fl nm).2 T := by
  obtain ⟨r, f, hrf⟩ : ∃ r f, yRemove fl nm = (r, f) := ⟨_, _, rfl⟩
  have HRF := Lib.hid hrf
  have ra := h
  have HLT : Hid (w.heap.size < (w.alloc (.cells ([.int .i64 5, .int .i64 n0, .int .i64 pos, .int .i64 ino, .string nm, .string tn, .slice da d.length dc] : List Value).toArray 81)).heap.size) := h.b.lt
  have x1 : (r == r) = true := by simp
  clear h hrf
  have d0 := ra.b.cell 0
  have d1 := ra.b.cell 1
  have d2 := ra.b.cell 2
  have d3 := ra.b.cell 3
  have d4 := ra.b.cell 4
  have d5 := ra.b.cell 5
  have d6 := ra.b.cell 6
  simp only [List.getElem?_cons_zero, List.getElem?_cons_succ] at d0 d1 d2 d3 d4 d5 d6
  go_enter Try.func42, Try.ntmps42
  go_wp2_with fail
  go_region_held3 (fun W => W.cell? ⟨w.heap.size, 4, none⟩ = some (.string nm)) (first | go_keep | exact ra.b.cell 4) (first
    | (go_at_call 46; (with_reducible refine (y3Remove (ra.upd0 ?_) nm HRF.out).mono ?_); (repeat (first | exact Upd.refl _ _ | apply Upd.drew | apply Upd.drewN | apply Upd.alloc)); (rintro _ W1 ⟨rfl, ra⟩; dsimp only))
    | (go_at_call 80; (with_reducible refine (y3RemoveR (ra.upd0 ?_) nm HRF.out).mono ?_); (repeat (first | exact Upd.refl _ _ | apply Upd.drew | apply Upd.drewN | apply Upd.alloc)); (rintro _ W1 ⟨rfl, ra⟩; dsimp only)))
  all_goals
    have RA := Lib.hid ra
    clear ra
    go_wp2_with fail
    go_ret
    rw [HRF.out]
    first | exact ⟨rfl, RA.out⟩ | exact ⟨by simp, RA.out⟩
end
end Go.Proofs.Ytmhdhnipljonlaa
namespace Go.Proofs.Ytmhdhnipljonlaa
open Go.RowKit
set_option linter.unusedSimpArgs false
set_option linter.unusedVariables false
section
variable {w0 w : World} {gy gr : Nat} {fl : FL} {tk : List (Int × Int)} {T : List Int}
set_option maxRecDepth 20000 in
set_option maxHeartbeats 4000000 in
theorem yCall6 (n0 pos ino : Int) (nm tn : ByteArray) (da : Option Addr) (dc : Nat) (d : List UInt8) (h : Y3 w0 (w.alloc (.cells ([.int .i64 6, .int .i64 n0, .int .i64 pos, .int .i64 ino, .string nm, .string tn, .slice da d.length dc] : List Value).toArray 81)) gy gr w.heap.size [.int .i64 6, .int .i64 n0, .int .i64 pos, .int .i64 ino, .string nm, .string tn, .slice da d.length dc] fl tk fl T)  :
    Calls Try.prog 42 #[.pointer (some ⟨gy, 0, none⟩), .pointer (some ⟨gr, 0, none⟩), .agg #[.int .i64 6, .int .i64 n0, .int .i64 pos, .int .i64 ino, .string nm, .string tn, .slice da d.length dc]] w fun e w' => e = .returned (.bool true) ∧ Y3 w0 w' gy gr w.heap.size [.int .i64 6, .int .i64 n0, .int .i64 pos, .int .i64 ino, .string nm, .string tn, .slice da d.length dc] fl tk fl T := by
  obtain ⟨⟨x, y, z⟩, ok, hf⟩ : ∃ x ok, yFindF fl nm = (x, ok) := ⟨_, _, rfl⟩
  have HF := Lib.hid hf
  clear hf
  have ra := Lib.hid h
  have HLT : Hid (w.heap.size < (w.alloc (.cells ([.int .i64 6, .int .i64 n0, .int .i64 pos, .int .i64 ino, .string nm, .string tn, .slice da d.length dc] : List Value).toArray 81)).heap.size) := h.b.lt
  have d0 := h.b.cell 0
  have d1 := h.b.cell 1
  have d2 := h.b.cell 2
  have d3 := h.b.cell 3
  have d4 := h.b.cell 4
  simp only [List.getElem?_cons_zero, List.getElem?_cons_succ] at d0 d1 d2 d3 d4
  clear h
  go_enter Try.func42, Try.ntmps42
  go_wp2_with fail
  (with_reducible refine (y3Find ra.out nm HF.out).mono ?_)
  rintro e w1 ⟨rfl, hu1⟩
  have HA1 := Lib.hid (ra.out.upd0 (hu1.alloc (.cells #[iv x, sv y, .int .i64 z] 31)))
  have HB1 := Lib.hid (Blk.new w1 31 [iv x, sv y, .int .i64 z])
  have e4 := HA1.out.b.cell 4
  simp only [List.getElem?_cons_zero, List.getElem?_cons_succ] at e4
  clear hu1 d0 d1 d2 d3 d4
  go_wp2_with fail
  (with_reducible refine (y3FindR HA1.out nm HF.out).mono ?_)
  rintro e w2 ⟨rfl, hu2⟩
  have HA2 := Lib.hid (HA1.out.upd0 (hu2.alloc (.cells #[iv x, sv y, .int .i64 z] 31)))
  have hb1 := HB1.out.upd (hu2.alloc (.cells #[iv x, sv y, .int .i64 z] 31)) (by simp)
  have hb2 := Blk.new w2 31 [iv x, sv y, .int .i64 z]
  have f0 := hb1.cell 0
  have f1 := hb1.cell 1
  have f2 := hb1.cell 2
  have g0 := hb2.cell 0
  have g1 := hb2.cell 1
  have g2 := hb2.cell 2
  simp only [List.getElem?_cons_zero, List.getElem?_cons_succ] at f0 f1 f2 g0 g1 g2
  have z1 : (x == x) = true := by simp
  have z2 : (y.toList == y.toList) = true := by simp
  have z3 : (z == z) = true := by simp
  have z4 : (ok == ok) = true := by simp
  clear hu2 e4 hb1 hb2
  go_wp2_with fail
  go_ret
  first | exact ⟨rfl, HA2.out⟩ | exact ⟨by simp, HA2.out⟩
set_option maxRecDepth 20000 in
set_option maxHeartbeats 4000000 in
theorem yCall7 (n0 pos ino : Int) (nm tn : ByteArray) (da : Option Addr) (dc : Nat) (d : List UInt8) (h : Y3 w0 (w.alloc (.cells ([.int .i64 7, .int .i64 n0, .int .i64 pos, .int .i64 ino, .string nm, .string tn, .slice da d.length dc] : List Value).toArray 81)) gy gr w.heap.size [.int .i64 7, .int .i64 n0, .int .i64 pos, .int .i64 ino, .string nm, .string tn, .slice da d.length dc] fl tk fl T) (hp : I64 pos) (hi : I64 ino) (hn : I64 n0) (htl : tk.length ≤ 50000) (htk : ∀ p ∈ tk, 0 ≤ p.2 ∧ p.2 ≤ 1000000000000) (hTl : T.length ≤ 13) (hTR : TR T tk) (hbd : ∀ k : Nat, 0 ≤ (tGet ltY 0 tk (k : Int)).1 ∧ (tGet ltY 0 tk (k : Int)).1 ≤ 1000000000000) :
    Calls Try.prog 42 #[.pointer (some ⟨gy, 0, none⟩), .pointer (some ⟨gr, 0, none⟩), .agg #[.int .i64 7, .int .i64 n0, .int .i64 pos, .int .i64 ino, .string nm, .string tn, .slice da d.length dc]] w fun e w' => e = .returned (.bool true) ∧ ∃ T', TR T' (yRead fl tk ino pos n0).2 ∧ T'.length ≤ 13 ∧ Y3 w0 w' gy gr w.heap.size [.int .i64 7, .int .i64 n0, .int .i64 pos, .int .i64 ino, .string nm, .string tn, .slice da d.length dc] fl (yRead fl tk ino pos n0).2 fl T' := by
  obtain ⟨p, r, tk', hf⟩ : ∃ p r tk', yRead fl tk ino pos n0 = ((p, r), tk') := ⟨_, _, _, rfl⟩
  have HF := Lib.hid hf
  rw [hf]
  have HP := Lib.hid hp
  have HI := Lib.hid hi
  have HN := Lib.hid hn
  have HTK := Lib.hid htk
  have HTR := Lib.hid hTR
  have HBD := Lib.hid hbd
  clear hf hp hi hn htk hTR hbd
  have ra := Lib.hid h
  have HLT : Hid (w.heap.size < (w.alloc (.cells ([.int .i64 7, .int .i64 n0, .int .i64 pos, .int .i64 ino, .string nm, .string tn, .slice da d.length dc] : List Value).toArray 81)).heap.size) := h.b.lt
  have d0 := h.b.cell 0
  have d1 := h.b.cell 1
  have d2 := h.b.cell 2
  have d3 := h.b.cell 3
  have d4 := h.b.cell 4
  simp only [List.getElem?_cons_zero, List.getElem?_cons_succ] at d0 d1 d2 d3 d4
  clear h
  go_enter Try.func42, Try.ntmps42
  go_wp2_with fail
  (with_reducible refine (y3Read ra.out ino pos n0 HI.out HP.out HN.out htl HTK.out HF.out).mono ?_)
  rintro e w1 ⟨va, vk, rfl, h1⟩
  have H1 := Lib.hid h1
  have e1 := h1.y3.b.cell 1
  have e2 := h1.y3.b.cell 2
  have e3 := h1.y3.b.cell 3
  simp only [List.getElem?_cons_zero, List.getElem?_cons_succ] at e1 e2 e3
  clear h1 d0 d1 d2 d3 d4
  go_wp2_with fail
  (with_reducible refine (y4ReadR H1.out ino pos n0 HI.out HP.out HN.out hTl HTR.out HBD.out HF.out).mono ?_)
  rintro e w2 ⟨vb, vk2, T', rfl, h2, t1, t2, hb2, hb1⟩
  have H2 := Lib.hid h2
  have HT1 := Lib.hid t1
  have HT2 := Lib.hid t2
  clear h2 t1 t2 e1 e2 e3
  go_wp2_with fail
  (with_reducible refine (sameByte_ok _ _ p w2 hb1.out hb2.out).mono ?_)
  rintro e w3 ⟨rfl, n3, rfl⟩
  have H3 := Lib.hid (H2.out.upd0 ((Upd.refl [] w2).drewN n3))
  have z4 : (r == r) = true := by simp
  go_wp2_with fail
  go_ret
  first | exact ⟨rfl, T', HT1.out, HT2.out, H3.out⟩ | exact ⟨by simp, T', HT1.out, HT2.out, H3.out⟩
set_option maxRecDepth 20000 in
set_option maxHeartbeats 4000000 in
theorem yCall0 (kd n0 pos ino : Int) (nm tn : ByteArray) (da : Option Addr) (dc : Nat) (d : List UInt8) (h : Y3 w0 (w.alloc (.cells ([.int .i64 kd, .int .i64 n0, .int .i64 pos, .int .i64 ino, .string nm, .string tn, .slice da d.length dc] : List Value).toArray 81)) gy gr w.heap.size [.int .i64 kd, .int .i64 n0, .int .i64 pos, .int .i64 ino, .string nm, .string tn, .slice da d.length dc] fl tk fl T) (k1 : kd ≠ 1) (k2 : kd ≠ 2) (k3 : kd ≠ 3) (k4 : kd ≠ 4) (k5 : kd ≠ 5) (k6 : kd ≠ 6) (k7 : kd ≠ 7) :
    Calls Try.prog 42 #[.pointer (some ⟨gy, 0, none⟩), .pointer (some ⟨gr, 0, none⟩), .agg #[.int .i64 kd, .int .i64 n0, .int .i64 pos, .int .i64 ino, .string nm, .string tn, .slice da d.length dc]] w fun e w' => e = .returned (.bool true) ∧ Y3 w0 w' gy gr w.heap.size [.int .i64 kd, .int .i64 n0, .int .i64 pos, .int .i64 ino, .string nm, .string tn, .slice da d.length dc] fl tk fl T := by
  have ra := Lib.hid h
  have HLT : Hid (w.heap.size < (w.alloc (.cells ([.int .i64 kd, .int .i64 n0, .int .i64 pos, .int .i64 ino, .string nm, .string tn, .slice da d.length dc] : List Value).toArray 81)).heap.size) := h.b.lt
  have d0 := h.b.cell 0
  have d1 := h.b.cell 1
  have d2 := h.b.cell 2
  have d3 := h.b.cell 3
  have d4 := h.b.cell 4
  simp only [List.getElem?_cons_zero, List.getElem?_cons_succ] at d0 d1 d2 d3 d4
  clear h
  have t1 : (kd == 1) = false := by rw [beq_eq_false_iff_ne]; exact k1
  have t2 : (kd == 2) = false := by rw [beq_eq_false_iff_ne]; exact k2
  have t3 : (kd == 3) = false := by rw [beq_eq_false_iff_ne]; exact k3
  have t4 : (kd == 4) = false := by rw [beq_eq_false_iff_ne]; exact k4
  have t5 : (kd == 5) = false := by rw [beq_eq_false_iff_ne]; exact k5
  have t6 : (kd == 6) = false := by rw [beq_eq_false_iff_ne]; exact k6
  have t7 : (kd == 7) = false := by rw [beq_eq_false_iff_ne]; exact k7
  clear k1 k2 k3 k4 k5 k6 k7
  go_enter Try.func42, Try.ntmps42
  go_wp2_with fail
  go_ret
  exact ⟨rfl, ra.out⟩
end
end Go.Proofs.Ytmhdhnipljonlaa
namespace Go.Proofs.Ytmhdhnipljonlaa
open Go.RowKit
set_option linter.unusedSimpArgs false
set_option linter.unusedVariables false
theorem i64_mkY {n : Int} (h1 : -9223372036854775808 ≤ n) (h2 : n ≤ 9223372036854775807) : I64 n := ⟨h1, h2⟩
/-- Both yards alike behind k calls. -/
structure Y2 (w0 w : World) (gy gr : Nat) (fl : FL) (tk : List (Int × Int)) (T : List Int) : Prop where
  ex : ∃ G1 G2, YD w0 w gy G1 fl tk ∧ RYD w0 w gr G2 fl T ∧ Ap G1 G2
structure Pl (k : Nat) (fl : FL) (tk : List (Int × Int)) (T : List Int) : Prop where
  un : UN fl
  ne : NE fl
  tr : TR T tk
  tl : T.length ≤ 13
  tkl : tk.length ≤ k
  bd : ∀ p ∈ tk, 0 ≤ p.2 ∧ p.2 ≤ 65536 * (k : Int)
section
variable {w0 w w' : World} {gy gr gb k : Nat} {bs : List Value} {fl fl' : FL} {tk tk' : List (Int × Int)} {T T' : List Int}
theorem Y2.old (h : Y2 w0 w gy gr fl tk T) : Upd [] w0 w := by
  obtain ⟨G1, G2, h1, -⟩ := h.ex
  exact h1.old
theorem Y2.upd0 (h : Y2 w0 w gy gr fl tk T) (hu : Upd [] w w') : Y2 w0 w' gy gr fl tk T := by
  obtain ⟨G1, G2, h1, h2, h3⟩ := h.ex
  exact ⟨G1, G2, h1.upd0 hu, h2.upd0 hu, h3⟩
theorem Y2.box (h : Y2 w0 w gy gr fl tk T) (vs : List Value) : Y3 w0 (w.alloc (.cells vs.toArray 81)) gy gr w.heap.size vs fl tk fl T := by
  obtain ⟨G1, G2, h1, h2, h3⟩ := h.ex
  have hu := (Upd.refl [] w).alloc (.cells vs.toArray 81)
  exact ⟨G1, G2, h1.upd0 hu, h2.upd0 hu, h3, Blk.new w _ vs, fun q => by have := (h1.ge _ q).2; omega, fun q => by have := (h2.ge _ q).2; omega⟩
theorem Y3.y2 (h : Y3 w0 w gy gr gb bs fl tk fl T) : Y2 w0 w gy gr fl tk T := by
  obtain ⟨G1, G2, h1, h2, h3, -⟩ := h.ex
  exact ⟨G1, G2, h1, h2, h3⟩
theorem Y2.ris (h : Y2 w0 w gy gr fl tk T) : Rising ltY fl ∧ fl.length ≤ 12 ∧ (∀ p ∈ fl, 1 ≤ p.1 ∧ p.1 ≤ 12 ∧ p.2.2.length ≤ 65536) := by
  obtain ⟨G1, G2, h1, -⟩ := h.ex
  exact h1.ris
theorem Pl.zero : Pl 0 [] [] [] := ⟨UN.nil, fun p hp => by simp at hp, TR.nil, by simp, by simp, by simp⟩
theorem Pl.up (h : Pl k fl tk T) : Pl (k + 1) fl tk T := ⟨h.un, h.ne, h.tr, h.tl, by have := h.tkl; omega, fun p hp => by have := h.bd p hp; exact ⟨this.1, by omega⟩⟩
theorem Pl.files (h : Pl k fl tk T) (h1 : UN fl') (h2 : NE fl') : Pl (k + 1) fl' tk T := ⟨h1, h2, h.tr, h.tl, by have := h.tkl; omega, fun p hp => by have := h.bd p hp; exact ⟨this.1, by omega⟩⟩
theorem Pl.get (h : Pl k fl tk T) (hk : k ≤ 1000) (i : Int) : 0 ≤ (tGet ltY 0 tk i).1 ∧ (tGet ltY 0 tk i).1 ≤ 65536 * (k : Int) := by
  rcases get_cases (lt := ltY) (0 : Int) tk i with ⟨v, hv⟩ | hn
  · have := h.bd _ ((get_mem intOrd (0 : Int) h.tr.ris i v).1 hv)
    rw [hv]; exact this
  · rw [hn]; exact ⟨Int.le_refl _, by show (0 : Int) ≤ _; omega⟩
theorem Pl.tk1 (h : Pl k fl tk T) (hk : k ≤ 1000) : ∀ p ∈ tk, 0 ≤ p.2 ∧ p.2 ≤ 1000000000000 := fun p hp => by have := h.bd p hp; exact ⟨this.1, by omega⟩
theorem Pl.tk2 (h : Pl k fl tk T) (hk : k ≤ 1000) : ∀ j : Nat, 0 ≤ (tGet ltY 0 tk (j : Int)).1 ∧ (tGet ltY 0 tk (j : Int)).1 ≤ 1000000000000 := fun j => by have := h.get hk (j : Int); exact ⟨this.1, by omega⟩
theorem Pl.read (h : Pl k fl tk T) (hk : k ≤ 1000) (hin : ∀ p ∈ fl, 1 ≤ p.1 ∧ p.1 ≤ 12 ∧ p.2.2.length ≤ 65536) (ino a n : Int) (h1 : TR T' (yRead fl tk ino a n).2) (h2 : T'.length ≤ 13) : Pl (k + 1) fl (yRead fl tk ino a n).2 T' := by
  refine ⟨h.un, h.ne, h1, h2, ?_, ?_⟩
  · have h3 := h.tkl
    unfold yRead
    split
    · split
      · show tk.length ≤ k + 1; omega
      · have := tSet_len (lt := ltY) tk ino ((tGet ltY 0 tk ino).1 + ((((nth fl (below ltY fl ino)).2.2.drop a.toNat).take n.toNat).length : Int))
        show (tSet ltY tk ino _).length ≤ k + 1; omega
    · show tk.length ≤ k + 1; omega
  · have hup : ∀ p ∈ tk, 0 ≤ p.2 ∧ p.2 ≤ 65536 * ((k + 1 : Nat) : Int) := fun p hp => by have := h.bd p hp; exact ⟨this.1, by omega⟩
    unfold yRead
    split
    · rename_i hi
      split
      · exact hup
      · intro p hp
        rcases tSet_mem tk ino _ p hp with rfl | q
        · have g := h.get hk ino
          have hb : ((((nth fl (below ltY fl ino)).2.2.drop a.toNat).take n.toNat).length : Int) ≤ 65536 := by
            unfold isIn at hi
            have := (hin _ (nth_mem _ (of_decide_eq_true hi).1)).2.2
            rw [List.length_take, List.length_drop]; omega
          exact ⟨by dsimp only; omega, by dsimp only; omega⟩
        · exact hup p q
    · exact hup
theorem yp_call (h : Y2 w0 w gy gr fl tk T) (hp : Pl k fl tk T) (hk : k ≤ 500) (kd n0 pos ino : Int) (nm tn : ByteArray) (da : Option Addr) (dc : Nat) (d : List UInt8) (i2 : I64 n0) (i3 : I64 pos) (i4 : I64 ino) (hd : Bytes w0 (.slice da d.length dc) d) (hdl : d.length ≤ 2000) :
    Calls Try.prog 42 #[.pointer (some ⟨gy, 0, none⟩), .pointer (some ⟨gr, 0, none⟩), .agg #[.int .i64 kd, .int .i64 n0, .int .i64 pos, .int .i64 ino, .string nm, .string tn, .slice da d.length dc]] w fun e w' => e = .returned (.bool true) ∧ ∃ fl' tk' T', Y2 w0 w' gy gr fl' tk' T' ∧ Pl (k + 1) fl' tk' T' := by
  have hr := h.ris
  by_cases k1 : kd = 1
  · subst k1
    refine (yCall1 n0 pos ino nm tn da dc d (h.box _)).mono ?_
    rintro e w' ⟨rfl, h'⟩
    exact ⟨rfl, _, _, _, h'.y2, hp.files (hp.un.create hr.1 nm) (hp.ne.create nm)⟩
  by_cases k2 : kd = 2
  · subst k2
    refine (yCall2 n0 pos ino nm tn da dc d (h.box _) hd (show d.length ≤ 1000000 by omega)).mono ?_
    rintro e w' ⟨rfl, h'⟩
    exact ⟨rfl, _, _, _, h'.y2, hp.files (hp.un.append hr.1 nm d) (hp.ne.append nm d)⟩
  by_cases k3 : kd = 3
  · subst k3
    refine (yCall3 n0 pos ino nm tn da dc d (h.box _) hp.un hp.ne).mono ?_
    rintro e w' ⟨rfl, h'⟩
    exact ⟨rfl, _, _, _, h'.y2, hp.files (hp.un.rename hr.1 nm tn) (hp.ne.rename nm tn)⟩
  by_cases k4 : kd = 4
  · subst k4
    refine (yCall4 n0 pos ino nm tn da dc d (h.box _) i2).mono ?_
    rintro e w' ⟨rfl, h'⟩
    exact ⟨rfl, _, _, _, h'.y2, hp.files (hp.un.cut hr.1 nm n0) (hp.ne.cut nm n0)⟩
  by_cases k5 : kd = 5
  · subst k5
    refine (yCall5 n0 pos ino nm tn da dc d (h.box _)).mono ?_
    rintro e w' ⟨rfl, h'⟩
    exact ⟨rfl, _, _, _, h'.y2, hp.files (hp.un.remove nm) (hp.ne.remove nm)⟩
  by_cases k6 : kd = 6
  · subst k6
    refine (yCall6 n0 pos ino nm tn da dc d (h.box _)).mono ?_
    rintro e w' ⟨rfl, h'⟩
    exact ⟨rfl, _, _, _, h'.y2, hp.up⟩
  by_cases k7 : kd = 7
  · subst k7
    refine (yCall7 n0 pos ino nm tn da dc d (h.box _) i3 i4 i2 (by have := hp.tkl; omega) (hp.tk1 (by omega)) hp.tl hp.tr (hp.tk2 (by omega))).mono ?_
    rintro e w' ⟨rfl, T', t1, t2, h'⟩
    exact ⟨rfl, _, _, _, h'.y2, hp.read (by omega) hr.2.2 ino pos n0 t1 t2⟩
  · refine (yCall0 kd n0 pos ino nm tn da dc d (h.box _) k1 k2 k3 k4 k5 k6 k7).mono ?_
    rintro e w' ⟨rfl, h'⟩
    exact ⟨rfl, _, _, _, h'.y2, hp.up⟩
theorem y2Files (h : Y2 w0 w gy gr fl tk T) {l : List AF} (he : yFiles fl = l) :
    Calls Try.prog 19 #[.pointer (some ⟨gy, 0, none⟩)] w fun e w' => ∃ a k, e = .returned (.slice a l.length k) ∧ Hid (RdN 3 afCells w' (.slice a l.length k) l) ∧ Upd [] w w' := by
  subst he
  obtain ⟨G1, G2, h1, -⟩ := h.ex
  refine (yFiles_any h1).mono ?_
  rintro e w' ⟨v, rfl, ho, hu⟩
  have hr := ho.rd afCells_len
  obtain ⟨a, k, rfl, -⟩ := id hr
  exact ⟨a, k, rfl, hr, hu⟩
theorem y2FilesR (h : Y2 w0 w gy gr fl tk T) {l : List AF} (he : yFiles fl = l) :
    Calls Try.prog 43 #[.pointer (some ⟨gr, 0, none⟩)] w fun e w' => ∃ a k, e = .returned (.slice a l.length k) ∧ Hid (RdN 3 afCells w' (.slice a l.length k) l) ∧ Upd [] w w' := by
  subst he
  obtain ⟨G1, G2, h1, h2, -⟩ := h.ex
  refine (ryFiles_any h2).mono ?_
  rintro e w' ⟨v, rfl, ho, hu⟩
  have hr := ho.rd afCells_len
  obtain ⟨a, k, rfl, -⟩ := id hr
  exact ⟨a, k, rfl, hr, hu⟩
/-- The first yard has read, the second one is to. -/
structure Y5 (w0 w : World) (gy gr : Nat) (fl : FL) (tk : List (Int × Int)) (T : List Int) (u : Value) (q : List UInt8) : Prop where
  ex : ∃ G1 G2, YD w0 w gy G1 fl tk ∧ RYD w0 w gr G2 fl T ∧ Ap G1 G2 ∧ Bytes w u q ∧ ∀ x ∈ blk u, x ∉ G2
theorem y2Read (h : Y2 w0 w gy gr fl tk T) (ino a n : Int) (hi : I64 ino) (ha : I64 a) (hn : I64 n) (htl : tk.length ≤ 50000) (htk : ∀ p ∈ tk, 0 ≤ p.2 ∧ p.2 ≤ 1000000000000) {p : List UInt8} {r : Int} {tk' : List (Int × Int)} (he : yRead fl tk ino a n = ((p, r), tk')) :
    Calls Try.prog 21 #[.pointer (some ⟨gy, 0, none⟩), .int .i64 ino, .int .i64 a, .int .i64 n] w fun e w' => ∃ va k, e = .returned (.tuple #[.slice va p.length k, .int .i64 r]) ∧ Y5 w0 w' gy gr fl tk' T (.slice va p.length k) p := by
  obtain ⟨G1, G2, h1, h2, h3⟩ := h.ex
  have hc := yRead_any ino a n hi ha hn h1 htl htk
  rw [he] at hc
  refine hc.mono ?_
  rintro e w' ⟨v, rfl, ho, G', k1, k2, k3, k4⟩
  have hr := ho.rd
  obtain ⟨va, k, rfl, -⟩ := id hr
  refine ⟨va, k, rfl, G', G2, k1, h2.upd k2 (fun x hx hs => h3 x hs hx) (fun x hx => (h1.ge x hx).1), apY_grow h3 k3 (fun y hy => (h2.ge y hy).2), hr, fun x hx q => ?_⟩
  have := (ho.ge x hx).1; have := (h2.ge x q).2; omega
theorem y5ReadR {u : Value} {q : List UInt8} (h : Y5 w0 w gy gr fl tk T u q) {tq : List (Int × Int)} (ino a n : Int) (hi : I64 ino) (ha : I64 a) (hn : I64 n) (hTl : T.length ≤ 13) (hTR : TR T tq) (hbd : ∀ k : Nat, 0 ≤ (tGet ltY 0 tq (k : Int)).1 ∧ (tGet ltY 0 tq (k : Int)).1 ≤ 1000000000000) {p : List UInt8} {r : Int} {tk' : List (Int × Int)} (he : yRead fl tq ino a n = ((p, r), tk')) :
    Calls Try.prog 44 #[.pointer (some ⟨gr, 0, none⟩), .int .i64 ino, .int .i64 a, .int .i64 n] w fun e w' => ∃ va k T', e = .returned (.tuple #[.slice va p.length k, .int .i64 r]) ∧ Y2 w0 w' gy gr fl tk T' ∧ TR T' tk' ∧ T'.length ≤ 13 ∧ Hid (Bytes w' (.slice va p.length k) p) ∧ Hid (Bytes w' u q) := by
  obtain ⟨G1, G2, h1, h2, h3, h7, h8⟩ := h.ex
  have hc := ryRead_any ino a n hi ha hn h2 hTl hTR hbd
  rw [he] at hc
  refine hc.mono ?_
  rintro e w' ⟨v, rfl, ho, T', t1, t2, G', k1, k2, k3⟩
  have hr := ho.rd
  obtain ⟨va, k, rfl, -⟩ := id hr
  refine ⟨va, k, T', rfl, ⟨G1, G', h1.upd k2 (fun x hx hs => h3 x hx hs) (fun x hx => (h2.ge x hx).1), k1, fun x hx hy => ?_⟩, t1, t2, hr, h7.upd k2 h8⟩
  rcases k3 x hy with q | q
  · exact h3 x hx q
  · have := (h1.ge x hx).2; omega
theorem y2Taken (h : Y2 w0 w gy gr fl tk T) (htl : tk.length ≤ 50000) (k : Int) (hk : I64 k) {v : Int} (hv : (tGet ltY 0 tk k).1 = v) :
    Calls Try.prog 22 #[.pointer (some ⟨gy, 0, none⟩), .int .i64 k] w fun e w' => e = .returned (.int .i64 v) ∧ Upd [] w w' := by
  subst hv
  obtain ⟨G1, G2, h1, -⟩ := h.ex
  obtain ⟨gf, gt, F, T0, cs, hc, -, -, -, -⟩ := h1.ex
  exact yTaken_any k _ (tGet ltY 0 tk k).2 hc (by omega) hk rfl
theorem y2TakenR (h : Y2 w0 w gy gr fl tk T) (hTl : T.length ≤ 13) (k : Int) (hk : I64 k) {v : Int} (hv : tkAt T k = v) :
    Calls Try.prog 45 #[.pointer (some ⟨gr, 0, none⟩), .int .i64 k] w fun e w' => e = .returned (.int .i64 v) ∧ Upd [] w w' := by
  subst hv
  obtain ⟨G1, G2, h1, h2, -⟩ := h.ex
  obtain ⟨lv, tv, cs, hc, -⟩ := h2.ex
  exact ryTaken_any k hk hc (by omega)
theorem RYD.new (w0 w : World) (hu : Upd [] w0 w) : ∃ G, RYD w0 (w.alloc (.cells #[.slice none 0 0, .slice none 0 0] 79)) w.heap.size G [] [] ∧ ∀ x ∈ G, w.heap.size ≤ x := by
  have hua : Upd [] w (w.alloc (.cells #[.slice none 0 0, .slice none 0 0] 79)) := (Upd.refl [] w).alloc _
  refine ⟨_, ⟨.slice none 0 0, .slice none 0 0, [], ⟨Blk.new w _ [.slice none 0 0, .slice none 0 0], hu.size, OwnN.nil _ _ _, World.ownsRow_nil _ _ _ _, by simp, hu.seq hua, Rising.nil⟩, rfl, by simp, by simp, rfl⟩, fun x hx => ?_⟩
  rcases (ryFoot_mem _ _ _ _ _).1 hx with rfl | hx | hx | ⟨c, hc, hx⟩
  · exact Nat.le_refl _
  · simp [blk] at hx
  · simp [blk] at hx
  · simp at hc
end
set_option maxRecDepth 20000 in
set_option maxHeartbeats 8000000 in
theorem yardPlays_any (w : World) (vl : Value) (l : List Ask21) (hl : RdN 7 ask21Cells w vl l) (hg : ∀ x ∈ l, Ask21Good w x) :
    Calls Try.prog 11 #[vl] w fun e w' => e = .returned (.bool true) ∧ Upd [] w w' := by
  obtain ⟨a1, cap1, rfl, hlc1, hcm1, hcell1⟩ := hl
  have hm1 : l.length ≤ 9223372036854775807 := by unfold maxLen at hcm1; omega
  have HC1 := Lib.hid hcell1
  have HG := Lib.hid hg
  clear hlc1 hcm1 hcell1 hg
  go_enter Try.func11, Try.ntmps11
  go_wp2_with fail
  (with_reducible refine (yNew_any w _ (Upd.refl [] w)).mono ?_)
  rintro e w1 ⟨gy, rfl, ⟨G1, h1, hf1⟩, hu1⟩
  obtain ⟨G2, h2, hf2⟩ := RYD.new w w1 hu1
  have H2 : Hid (Y2 w (w1.alloc (.cells #[.slice none 0 0, .slice none 0 0] 79)) gy w1.heap.size [] [] []) := ⟨G1, G2, h1.upd0 ((Upd.refl [] w1).alloc _), h2, fun x hx hy => by have := (h1.ge x hx).2; have := hf2 x hy; omega⟩
  clear h1 hf1 hu1 h2 hf2
  go_wp2_with fail
  generalize w1.alloc (.cells #[.slice none 0 0, .slice none 0 0] 79) = w2 at *
  generalize w1.heap.size = gr at *
  go_loopw [5] (fun vi wr => ∃ (k : Nat) (fl : FL) (tk : List (Int × Int)) (T : List Int), k ≤ 100 ∧ k ≤ l.length ∧ vi = .int .i64 k ∧ Hid (Y2 w wr gy gr fl tk T) ∧ Hid (Pl k fl tk T)) (fun vi _ => 100 - (intOf vi).toNat)
  case atStart => exact ⟨0, [], [], [], by omega, by omega, rfl, H2, Pl.zero⟩
  case round =>
    clear H2
    obtain ⟨k, fl, tk, T, hk, hkl, rfl, hs, hpl⟩ := hrel
    have hend : (k < l.length ∧ k < 100) ∨ (k = l.length ∧ Hid (k ≤ 100)) ∨ (k = 100 ∧ k < l.length) := by unfold Hid; omega
    rcases hend with ⟨hlt, h100⟩ | hend
    · obtain ⟨lb, loff, rfl, hca⟩ := HC1.out (by intro h; simp [h] at hlt)
      have q1 : (k : Int) < l.length := by omega
      have q2 : (k : Int) < 100 := by omega
      have q3 : (0 : Int) ≤ k := by omega
      have d0 : wr.cell? ⟨lb, loff + k * 7, none⟩ = some (.int .i64 (nth l k).kd) := hs.out.old.cell (hca k hlt 0 (by omega)) (by simp)
      have d1 : wr.cell? ⟨lb, loff + k * 7 + 1, none⟩ = some (.int .i64 (nth l k).n) := hs.out.old.cell (hca k hlt 1 (by omega)) (by simp)
      have d2 : wr.cell? ⟨lb, loff + k * 7 + 2, none⟩ = some (.int .i64 (nth l k).pos) := hs.out.old.cell (hca k hlt 2 (by omega)) (by simp)
      have d3 : wr.cell? ⟨lb, loff + k * 7 + 3, none⟩ = some (.int .i64 (nth l k).ino) := hs.out.old.cell (hca k hlt 3 (by omega)) (by simp)
      have d4 : wr.cell? ⟨lb, loff + k * 7 + 4, none⟩ = some (.string (nth l k).nm) := hs.out.old.cell (hca k hlt 4 (by omega)) (by simp)
      have d5 : wr.cell? ⟨lb, loff + k * 7 + 5, none⟩ = some (.string (nth l k).tn) := hs.out.old.cell (hca k hlt 5 (by omega)) (by simp)
      have d6 : wr.cell? ⟨lb, loff + k * 7 + 6, none⟩ = some (slv (nth l k).dv) := hs.out.old.cell (hca k hlt 6 (by omega)) (by simp)
      have hgx := HG.out (nth l k) (by rw [nth_get _ _ hlt]; exact List.getElem_mem _)
      generalize nth l k = x at *
      obtain ⟨kd, n0, pos, ino, nm, tn, ⟨da, dn, dc⟩, d⟩ := x
      obtain ⟨-, i2, i3, i4, hrd⟩ := hgx
      have HRD : Hid (Bytes w (.slice da dn dc) d) := hrd
      have hdn : dn = d.length := by
        obtain ⟨a', c', he, -⟩ := HRD.out
        injection he with e1 e2 e3
      subst hdn
      have hdm : d.length ≤ 9223372036854775807 := by
        obtain ⟨a', c', he, h1, h2, -⟩ := HRD.out
        unfold maxLen at h2; omega
      have I2 := Lib.hid i2
      have I3 := Lib.hid i3
      have I4 := Lib.hid i4
      simp only [slv] at d0 d1 d2 d3 d4 d5 d6
      clear hca hrd i2 i3 i4
      by_cases hbig : 2000 < d.length
      · have t6 : (2000 : Int) < d.length := by omega
        have HPL := Lib.hid hpl.out.up
        go_wp2_with fail
        go_roundw
        case rel => exact ⟨k + 1, fl, tk, T, by omega, by omega, by go_num, hs, HPL⟩
        case measure => simp [intOf]; omega
      · have t6 : ¬ (2000 : Int) < d.length := by omega
        have HDL : Hid (d.length ≤ 2000) := by unfold Hid; omega
        have HK : Hid (k ≤ 500) := by unfold Hid; omega
        clear hbig
        go_wp2_with fail
        (with_reducible refine (yp_call hs.out hpl.out HK.out kd n0 pos ino nm tn da dc d I2.out I3.out I4.out HRD.out HDL.out).mono ?_)
        rintro e w3 ⟨rfl, fl3, tk3, T3, h3, p3⟩
        have H3 := Lib.hid h3
        have P3 := Lib.hid p3
        obtain ⟨lf, hlf⟩ : ∃ lf, yFiles fl3 = lf := ⟨_, rfl⟩
        have HLF := Lib.hid hlf
        clear h3 p3 hlf hs hpl d0 d1 d2 d3 d4 d5 d6
        go_wp2_with fail
        (with_reducible refine (y2Files H3.out HLF.out).mono ?_)
        rintro e w4 ⟨a4, k4, rfl, hr4, hu4⟩
        have H4 := Lib.hid (H3.out.upd0 hu4)
        clear hu4
        go_wp2_with fail
        (with_reducible refine (y2FilesR H4.out HLF.out).mono ?_)
        rintro e w5 ⟨a5, k5, rfl, hr5, hu5⟩
        have H5 := Lib.hid (H4.out.upd0 hu5)
        have HR4 := Lib.hid (hr4.out.upd0 afCells_len hu5)
        clear hu5 hr4
        go_wp2_with fail
        (with_reducible refine (sameAF_ok _ _ lf _ HR4.out hr5.out).mono ?_)
        rintro e w6 ⟨rfl, hu6⟩
        have H6 := Lib.hid (H5.out.upd0 hu6)
        clear hu6 hr5 HR4
        go_wp2_with fail
        go_roundw
        case rel => exact ⟨k + 1, fl3, tk3, T3, by omega, by omega, by go_num, H6, P3⟩
        case measure => simp [intOf]; omega
    · have HK : Hid (k ≤ 100) := by unfold Hid; omega
      clear HC1 HG
      rcases hend with ⟨hke, h100⟩ | ⟨hke, hkn⟩
      · have q1 : ¬ (k : Int) < l.length := by omega
        clear h100
        go_wp2_with fail
        go_loopw [6] (fun vi wv => ∃ (i : Nat) (tk : List (Int × Int)) (T : List Int), i ≤ 15 ∧ vi = .int .i64 ((i : Int) - 1) ∧ Hid (Y2 w wv gy gr fl tk T) ∧ Hid (Pl (k + i) fl tk T)) (fun vi _ => 15 - (intOf vi + 1).toNat)
        case atStart => exact ⟨0, tk, T, by omega, by go_num, hs, hpl⟩
        case round =>
          clear hs hpl
          obtain ⟨i, tk, T, hi, rfl, hs, hpl⟩ := hrel
          by_cases hlt : i < 15
          · have q4 : (i : Int) - 1 ≤ 13 := by omega
            have HI : Hid (I64 ((i : Int) - 1)) := i64_mkY (by omega) (by omega)
            have HZ : Hid (I64 0) := i64_mkY (by omega) (by omega)
            have HM : Hid (I64 65536) := i64_mkY (by omega) (by omega)
            have HKI : Hid (k + i ≤ 1000) := by have := HK.out; unfold Hid; omega
            obtain ⟨p, r, tk', hf⟩ : ∃ p r tk', yRead fl tk ((i : Int) - 1) 0 65536 = ((p, r), tk') := ⟨_, _, _, rfl⟩
            have HF := Lib.hid hf
            have htl : tk.length ≤ 50000 := by have := hpl.out.tkl; have := HKI.out; omega
            have hTl := hpl.out.tl
            have HRIS := Lib.hid hs.out.ris.2.2
            clear hf
            go_wp2_with fail
            (with_reducible refine (y2Read hs.out ((i : Int) - 1) 0 65536 HI.out HZ.out HM.out htl (hpl.out.tk1 HKI.out) HF.out).mono ?_)
            rintro e w3 ⟨va, vk, rfl, h3⟩
            have H3 := Lib.hid h3
            clear h3
            go_wp2_with fail
            (with_reducible refine (y5ReadR H3.out ((i : Int) - 1) 0 65536 HI.out HZ.out HM.out hTl hpl.out.tr (hpl.out.tk2 HKI.out) HF.out).mono ?_)
            rintro e w4 ⟨vb, vk2, T', rfl, h4, t1, t2, hb2, hb1⟩
            have H4 := Lib.hid h4
            have HPN : Hid (Pl (k + (i + 1)) fl tk' T') := by
              have h := hpl.out.read HKI.out HRIS.out ((i : Int) - 1) 0 65536 (T' := T') (by rw [HF.out]; exact t1) t2
              rw [HF.out] at h
              exact h
            have htl2 : tk'.length ≤ 50000 := by have := HPN.out.tkl; have := HKI.out; omega
            have hTl2 := HPN.out.tl
            obtain ⟨v, hv⟩ : ∃ v, tkAt T' ((i : Int) - 1) = v := ⟨_, rfl⟩
            have HV2 := Lib.hid hv
            have HV1 : Hid ((tGet ltY 0 tk' ((i : Int) - 1)).1 = v) := by unfold Hid; rw [HPN.out.tr.get, hv]
            have z4 : ((r : Int) != r) = false := by simp
            have z5 : ((v : Int) != v) = false := by simp
            clear h4 t1 t2 hv hs hpl H3 HRIS
            go_wp2_with fail
            (with_reducible refine (sameByte_ok _ _ p w4 hb1.out hb2.out).mono ?_)
            rintro e w5 ⟨rfl, n5, rfl⟩
            have H5 := Lib.hid (H4.out.upd0 ((Upd.refl [] w4).drewN n5))
            clear hb1 hb2 H4
            go_wp2_with fail
            (with_reducible refine (y2Taken H5.out htl2 ((i : Int) - 1) HI.out HV1.out).mono ?_)
            rintro e w6 ⟨rfl, hu6⟩
            have H6 := Lib.hid (H5.out.upd0 hu6)
            clear hu6 H5
            go_wp2_with fail
            (with_reducible refine (y2TakenR H6.out hTl2 ((i : Int) - 1) HI.out HV2.out).mono ?_)
            rintro e w7 ⟨rfl, hu7⟩
            have H7 := Lib.hid (H6.out.upd0 hu7)
            clear hu7 H6
            go_wp2_with fail
            go_roundw
            case rel => exact ⟨i + 1, tk', T', by omega, by go_num, H7, HPN⟩
            case measure => simp [intOf]; omega
          · obtain rfl : i = 15 := by omega
            have HO := Lib.hid hs.out.old
            clear hs hpl
            go_wp2_with fail
            (with_reducible refine (yardRuns_any _).mono ?_)
            rintro e w9 ⟨rfl, hu9⟩
            have HU := Lib.hid (HO.out.seq hu9)
            clear hu9
            go_wp2_with fail
            go_ret
            exact ⟨rfl, HU.out⟩
      · have q1 : (k : Int) < l.length := by omega
        have q2 : ¬ (k : Int) < 100 := by omega
        go_wp2_with fail
        go_loopw [6] (fun vi wv => ∃ (i : Nat) (tk : List (Int × Int)) (T : List Int), i ≤ 15 ∧ vi = .int .i64 ((i : Int) - 1) ∧ Hid (Y2 w wv gy gr fl tk T) ∧ Hid (Pl (k + i) fl tk T)) (fun vi _ => 15 - (intOf vi + 1).toNat)
        case atStart => exact ⟨0, tk, T, by omega, by go_num, hs, hpl⟩
        case round =>
          clear hs hpl
          obtain ⟨i, tk, T, hi, rfl, hs, hpl⟩ := hrel
          by_cases hlt : i < 15
          · have q4 : (i : Int) - 1 ≤ 13 := by omega
            have HI : Hid (I64 ((i : Int) - 1)) := i64_mkY (by omega) (by omega)
            have HZ : Hid (I64 0) := i64_mkY (by omega) (by omega)
            have HM : Hid (I64 65536) := i64_mkY (by omega) (by omega)
            have HKI : Hid (k + i ≤ 1000) := by have := HK.out; unfold Hid; omega
            obtain ⟨p, r, tk', hf⟩ : ∃ p r tk', yRead fl tk ((i : Int) - 1) 0 65536 = ((p, r), tk') := ⟨_, _, _, rfl⟩
            have HF := Lib.hid hf
            have htl : tk.length ≤ 50000 := by have := hpl.out.tkl; have := HKI.out; omega
            have hTl := hpl.out.tl
            have HRIS := Lib.hid hs.out.ris.2.2
            clear hf
            go_wp2_with fail
            (with_reducible refine (y2Read hs.out ((i : Int) - 1) 0 65536 HI.out HZ.out HM.out htl (hpl.out.tk1 HKI.out) HF.out).mono ?_)
            rintro e w3 ⟨va, vk, rfl, h3⟩
            have H3 := Lib.hid h3
            clear h3
            go_wp2_with fail
            (with_reducible refine (y5ReadR H3.out ((i : Int) - 1) 0 65536 HI.out HZ.out HM.out hTl hpl.out.tr (hpl.out.tk2 HKI.out) HF.out).mono ?_)
            rintro e w4 ⟨vb, vk2, T', rfl, h4, t1, t2, hb2, hb1⟩
            have H4 := Lib.hid h4
            have HPN : Hid (Pl (k + (i + 1)) fl tk' T') := by
              have h := hpl.out.read HKI.out HRIS.out ((i : Int) - 1) 0 65536 (T' := T') (by rw [HF.out]; exact t1) t2
              rw [HF.out] at h
              exact h
            have htl2 : tk'.length ≤ 50000 := by have := HPN.out.tkl; have := HKI.out; omega
            have hTl2 := HPN.out.tl
            obtain ⟨v, hv⟩ : ∃ v, tkAt T' ((i : Int) - 1) = v := ⟨_, rfl⟩
            have HV2 := Lib.hid hv
            have HV1 : Hid ((tGet ltY 0 tk' ((i : Int) - 1)).1 = v) := by unfold Hid; rw [HPN.out.tr.get, hv]
            have z4 : ((r : Int) != r) = false := by simp
            have z5 : ((v : Int) != v) = false := by simp
            clear h4 t1 t2 hv hs hpl H3 HRIS
            go_wp2_with fail
            (with_reducible refine (sameByte_ok _ _ p w4 hb1.out hb2.out).mono ?_)
            rintro e w5 ⟨rfl, n5, rfl⟩
            have H5 := Lib.hid (H4.out.upd0 ((Upd.refl [] w4).drewN n5))
            clear hb1 hb2 H4
            go_wp2_with fail
            (with_reducible refine (y2Taken H5.out htl2 ((i : Int) - 1) HI.out HV1.out).mono ?_)
            rintro e w6 ⟨rfl, hu6⟩
            have H6 := Lib.hid (H5.out.upd0 hu6)
            clear hu6 H5
            go_wp2_with fail
            (with_reducible refine (y2TakenR H6.out hTl2 ((i : Int) - 1) HI.out HV2.out).mono ?_)
            rintro e w7 ⟨rfl, hu7⟩
            have H7 := Lib.hid (H6.out.upd0 hu7)
            clear hu7 H6
            go_wp2_with fail
            go_roundw
            case rel => exact ⟨i + 1, tk', T', by omega, by go_num, H7, HPN⟩
            case measure => simp [intOf]; omega
          · obtain rfl : i = 15 := by omega
            have HO := Lib.hid hs.out.old
            clear hs hpl
            go_wp2_with fail
            (with_reducible refine (yardRuns_any _).mono ?_)
            rintro e w9 ⟨rfl, hu9⟩
            have HU := Lib.hid (HO.out.seq hu9)
            clear hu9
            go_wp2_with fail
            go_ret
            exact ⟨rfl, HU.out⟩
end Go.Proofs.Ytmhdhnipljonlaa
