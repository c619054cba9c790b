/- Texts of the proof, joined: Chapter 24: the changes that a payload tells. A table as a list of rows by rising keys: the plain law. Tables: what the laws of chapter 4 want of rows by rising keys. The sum as plain mathematics: it is linear, and a burst of 32 bits turns it. Bits of bytes that are turned one by one. The sum's functions: what they compute, over bytes that a world holds. Chapter 23's inner functions: four bytes of a number, a number of four bytes. Chapter 23's Next. Frames as plain law. Chapter 23 as plain law: a frame that is read stays where bytes follow, or are cut behind it. The order of texts. Names of files: plain. -/
import Derived.Test.YtmhojaiajhdlcaaGreatMj2
import Derived.Test.YtmhojaiajhdlcaaGreatMj1
import Derived.Test.YtmhojaiajhdlcaaGreatRows
import Derived.Deep.RegionHeld3
namespace Go.Proofs.YtmhojaiajhdlcaaGreat
open Go.RowKit
set_option linter.unusedSimpArgs false
set_option linter.unusedVariables false
theorem rdUpto_bd (B : List UInt8) (m : Int) (s : RSt) (h : s.1 ≤ B.length) (h2 : s.2 ≤ 5) : ((rdUpto B m s).1 : Int) ≤ max m 0 := by
  have h3 := rdNum_le B s h h2
  unfold rdUpto
  split
  · show ((0 : Nat) : Int) ≤ _; omega
  · rename_i hc
    by_cases he : (rdNum B s).2.2 = 0
    · have : ¬ m < ((rdNum B s).1 : Int) := fun q => hc ⟨he, q⟩
      omega
    · have := (h3.2.2.2.2 he).1; omega
theorem rdCh_le (B : List UInt8) (s : RSt) (h : s.1 ≤ B.length) (h2 : s.2 ≤ 5) : (rdCh B s).2.1 ≤ B.length ∧ (rdCh B s).2.2 ≤ 5 := by
  have h3 := rdUpto_le B 40 s h h2
  exact rdText_le' B 262144 _ h3.2.2.1 h3.2.2.2.1
theorem rdChs_step (B : List UInt8) (n : Nat) (s : RSt) (h : s.2 = 0) : rdChs B (n + 1) s = ((rdCh B s).1 :: (rdChs B n (rdCh B s).2).1, (rdChs B n (rdCh B s).2).2) := by
  simp only [rdChs, h]; simp
theorem own_leC {α : Type} {sz : Nat} {c : α → List Value} {base base' : Nat} {e : TypeId} {w : World} {v : Value} {l : List α} (h : OwnN sz c base e w v l) (hb : base' ≤ base) : OwnN sz c base' e w v l := by
  obtain ⟨h1, h2⟩ := h
  refine ⟨h1, ?_⟩
  rcases h2 with h2 | ⟨g, cap, cur, rfl, hb', hg, r⟩
  · exact .inl h2
  · exact .inr ⟨g, cap, cur, rfl, by omega, hg, r⟩
theorem rdrT (T : TypeId) {base base' : Nat} {w w' : World} {g : Nat} {v o : Value} {B : List UInt8} {s : RSt} {l : List Ch} {e : TypeId} (h : RdrAt T base w g v B s) (hT : T ≠ e) (hb : (5 : TypeId) ≠ e) (k : OwnN 2 chCells base' e w o l) (hu : Upd (blk o) w w') : RdrAt T base w' g v B s := by
  refine ⟨h.cells.upd hu (fun hg => ?_), h.own.upd hu (fun x hx hg => ?_), h.gb, h.at_, h.er, h.sz⟩
  · obtain ⟨C, f, h1⟩ := k.typ g hg
    exact h.cells.ne g h1 hT rfl
  · obtain ⟨C, f, h1⟩ := k.typ x hg
    rcases h.own.2 with ⟨rfl, _⟩ | ⟨g', cap, cur, rfl, hb', hg', _⟩
    · simp [blk] at hx
    · simp [blk] at hx; subst hx
      rw [hg'] at h1
      injection h1 with h1; injection h1 with _ h1
      exact hb h1
theorem rdrN {T : TypeId} {base base' : Nat} {w : World} {g : Nat} {v o : Value} {B : List UInt8} {s : RSt} {l : List Ch} {e : TypeId} (h : RdrAt T base w g v B s) (hT : T ≠ e) (k : OwnN 2 chCells base' e w o l) : ∀ x ∈ blk o, x ∉ [g] := by
  intro x hx hS
  simp at hS; subst hS
  obtain ⟨C, f, h1⟩ := k.typ x hx
  exact h.cells.ne x h1 hT rfl
section
variable {base : Nat} {g : Nat} {v : Value} {B : List UInt8} {s : RSt}
set_option maxRecDepth 20000 in
set_option maxHeartbeats 4000000 in
theorem rCh_any (w : World) (h : RdrAt 165 base w g v B s) :
    Calls Tryz.prog 116 #[.pointer (some ⟨g, 0, none⟩)] w fun x w' => x = .returned (.agg #[.int .i64 (rdCh B s).1.1, .string (rdCh B s).1.2]) ∧ RdrAt 165 base w' g v B (rdCh B s).2 ∧ Upd [g] w w' := by
  obtain ⟨n, s1, hn⟩ : ∃ n s1, rdUpto B 40 s = (n, s1) := ⟨_, _, rfl⟩
  obtain ⟨t, s2, ht⟩ : ∃ t s2, rdText B 262144 s1 = (t, s2) := ⟨_, _, rfl⟩
  have HE : Hid (rdCh B s = (((n : Int), strOf t), s2)) := by unfold Hid rdCh; rw [hn]; dsimp only; rw [ht]
  have HN := Lib.hid hn
  have HT := Lib.hid ht
  have H := Lib.hid h
  have hgl : g < w.heap.size := h.cells.lt
  have hu1 : Upd [] w ((w.alloc (.cells #[.int .i64 0, .string ⟨#[]⟩] 136)).alloc (.cells #[.int .i64 0, .string ⟨#[]⟩] 136)) := ((Upd.refl [] w).alloc _).alloc _
  have HU1 := Lib.hid hu1
  have H1 := Lib.hid (h.upd hu1)
  have hbr : Blk ((w.alloc (.cells #[.int .i64 0, .string ⟨#[]⟩] 136)).alloc (.cells #[.int .i64 0, .string ⟨#[]⟩] 136)) w.heap.size 136 [.int .i64 0, .string ⟨#[]⟩] := (Blk.new w _ [.int .i64 0, .string ⟨#[]⟩]).upd (S := []) ((Upd.refl [] _).alloc _) (by simp)
  have hbc : Blk ((w.alloc (.cells #[.int .i64 0, .string ⟨#[]⟩] 136)).alloc (.cells #[.int .i64 0, .string ⟨#[]⟩] 136)) (w.heap.size + 1) 136 [.int .i64 0, .string ⟨#[]⟩] := by
    have := Blk.new (w.alloc (.cells #[.int .i64 0, .string ⟨#[]⟩] 136)) 136 [.int .i64 0, .string ⟨#[]⟩]
    simpa using this
  have HBR := Lib.hid hbr
  have HBC := Lib.hid hbc
  clear h hn ht hu1 hbr hbc
  go_enter Tryz.func116, Tryz.ntmps116
  go_wp2_with fail
  generalize (w.alloc (.cells #[.int .i64 0, .string ⟨#[]⟩] 136)).alloc (.cells #[.int .i64 0, .string ⟨#[]⟩] 136) = w1 at *
  generalize hgr : w.heap.size = gr at *
  have HGR := Lib.hid hgr
  clear hgr
  (with_reducible refine (rUpto_any w1 40 (i64_mk (by omega) (by omega)) H1.out).mono ?_)
  rw [HN.out]
  rintro e w2 ⟨rfl, h2, hu2⟩
  have H2 := Lib.hid h2
  have HBR2 := Lib.hid (HBR.out.upd hu2 (by simp; omega))
  have HBC2 := Lib.hid (HBC.out.upd hu2 (by simp; omega))
  have HU2 := Lib.hid (HU1.out.mono (T := [g]) (by simp) |>.gg hu2)
  have f2 := HBC2.out.frozen 0
  have c20 := HBC2.out.cell 0
  have hlc := HBC2.out.lt
  simp only [List.getElem?_cons_zero, List.getElem?_cons_succ] at c20
  clear h2 hu2 HBR HBC HU1
  go_wp2_with fail
  have HC3 : Hid (Blk (w2.setCell ⟨gr + 1, 0, none⟩ (.int .i64 (n : Int))) (gr + 1) 136 [.int .i64 (n : Int), .string ⟨#[]⟩]) := HBC2.out.set_ 0 _
  have hu3 : Upd [gr + 1] w2 (w2.setCell ⟨gr + 1, 0, none⟩ (.int .i64 (n : Int))) := (Upd.refl [gr + 1] w2).setCell _ _ (.inl (by simp))
  have HR3 := Lib.hid (HBR2.out.upd hu3 (by simp))
  have HG3 : Hid (RdrAt 165 base (w2.setCell ⟨gr + 1, 0, none⟩ (.int .i64 (n : Int))) g v B s1) := by
    have hh := H2.out
    refine ⟨hh.cells.upd hu3 (by simp; omega), hh.own.upd hu3 (fun x hx q => ?_), hh.gb, hh.at_, hh.er, hh.sz⟩
    simp at q; subst q
    rcases hh.own.2 with ⟨rfl, _⟩ | ⟨g', cap, cur, rfl, hb', hg', _⟩
    · simp [blk] at hx
    · simp [blk] at hx
      have hq : w2.heap[gr + 1]? = some (.cells _ _ _) := HBC2.out
      rw [hx, hg'] at hq
      injection hq with hq; injection hq with _ hq
      exact absurd hq (by decide)
  have HU3 : Hid (Upd [g] w (w2.setCell ⟨gr + 1, 0, none⟩ (.int .i64 (n : Int)))) := HU2.out.trans hu3 (fun x hx => hx) (fun x hx => .inr (by simp at hx; subst hx; have := HGR.out; omega))
  clear hu3 f2 c20 H2 HBR2 HBC2 HU2
  generalize w2.setCell ⟨gr + 1, 0, none⟩ (.int .i64 (n : Int)) = w3 at *
  (with_reducible refine (rText_any w3 262144 (i64_mk (by omega) (by omega)) HG3.out).mono ?_)
  rw [HT.out]
  rintro e w4 ⟨rfl, h4, hu4⟩
  have H4 := Lib.hid h4
  have HR4 := Lib.hid (HR3.out.upd hu4 (by simp; omega))
  have HC4 := Lib.hid (HC3.out.upd hu4 (by simp; omega))
  have HU4 := Lib.hid (HU3.out.gg hu4)
  have f4 := HC4.out.frozen 1
  have c41 := HC4.out.cell 1
  have hlc4 := HC4.out.lt
  have hlr4 := HR4.out.lt
  have r40 := HR4.out.cell 0
  have r41 := HR4.out.cell 1
  have rf0 := HR4.out.frozen 0
  have rf1 := HR4.out.frozen 1
  have c40 := HC4.out.cell 0
  simp only [List.getElem?_cons_zero, List.getElem?_cons_succ] at c40 c41 r40 r41
  clear h4 hu4 HR3 HC3 HU3 hlc
  go_wp2_with fail
  have HFIN : Hid (∀ W, W = ((w4.setCell ⟨gr + 1, 1, none⟩ (.string (strOf t))).setCell ⟨gr, 0, none⟩ (.int .i64 (n : Int))).setCell ⟨gr, 1, none⟩ (.string (strOf t)) → Blk W gr 136 [.int .i64 (n : Int), .string (strOf t)] ∧ RdrAt 165 base W g v B s2 ∧ Upd [g] w W) := by
    intro W hW
    have hu5 : Upd [gr, gr + 1] w4 W := by
      rw [hW]
      exact (((Upd.refl [gr, gr + 1] w4).setCell _ _ (.inl (by simp))).setCell _ _ (.inl (by simp))).setCell _ _ (.inl (by simp))
    have hh := H4.out
    refine ⟨?_, ⟨hh.cells.upd hu5 (by simp; omega), hh.own.upd hu5 (fun x hx q => ?_), hh.gb, hh.at_, hh.er, hh.sz⟩, HU4.out.trans hu5 (fun x hx => hx) (fun x hx => .inr (by have := HGR.out; simp at hx; omega))⟩
    · rw [hW]
      have hq : Blk (w4.setCell ⟨gr + 1, 1, none⟩ (.string (strOf t))) gr 136 [.int .i64 0, .string ⟨#[]⟩] := HR4.out.upd (S := [gr + 1]) ((Upd.refl [gr + 1] w4).setCell _ _ (.inl (by simp))) (by simp)
      exact (hq.set_ 0 (.int .i64 (n : Int))).set_ 1 (.string (strOf t))
    · rcases hh.own.2 with ⟨rfl, _⟩ | ⟨g', cap, cur, rfl, hb', hg', _⟩
      · simp [blk] at hx
      · simp [blk] at hx
        subst hx
        simp at q
        rcases q with q | q
        · have hq : w4.heap[gr]? = some (.cells _ _ _) := HR4.out
          rw [← q, hg'] at hq
          injection hq with hq; injection hq with _ hq
          exact absurd hq (by decide)
        · have hq : w4.heap[gr + 1]? = some (.cells _ _ _) := HC4.out
          rw [← q, hg'] at hq
          injection hq with hq; injection hq with _ hq
          exact absurd hq (by decide)
  obtain ⟨W, hW⟩ : ∃ W, ((w4.setCell ⟨gr + 1, 1, none⟩ (.string (strOf t))).setCell ⟨gr, 0, none⟩ (.int .i64 (n : Int))).setCell ⟨gr, 1, none⟩ (.string (strOf t)) = W := ⟨_, rfl⟩
  obtain ⟨k1, k2, k3⟩ := HFIN.out W hW.symm
  rw [hW]
  have m0 := k1.cell 0
  have m1 := k1.cell 1
  simp only [List.getElem?_cons_zero, List.getElem?_cons_succ] at m0 m1
  exact bodyPost_ret (v := .agg #[.int .i64 (n : Int), .string (strOf t)]) (by simp [results, Tryz.results116, go_sem, m0, m1]; try rfl) rfl ⟨by rw [HE.out], by rw [HE.out]; exact k2, k3⟩
set_option maxRecDepth 20000 in
set_option maxHeartbeats 8000000 in
theorem chItems_any (w : World) (hbw : base ≤ w.heap.size) (h : RdrAt 165 base w g v B (0, 0)) :
    Calls Tryz.prog 115 #[.pointer (some ⟨g, 0, none⟩), .int .i64 41, .func (.func 116) #[] #[]] w fun x w' => ∃ u, x = .returned u ∧ OwnN 2 chCells w.heap.size 136 w' u (chItems B).1 ∧ RdrAt 165 base w' g v B (chItems B).2 ∧ Upd [g] w w' := by
  have H := Lib.hid h
  obtain ⟨a, k, rfl, hBk, hBk2, -⟩ := h.own.rd
  have hBk3 : k ≤ 9223372036854775807 := by unfold maxLen at hBk2; omega
  have c1 : w.cell? ⟨g, 1, none⟩ = some (.int .i64 0) := h.cells.cell 1
  have hsz := h.sz
  have hle := rdUpto_le B 41 (0, 0) h.at_ h.er
  have hbd := rdUpto_bd B 41 (0, 0) h.at_ h.er
  have HI : Hid (rdItemsAt B 41 (0, 0) = if (rdUpto B 41 (0, 0)).2.2 = 0 ∧ B.length - (rdUpto B 41 (0, 0)).2.1 < (rdUpto B 41 (0, 0)).1 then (0, 3) else (rdUpto B 41 (0, 0)).2) := rfl
  have HF : Hid (chItems B = if (rdChs B (rdUpto B 41 (0, 0)).1 (rdItemsAt B 41 (0, 0))).2.2 ≠ 0 then ([], (rdChs B (rdUpto B 41 (0, 0)).1 (rdItemsAt B 41 (0, 0))).2) else rdChs B (rdUpto B 41 (0, 0)).1 (rdItemsAt B 41 (0, 0))) := rfl
  clear h hBk2
  go_enter Tryz.func115, Tryz.ntmps115
  go_wp2_with fail
  (with_reducible refine (rUpto_any _ 41 (i64_mk (by omega) (by omega)) H.out).mono ?_)
  rintro e w1 ⟨rfl, h1, hu1⟩
  have c2 := h1.cells.cell 2
  have c0 : w1.cell? ⟨g, 0, none⟩ = some (.slice a B.length k) := h1.cells.cell 0
  have d1 := h1.cells.cell 1
  have HU1 := Lib.hid hu1
  have H1 := Lib.hid h1
  clear h1 hu1 c1
  generalize rdUpto B 41 (0, 0) = r at *
  generalize rdItemsAt B 41 (0, 0) = st at *
  obtain ⟨n, at1, er1⟩ := r
  dsimp only at hle HI HF hbd
  replace c2 : w1.cell? ⟨g, 2, none⟩ = some (.int .i64 (er1 : Int)) := c2
  replace d1 : w1.cell? ⟨g, 1, none⟩ = some (.int .i64 (at1 : Int)) := d1
  dsimp only
  have hat1 : at1 ≤ B.length := hle.2.2.1
  have hn41 : n ≤ 41 := by omega
  have HBW := Lib.hid hbw
  have hx : (er1 = 0 ∧ B.length - at1 < n ∧ st = (0, 3)) ∨ (er1 = 0 ∧ ¬ B.length - at1 < n ∧ st = (at1, er1)) ∨ (er1 ≠ 0 ∧ st = (at1, er1)) := by
    have := HI.out
    by_cases he : er1 = 0
    · by_cases hb : B.length - at1 < n
      · exact .inl ⟨he, hb, this.trans (if_pos ⟨he, hb⟩)⟩
      · exact .inr (.inl ⟨he, hb, this.trans (if_neg (fun q => hb q.2))⟩)
    · exact .inr (.inr ⟨he, this.trans (if_neg (fun q => he q.1))⟩)
  clear HI hle hbd hbw
  rcases hx with ⟨rfl, hb, hst⟩ | ⟨rfl, hb, hst⟩ | ⟨he, hst⟩
  · replace c2 : w1.cell? ⟨g, 2, none⟩ = some (.int .i64 0) := c2
    have hb2 : (B.length : Int) - at1 < n := by omega
    clear hb
    go_wp2_with fail
    go_quiet (fail)
    have HU := Lib.hid ((Upd.refl [] w1).drewN nq)
    generalize w1.drewN nq = w2 at *
    go_wp2_with fail
    (with_reducible refine (rWrong_any _ 0 3 0 3 rfl rfl (H1.out.upd HU.out) (Nat.zero_le _) (by decide)).mono ?_)
    rintro e w3 ⟨rfl, h3, hu3⟩
    have H3 := Lib.hid h3
    have HU3 := Lib.hid ((HU1.out.gg HU.out.up).gg hu3)
    clear h3 hu3
    rw [← hst] at H3
    clear hst c0 c2 d1
    obtain ⟨RN, hRNe⟩ : ∃ RN, RN = rdChs B n st := ⟨_, rfl⟩
    rw [← hRNe] at HF
    have HN0 : Hid (RN = ([] ++ (rdChs B (n - 0) st).1, (rdChs B (n - 0) st).2)) := by rw [hRNe]; rfl
    clear hRNe
    go_wp2_with fail
    go_loopw [9, 10] (fun o i wr => ∃ (j : Nat) (acc : List Ch) (z : RSt), i = .int .i64 (j : Int) ∧ j ≤ n ∧ acc.length = j ∧ Hid (OwnN 2 chCells w.heap.size 136 wr o acc) ∧ Hid (RdrAt 165 base wr g (.slice a B.length k) B z) ∧ Hid (Upd [g] w wr) ∧ Hid (RN = (acc ++ (rdChs B (n - j) z).1, (rdChs B (n - j) z).2))) (fun _ i _ => n - (intOf i).toNat)
    case atStart => exact ⟨0, [], st, rfl, Nat.zero_le _, rfl, OwnN.nil _ _ _, H3.out, HU3.out, HN0⟩
    case round =>
      obtain ⟨j, acc, z, rfl, hj, hacc, ho, hr, hu, hrn⟩ := hrel
      obtain ⟨ao, ko, hov, -⟩ := ho.out.rd chCells_len
      subst hov
      subst hacc
      have e2 := hr.out.cells.cell 2
      replace e2 : wr.cell? ⟨g, 2, none⟩ = some (.int .i64 (z.2 : Int)) := e2
      clear HN0
      by_cases hlt : acc.length < n
      · have q1 : (acc.length : Int) < n := by omega
        by_cases hz : z.2 = 0
        · have hRN : Hid (RN = ((acc ++ [(rdCh B z).1]) ++ (rdChs B (n - (acc.length + 1)) (rdCh B z).2).1, (rdChs B (n - (acc.length + 1)) (rdCh B z).2).2)) := by
            have e : n - acc.length = (n - (acc.length + 1)) + 1 := by omega
            unfold Hid; rw [hrn.out, e, rdChs_step _ _ _ hz]; simp only [List.append_assoc, List.singleton_append]
          rw [hz] at e2
          replace e2 : wr.cell? ⟨g, 2, none⟩ = some (.int .i64 0) := e2
          have HO := Lib.hid ho.out
          clear hrn ho
          go_wp2_with fail
          (with_reducible refine (rCh_any _ hr.out).mono ?_)
          rintro e w5 ⟨rfl, h5, hu5⟩
          have HU5 := Lib.hid (hu.out.gg hu5)
          have HO5 := Lib.hid (HO.out.upd hu5 (rdrN hr.out (by decide) HO.out))
          have H5 := Lib.hid h5
          clear h5 hu5 hu hr HO e2 hz
          generalize rdCh B z = y at *
          obtain ⟨⟨yk, yd⟩, yz⟩ := y
          dsimp only at hRN H5
          dsimp only
          have hu6 : Upd [] w5 (w5.alloc (.cells #[.int .i64 yk, .string yd] 136)) := (Upd.refl [] w5).alloc _
          have hnb : Blk (w5.alloc (.cells #[.int .i64 yk, .string yd] 136)) w5.heap.size 136 [.int .i64 yk, .string yd] := Blk.new w5 _ _
          have HRD : RdN 2 chCells (w5.alloc (.cells #[.int .i64 yk, .string yd] 136)) (.slice (some ⟨w5.heap.size, 0, none⟩) 1 1) [(yk, yd)] := by
            refine ⟨_, 1, rfl, by simp, by simp [maxLen], fun _ => ⟨w5.heap.size, 0, rfl, fun j hj i hi => ?_⟩⟩
            have hj0 : j = 0 := by simpa using hj
            subst hj0
            rw [Nat.zero_mul, Nat.zero_add, Nat.zero_add, hnb.cell]; rfl
          have HRUN := Lib.hid (fun ty => run_appN (P := Tryz.prog) (ty := ty) chCells_len (by decide) chCells_one undCh infoCh rfl (.slice ao acc.length ko) _ acc [(yk, yd)] (HO5.out.upd hu6 (by simp)) HRD (by simp; omega) (by simp [maxLen]; omega) (Nat.le_trans HU5.out.size hu6.size))
          have H6 := Lib.hid (H5.out.upd hu6)
          have HU6 := Lib.hid (HU5.out.gg (hu6.mono (T := [g]) (by simp)))
          have HO6 := Lib.hid (HO5.out.upd hu6 (by simp))
          clear hu6 hnb HRD
          go_wp2_with (at_builtin; go_must (refine wpList_app_of rfl (.tmp 52) (.tmp 56) rfl (.slice ao acc.length ko) (.slice (some ⟨w5.heap.size, 0, none⟩) 1 1) rfl rfl (HRUN.out _) ?_; rintro v7 w7 ⟨ho7, hu7, hk7⟩; have HO7 := Lib.hid ho7; have H7 := Lib.hid (rdrT _ H6.out (by decide) (by decide) HO6.out hu7); have HU7 : Hid (Upd [g] w w7) := HU6.out.trans hu7 (fun x hx => hx) (fun x hx => .inr (HO6.out.ge x hx).1); clear ho7 hu7 hk7 HRUN; dsimp only))
          go_roundw
          case rel => exact ⟨acc.length + 1, acc ++ [(yk, yd)], yz, by go_num, by omega, by simp, HO7, H7, HU7, hRN⟩
          case measure => simp [intOf]; omega
        · have hz2 : ((z.2 : Int) == 0) = false := by rw [beq_eq_false_iff_ne]; omega
          have hz3 : ((z.2 : Int) != 0) = true := by rw [bne_iff_ne]; omega
          have HRR : Hid (chItems B = ([], z)) := by unfold Hid; rw [HF.out, hrn.out, rdChs_stop _ _ _ hz]; exact if_pos hz
          clear hrn hz
          go_wp2_with fail
          go_ret
          exact ⟨_, rfl, by rw [HRR.out]; exact OwnN.nil _ _ _, by rw [HRR.out]; exact hr.out, hu.out⟩
      · have q1 : ¬ (acc.length : Int) < n := by omega
        have hn0 : n - acc.length = 0 := by omega
        have hRN : Hid (RN = (acc, z)) := by unfold Hid; rw [hrn.out, hn0]; simp [rdChs]
        by_cases hz : z.2 = 0
        · have HRR : Hid (chItems B = (acc, z)) := by unfold Hid; rw [HF.out, hRN.out]; exact if_neg (fun q => q hz)
          rw [hz] at e2
          replace e2 : wr.cell? ⟨g, 2, none⟩ = some (.int .i64 0) := e2
          clear hrn hRN hz hn0
          go_wp2_with fail
          go_ret
          exact ⟨_, rfl, by rw [HRR.out]; exact ho.out, by rw [HRR.out]; exact hr.out, hu.out⟩
        · have hz3 : ((z.2 : Int) != 0) = true := by rw [bne_iff_ne]; omega
          have HRR : Hid (chItems B = ([], z)) := by unfold Hid; rw [HF.out, hRN.out]; exact if_pos hz
          clear hrn hRN hz hn0
          go_wp2_with fail
          go_ret
          exact ⟨_, rfl, by rw [HRR.out]; exact OwnN.nil _ _ _, by rw [HRR.out]; exact hr.out, hu.out⟩
  · replace c2 : w1.cell? ⟨g, 2, none⟩ = some (.int .i64 0) := c2
    have hb2 : ¬ (B.length : Int) - at1 < n := by omega
    clear hb
    go_wp2_with fail
    go_quiet (fail)
    have HU := Lib.hid ((Upd.refl [] w1).drewN nq)
    generalize w1.drewN nq = w3 at *
    have H3 := Lib.hid (H1.out.upd HU.out)
    have HU3 := Lib.hid (HU1.out.gg HU.out.up)
    rw [← hst] at H3
    clear hst c0 c2 d1
    obtain ⟨RN, hRNe⟩ : ∃ RN, RN = rdChs B n st := ⟨_, rfl⟩
    rw [← hRNe] at HF
    have HN0 : Hid (RN = ([] ++ (rdChs B (n - 0) st).1, (rdChs B (n - 0) st).2)) := by rw [hRNe]; rfl
    clear hRNe
    go_wp2_with fail
    go_loopw [9, 10] (fun o i wr => ∃ (j : Nat) (acc : List Ch) (z : RSt), i = .int .i64 (j : Int) ∧ j ≤ n ∧ acc.length = j ∧ Hid (OwnN 2 chCells w.heap.size 136 wr o acc) ∧ Hid (RdrAt 165 base wr g (.slice a B.length k) B z) ∧ Hid (Upd [g] w wr) ∧ Hid (RN = (acc ++ (rdChs B (n - j) z).1, (rdChs B (n - j) z).2))) (fun _ i _ => n - (intOf i).toNat)
    case atStart => exact ⟨0, [], st, rfl, Nat.zero_le _, rfl, OwnN.nil _ _ _, H3.out, HU3.out, HN0⟩
    case round =>
      obtain ⟨j, acc, z, rfl, hj, hacc, ho, hr, hu, hrn⟩ := hrel
      obtain ⟨ao, ko, hov, -⟩ := ho.out.rd chCells_len
      subst hov
      subst hacc
      have e2 := hr.out.cells.cell 2
      replace e2 : wr.cell? ⟨g, 2, none⟩ = some (.int .i64 (z.2 : Int)) := e2
      clear HN0
      by_cases hlt : acc.length < n
      · have q1 : (acc.length : Int) < n := by omega
        by_cases hz : z.2 = 0
        · have hRN : Hid (RN = ((acc ++ [(rdCh B z).1]) ++ (rdChs B (n - (acc.length + 1)) (rdCh B z).2).1, (rdChs B (n - (acc.length + 1)) (rdCh B z).2).2)) := by
            have e : n - acc.length = (n - (acc.length + 1)) + 1 := by omega
            unfold Hid; rw [hrn.out, e, rdChs_step _ _ _ hz]; simp only [List.append_assoc, List.singleton_append]
          rw [hz] at e2
          replace e2 : wr.cell? ⟨g, 2, none⟩ = some (.int .i64 0) := e2
          have HO := Lib.hid ho.out
          clear hrn ho
          go_wp2_with fail
          (with_reducible refine (rCh_any _ hr.out).mono ?_)
          rintro e w5 ⟨rfl, h5, hu5⟩
          have HU5 := Lib.hid (hu.out.gg hu5)
          have HO5 := Lib.hid (HO.out.upd hu5 (rdrN hr.out (by decide) HO.out))
          have H5 := Lib.hid h5
          clear h5 hu5 hu hr HO e2 hz
          generalize rdCh B z = y at *
          obtain ⟨⟨yk, yd⟩, yz⟩ := y
          dsimp only at hRN H5
          dsimp only
          have hu6 : Upd [] w5 (w5.alloc (.cells #[.int .i64 yk, .string yd] 136)) := (Upd.refl [] w5).alloc _
          have hnb : Blk (w5.alloc (.cells #[.int .i64 yk, .string yd] 136)) w5.heap.size 136 [.int .i64 yk, .string yd] := Blk.new w5 _ _
          have HRD : RdN 2 chCells (w5.alloc (.cells #[.int .i64 yk, .string yd] 136)) (.slice (some ⟨w5.heap.size, 0, none⟩) 1 1) [(yk, yd)] := by
            refine ⟨_, 1, rfl, by simp, by simp [maxLen], fun _ => ⟨w5.heap.size, 0, rfl, fun j hj i hi => ?_⟩⟩
            have hj0 : j = 0 := by simpa using hj
            subst hj0
            rw [Nat.zero_mul, Nat.zero_add, Nat.zero_add, hnb.cell]; rfl
          have HRUN := Lib.hid (fun ty => run_appN (P := Tryz.prog) (ty := ty) chCells_len (by decide) chCells_one undCh infoCh rfl (.slice ao acc.length ko) _ acc [(yk, yd)] (HO5.out.upd hu6 (by simp)) HRD (by simp; omega) (by simp [maxLen]; omega) (Nat.le_trans HU5.out.size hu6.size))
          have H6 := Lib.hid (H5.out.upd hu6)
          have HU6 := Lib.hid (HU5.out.gg (hu6.mono (T := [g]) (by simp)))
          have HO6 := Lib.hid (HO5.out.upd hu6 (by simp))
          clear hu6 hnb HRD
          go_wp2_with (at_builtin; go_must (refine wpList_app_of rfl (.tmp 52) (.tmp 56) rfl (.slice ao acc.length ko) (.slice (some ⟨w5.heap.size, 0, none⟩) 1 1) rfl rfl (HRUN.out _) ?_; rintro v7 w7 ⟨ho7, hu7, hk7⟩; have HO7 := Lib.hid ho7; have H7 := Lib.hid (rdrT _ H6.out (by decide) (by decide) HO6.out hu7); have HU7 : Hid (Upd [g] w w7) := HU6.out.trans hu7 (fun x hx => hx) (fun x hx => .inr (HO6.out.ge x hx).1); clear ho7 hu7 hk7 HRUN; dsimp only))
          go_roundw
          case rel => exact ⟨acc.length + 1, acc ++ [(yk, yd)], yz, by go_num, by omega, by simp, HO7, H7, HU7, hRN⟩
          case measure => simp [intOf]; omega
        · have hz2 : ((z.2 : Int) == 0) = false := by rw [beq_eq_false_iff_ne]; omega
          have hz3 : ((z.2 : Int) != 0) = true := by rw [bne_iff_ne]; omega
          have HRR : Hid (chItems B = ([], z)) := by unfold Hid; rw [HF.out, hrn.out, rdChs_stop _ _ _ hz]; exact if_pos hz
          clear hrn hz
          go_wp2_with fail
          go_ret
          exact ⟨_, rfl, by rw [HRR.out]; exact OwnN.nil _ _ _, by rw [HRR.out]; exact hr.out, hu.out⟩
      · have q1 : ¬ (acc.length : Int) < n := by omega
        have hn0 : n - acc.length = 0 := by omega
        have hRN : Hid (RN = (acc, z)) := by unfold Hid; rw [hrn.out, hn0]; simp [rdChs]
        by_cases hz : z.2 = 0
        · have HRR : Hid (chItems B = (acc, z)) := by unfold Hid; rw [HF.out, hRN.out]; exact if_neg (fun q => q hz)
          rw [hz] at e2
          replace e2 : wr.cell? ⟨g, 2, none⟩ = some (.int .i64 0) := e2
          clear hrn hRN hz hn0
          go_wp2_with fail
          go_ret
          exact ⟨_, rfl, by rw [HRR.out]; exact ho.out, by rw [HRR.out]; exact hr.out, hu.out⟩
        · have hz3 : ((z.2 : Int) != 0) = true := by rw [bne_iff_ne]; omega
          have HRR : Hid (chItems B = ([], z)) := by unfold Hid; rw [HF.out, hRN.out]; exact if_pos hz
          clear hrn hRN hz hn0
          go_wp2_with fail
          go_ret
          exact ⟨_, rfl, by rw [HRR.out]; exact OwnN.nil _ _ _, by rw [HRR.out]; exact hr.out, hu.out⟩
  · have hz9 : ((er1 : Int) == 0) = false := by rw [beq_eq_false_iff_ne]; omega
    go_wp2_with fail
    go_quiet (fail)
    have HU := Lib.hid ((Upd.refl [] w1).drewN nq)
    generalize w1.drewN nq = w3 at *
    have H3 := Lib.hid (H1.out.upd HU.out)
    have HU3 := Lib.hid (HU1.out.gg HU.out.up)
    rw [← hst] at H3
    clear hst c0 c2 d1 hz9
    obtain ⟨RN, hRNe⟩ : ∃ RN, RN = rdChs B n st := ⟨_, rfl⟩
    rw [← hRNe] at HF
    have HN0 : Hid (RN = ([] ++ (rdChs B (n - 0) st).1, (rdChs B (n - 0) st).2)) := by rw [hRNe]; rfl
    clear hRNe
    go_wp2_with fail
    go_loopw [9, 10] (fun o i wr => ∃ (j : Nat) (acc : List Ch) (z : RSt), i = .int .i64 (j : Int) ∧ j ≤ n ∧ acc.length = j ∧ Hid (OwnN 2 chCells w.heap.size 136 wr o acc) ∧ Hid (RdrAt 165 base wr g (.slice a B.length k) B z) ∧ Hid (Upd [g] w wr) ∧ Hid (RN = (acc ++ (rdChs B (n - j) z).1, (rdChs B (n - j) z).2))) (fun _ i _ => n - (intOf i).toNat)
    case atStart => exact ⟨0, [], st, rfl, Nat.zero_le _, rfl, OwnN.nil _ _ _, H3.out, HU3.out, HN0⟩
    case round =>
      obtain ⟨j, acc, z, rfl, hj, hacc, ho, hr, hu, hrn⟩ := hrel
      obtain ⟨ao, ko, hov, -⟩ := ho.out.rd chCells_len
      subst hov
      subst hacc
      have e2 := hr.out.cells.cell 2
      replace e2 : wr.cell? ⟨g, 2, none⟩ = some (.int .i64 (z.2 : Int)) := e2
      clear HN0
      by_cases hlt : acc.length < n
      · have q1 : (acc.length : Int) < n := by omega
        by_cases hz : z.2 = 0
        · have hRN : Hid (RN = ((acc ++ [(rdCh B z).1]) ++ (rdChs B (n - (acc.length + 1)) (rdCh B z).2).1, (rdChs B (n - (acc.length + 1)) (rdCh B z).2).2)) := by
            have e : n - acc.length = (n - (acc.length + 1)) + 1 := by omega
            unfold Hid; rw [hrn.out, e, rdChs_step _ _ _ hz]; simp only [List.append_assoc, List.singleton_append]
          rw [hz] at e2
          replace e2 : wr.cell? ⟨g, 2, none⟩ = some (.int .i64 0) := e2
          have HO := Lib.hid ho.out
          clear hrn ho
          go_wp2_with fail
          (with_reducible refine (rCh_any _ hr.out).mono ?_)
          rintro e w5 ⟨rfl, h5, hu5⟩
          have HU5 := Lib.hid (hu.out.gg hu5)
          have HO5 := Lib.hid (HO.out.upd hu5 (rdrN hr.out (by decide) HO.out))
          have H5 := Lib.hid h5
          clear h5 hu5 hu hr HO e2 hz
          generalize rdCh B z = y at *
          obtain ⟨⟨yk, yd⟩, yz⟩ := y
          dsimp only at hRN H5
          dsimp only
          have hu6 : Upd [] w5 (w5.alloc (.cells #[.int .i64 yk, .string yd] 136)) := (Upd.refl [] w5).alloc _
          have hnb : Blk (w5.alloc (.cells #[.int .i64 yk, .string yd] 136)) w5.heap.size 136 [.int .i64 yk, .string yd] := Blk.new w5 _ _
          have HRD : RdN 2 chCells (w5.alloc (.cells #[.int .i64 yk, .string yd] 136)) (.slice (some ⟨w5.heap.size, 0, none⟩) 1 1) [(yk, yd)] := by
            refine ⟨_, 1, rfl, by simp, by simp [maxLen], fun _ => ⟨w5.heap.size, 0, rfl, fun j hj i hi => ?_⟩⟩
            have hj0 : j = 0 := by simpa using hj
            subst hj0
            rw [Nat.zero_mul, Nat.zero_add, Nat.zero_add, hnb.cell]; rfl
          have HRUN := Lib.hid (fun ty => run_appN (P := Tryz.prog) (ty := ty) chCells_len (by decide) chCells_one undCh infoCh rfl (.slice ao acc.length ko) _ acc [(yk, yd)] (HO5.out.upd hu6 (by simp)) HRD (by simp; omega) (by simp [maxLen]; omega) (Nat.le_trans HU5.out.size hu6.size))
          have H6 := Lib.hid (H5.out.upd hu6)
          have HU6 := Lib.hid (HU5.out.gg (hu6.mono (T := [g]) (by simp)))
          have HO6 := Lib.hid (HO5.out.upd hu6 (by simp))
          clear hu6 hnb HRD
          go_wp2_with (at_builtin; go_must (refine wpList_app_of rfl (.tmp 52) (.tmp 56) rfl (.slice ao acc.length ko) (.slice (some ⟨w5.heap.size, 0, none⟩) 1 1) rfl rfl (HRUN.out _) ?_; rintro v7 w7 ⟨ho7, hu7, hk7⟩; have HO7 := Lib.hid ho7; have H7 := Lib.hid (rdrT _ H6.out (by decide) (by decide) HO6.out hu7); have HU7 : Hid (Upd [g] w w7) := HU6.out.trans hu7 (fun x hx => hx) (fun x hx => .inr (HO6.out.ge x hx).1); clear ho7 hu7 hk7 HRUN; dsimp only))
          go_roundw
          case rel => exact ⟨acc.length + 1, acc ++ [(yk, yd)], yz, by go_num, by omega, by simp, HO7, H7, HU7, hRN⟩
          case measure => simp [intOf]; omega
        · have hz2 : ((z.2 : Int) == 0) = false := by rw [beq_eq_false_iff_ne]; omega
          have hz3 : ((z.2 : Int) != 0) = true := by rw [bne_iff_ne]; omega
          have HRR : Hid (chItems B = ([], z)) := by unfold Hid; rw [HF.out, hrn.out, rdChs_stop _ _ _ hz]; exact if_pos hz
          clear hrn hz
          go_wp2_with fail
          go_ret
          exact ⟨_, rfl, by rw [HRR.out]; exact OwnN.nil _ _ _, by rw [HRR.out]; exact hr.out, hu.out⟩
      · have q1 : ¬ (acc.length : Int) < n := by omega
        have hn0 : n - acc.length = 0 := by omega
        have hRN : Hid (RN = (acc, z)) := by unfold Hid; rw [hrn.out, hn0]; simp [rdChs]
        by_cases hz : z.2 = 0
        · have HRR : Hid (chItems B = (acc, z)) := by unfold Hid; rw [HF.out, hRN.out]; exact if_neg (fun q => q hz)
          rw [hz] at e2
          replace e2 : wr.cell? ⟨g, 2, none⟩ = some (.int .i64 0) := e2
          clear hrn hRN hz hn0
          go_wp2_with fail
          go_ret
          exact ⟨_, rfl, by rw [HRR.out]; exact ho.out, by rw [HRR.out]; exact hr.out, hu.out⟩
        · have hz3 : ((z.2 : Int) != 0) = true := by rw [bne_iff_ne]; omega
          have HRR : Hid (chItems B = ([], z)) := by unfold Hid; rw [HF.out, hRN.out]; exact if_pos hz
          clear hrn hRN hz hn0
          go_wp2_with fail
          go_ret
          exact ⟨_, rfl, by rw [HRR.out]; exact OwnN.nil _ _ _, by rw [HRR.out]; exact hr.out, hu.out⟩
theorem changes_any (w : World) (u : Value) (B : List UInt8) (hB : Bytes w u B) (hz : B.length ≤ 140737488351232) :
    Calls Tryz.prog 88 #[u] w fun e w' => ∃ x, e = .returned (.tuple #[x, .bool (chOk B)]) ∧ OwnN 2 chCells w.heap.size 136 w' x (chL B) ∧ Upd [] w w' := by
  have HB := Lib.hid hB
  obtain ⟨a, k, rfl, -⟩ := hB
  have HOK : Hid (chOk B = decide ((rdEnd B (chItems B).2).2 = 0 ∧ 0 < (chL B).length)) := rfl
  go_enter Tryz.func88, Tryz.ntmps88
  go_wp2_with fail
  (with_reducible refine (rRead_any _ _ B HB.out hz).mono ?_)
  rintro e w1 ⟨g, v, rfl, h1, hu1⟩
  have H1 := Lib.hid h1
  have HU1 := Lib.hid hu1
  clear h1 hu1
  go_wp2_with fail
  (with_reducible refine (chItems_any w1 HU1.out.size H1.out).mono ?_)
  rintro e w2 ⟨x, rfl, ho, h2, hu2⟩
  have H2 := Lib.hid h2
  have HO2 : Hid (OwnN 2 chCells w.heap.size 136 w2 x (chL B)) := own_leC ho HU1.out.size
  have HU2 : Hid (Upd [g] w1 w2) := hu2
  have HGW : Hid (w.heap.size ≤ g) := H1.out.gb
  clear ho h2 hu2
  obtain ⟨xa, xk, rfl, hx1, hx2, -⟩ := HO2.out.rd chCells_len
  have hx3 : xk ≤ 9223372036854775807 := by unfold maxLen at hx2; omega
  generalize chItems B = it at *
  go_wp2_with fail
  (with_reducible refine (rEnd_any w2 H2.out).mono ?_)
  rintro e w3 ⟨rfl, h3, hu3⟩
  have HU3 : Hid (Upd [] w w3) := (HU1.out.trans HU2.out (T := []) (by simp) (fun x hx => .inr (by simp at hx; subst hx; exact HGW.out))).trans hu3 (by simp) (fun x hx => .inr (by simp at hx; subst hx; exact HGW.out))
  have HO3 := Lib.hid (HO2.out.upd hu3 (rdrN H2.out (by decide) HO2.out))
  clear h3 hu3 hx2
  generalize (rdEnd B it.2).2 = er at *
  generalize hl : chL B = l at *
  have HL := Lib.hid hl
  clear hl
  by_cases he : er = 0
  · subst he
    have HE : Hid (chOk B = decide (0 < l.length)) := by unfold Hid; rw [HOK.out]; simp
    clear HOK
    go_wp2_with fail
    go_ret2
    exact ⟨.slice xa l.length xk, by rw [HE.out]; rfl, by rw [HL.out]; exact HO3.out, HU3.out⟩
  · have hz2 : ((er : Int) == 0) = false := by rw [beq_eq_false_iff_ne]; omega
    have HE : Hid (chOk B = false) := by unfold Hid; rw [HOK.out]; exact decide_eq_false (fun q => he q.1)
    clear he
    go_wp2_with fail
    go_ret2
    exact ⟨.slice xa l.length xk, by rw [HE.out]; rfl, by rw [HL.out]; exact HO3.out, HU3.out⟩
end
end Go.Proofs.YtmhojaiajhdlcaaGreat
namespace Go.Proofs.YtmhojaiajhdlcaaGreat
open Go.RowKit
set_option linter.unusedSimpArgs false
set_option linter.unusedVariables false
set_option linter.unusedSectionVars false
/-- An order of keys. -/
structure KOrd {κ : Type} (lt : κ → κ → Bool) : Prop where
  irr : ∀ a, lt a a = false
  trans : ∀ a b c, lt a b = true → lt b c = true → lt a c = true
  tot : ∀ a b, lt a b = false → lt b a = false → a = b
section
variable {κ ν : Type} [Inhabited κ] [Inhabited ν] [DecidableEq κ] {lt : κ → κ → Bool}
def below (lt : κ → κ → Bool) (l : List (κ × ν)) (k : κ) : Nat := (l.takeWhile fun p => lt p.1 k).length
def isIn (lt : κ → κ → Bool) (l : List (κ × ν)) (k : κ) : Bool := decide (below lt l k < l.length ∧ (nth l (below lt l k)).1 = k)
def tSet (lt : κ → κ → Bool) (l : List (κ × ν)) (k : κ) (v : ν) : List (κ × ν) := l.take (below lt l k) ++ (k, v) :: l.drop (below lt l k + if isIn lt l k then 1 else 0)
def tDel (lt : κ → κ → Bool) (l : List (κ × ν)) (k : κ) : List (κ × ν) := if isIn lt l k then l.take (below lt l k) ++ l.drop (below lt l k + 1) else l
def Rising (lt : κ → κ → Bool) (l : List (κ × ν)) : Prop := ∀ i j, i < j → j < l.length → lt (nth l i).1 (nth l j).1 = true
theorem below_le (l : List (κ × ν)) (k : κ) : below lt l k ≤ l.length := by
  unfold below
  induction l with
  | nil => simp
  | cons p l ih => rw [List.takeWhile_cons]; split <;> simp; exact ih
theorem below_lt : ∀ (l : List (κ × ν)) (k : κ) (j : Nat), j < below lt l k → lt (nth l j).1 k = true
  | [], k, j, h => by simp [below] at h
  | p :: l, k, j, h => by
    unfold below at h
    rw [List.takeWhile_cons] at h
    split at h
    · rename_i hp
      cases j with
      | zero => rw [nth_cons_zero]; exact hp
      | succ j => rw [nth_cons_succ]; exact below_lt l k j (by simpa [below] using h)
    · simp at h
theorem below_ge : ∀ (l : List (κ × ν)) (k : κ), below lt l k < l.length → lt (nth l (below lt l k)).1 k = false
  | [], k, h => by simp [below] at h
  | p :: l, k, h => by
    cases hp : lt p.1 k with
    | false =>
      have : below lt (p :: l) k = 0 := by unfold below; rw [List.takeWhile_cons]; simp [hp]
      rw [this, nth_cons_zero]; exact hp
    | true =>
      have e : below lt (p :: l) k = below lt l k + 1 := by unfold below; rw [List.takeWhile_cons]; simp [hp]
      rw [e, nth_cons_succ]
      exact below_ge l k (by rw [e] at h; simpa using h)
theorem below_eq (l : List (κ × ν)) (k : κ) (i : Nat) (h1 : i ≤ l.length) (h2 : ∀ j, j < i → lt (nth l j).1 k = true) (h3 : i < l.length → lt (nth l i).1 k = false) : below lt l k = i := by
  rcases Nat.lt_trichotomy (below lt l k) i with h | h | h
  · have a := below_ge l k (Nat.lt_of_lt_of_le h h1)
    rw [h2 _ h] at a; exact absurd a (by simp)
  · exact h
  · have a := below_lt l k i h
    have b := h3 (Nat.lt_of_lt_of_le h (below_le l k))
    rw [a] at b; exact absurd b (by simp)
def tGet (lt : κ → κ → Bool) (z : ν) (l : List (κ × ν)) (k : κ) : ν × Bool := if isIn lt l k then ((nth l (below lt l k)).2, true) else (z, false)
def tAt (zk : κ) (zv : ν) (l : List (κ × ν)) (i : Int) : κ × ν × Bool := if 0 ≤ i ∧ i < l.length then ((nth l i.toNat).1, (nth l i.toNat).2, true) else (zk, zv, false)
theorem tSet_len (l : List (κ × ν)) (k : κ) (v : ν) : (tSet lt l k v).length ≤ l.length + 1 := by
  unfold tSet
  have := below_le (lt := lt) l k
  rw [List.length_append, List.length_take, List.length_cons, List.length_drop]
  split <;> omega
theorem tDel_len (l : List (κ × ν)) (k : κ) : (tDel lt l k).length ≤ l.length := by
  unfold tDel
  split
  · rw [List.length_append, List.length_take, List.length_drop]; omega
  · exact Nat.le_refl _
theorem tSet_in (l : List (κ × ν)) (k : κ) (v : ν) (h : isIn lt l k = true) : tSet lt l k v = l.set (below lt l k) ((nth l (below lt l k)).1, v) := by
  unfold tSet
  rw [h]
  unfold isIn at h
  obtain ⟨h1, h2⟩ := of_decide_eq_true h
  rw [h2, List.set_eq_take_append_cons_drop, if_pos h1]
  rfl
theorem Rising.mono (ho : KOrd lt) {l : List (κ × ν)} (h : Rising lt l) (k : κ) (i j : Nat) (hij : i ≤ j) (hj : j < l.length) (hl : lt (nth l j).1 k = true) : lt (nth l i).1 k = true := by
  rcases Nat.lt_or_eq_of_le hij with e | e
  · exact ho.trans _ _ _ (h i j e hj) hl
  · rw [e]; exact hl
theorem Rising.nil : Rising lt ([] : List (κ × ν)) := fun i j _ h => by simp at h
theorem Rising.take {l : List (κ × ν)} (h : Rising lt l) (n : Nat) : Rising lt (l.take n) := fun i j hij hj => by
  rw [List.length_take] at hj
  rw [nth_take l n i (by omega), nth_take l n j (by omega)]; exact h i j hij (by omega)
theorem Rising.drop {l : List (κ × ν)} (h : Rising lt l) (n : Nat) : Rising lt (l.drop n) := fun i j hij hj => by
  rw [List.length_drop] at hj
  rw [nth_drop, nth_drop]; exact h _ _ (by omega) (by omega)
theorem Rising.app {l m : List (κ × ν)} (hl : Rising lt l) (hm : Rising lt m) (hlm : ∀ i j, i < l.length → j < m.length → lt (nth l i).1 (nth m j).1 = true) : Rising lt (l ++ m) := fun i j hij hj => by
  rw [List.length_append] at hj
  by_cases h1 : j < l.length
  · rw [nth_append_left _ _ _ h1, nth_append_left _ _ _ (by omega)]; exact hl i j hij h1
  · rw [nth_append_right _ _ j (by omega)]
    by_cases h2 : i < l.length
    · rw [nth_append_left _ _ _ h2]; exact hlm _ _ h2 (by omega)
    · rw [nth_append_right _ _ i (by omega)]; exact hm _ _ (by omega) (by omega)
theorem Rising.one (p : κ × ν) : Rising lt [p] := fun i j hij hj => by simp at hj; omega
/-- What stands from a place on is above the key, the key's own row left out. -/
theorem above (ho : KOrd lt) {l : List (κ × ν)} (h : Rising lt l) (k : κ) (j : Nat) (hj : below lt l k + (if isIn lt l k then 1 else 0) ≤ j) (hl : j < l.length) : lt k (nth l j).1 = true := by
  have hb : below lt l k < l.length := by split at hj <;> omega
  have h1 := below_ge l k hb
  by_cases hin : isIn lt l k = true
  · rw [if_pos hin] at hj
    unfold isIn at hin
    have e := (of_decide_eq_true hin).2
    have := h (below lt l k) j (by omega) hl
    rwa [e] at this
  · rw [if_neg hin] at hj
    have hne : (nth l (below lt l k)).1 ≠ k := by
      intro e; apply hin; unfold isIn; exact decide_eq_true ⟨hb, e⟩
    have h2 : lt k (nth l (below lt l k)).1 = true := by
      cases hc : lt k (nth l (below lt l k)).1 with
      | true => rfl
      | false => exact absurd (ho.tot _ _ h1 hc) hne
    rcases Nat.lt_or_eq_of_le hj with q | q
    · exact ho.trans _ _ _ h2 (h _ _ (by simpa using q) hl)
    · rw [Nat.add_zero] at q; rw [← q]; exact h2
theorem Rising.set_ (ho : KOrd lt) {l : List (κ × ν)} (h : Rising lt l) (k : κ) (v : ν) : Rising lt (tSet lt l k v) := by
  unfold tSet
  refine (h.take _).app ?_ ?_
  · have : (k, v) :: l.drop (below lt l k + if isIn lt l k then 1 else 0) = [(k, v)] ++ l.drop (below lt l k + if isIn lt l k then 1 else 0) := rfl
    rw [this]
    refine (Rising.one _).app (h.drop _) ?_
    intro i j hi hj
    simp at hi; subst hi
    rw [List.length_drop] at hj
    rw [nth_drop]
    exact above ho h k _ (by omega) (by omega)
  · intro i j hi hj
    rw [List.length_take] at hi
    rw [nth_take _ _ _ (by omega)]
    have h1 := below_lt (lt := lt) l k i (by omega)
    cases j with
    | zero => rw [nth_cons_zero]; exact h1
    | succ j =>
      rw [nth_cons_succ, nth_drop]
      rw [List.length_cons, List.length_drop] at hj
      exact ho.trans _ _ _ h1 (above ho h k _ (by omega) (by omega))
theorem Rising.del (ho : KOrd lt) {l : List (κ × ν)} (h : Rising lt l) (k : κ) : Rising lt (tDel lt l k) := by
  unfold tDel
  split
  · refine (h.take _).app (h.drop _) ?_
    intro i j hi hj
    rw [List.length_take] at hi
    rw [List.length_drop] at hj
    rw [nth_take _ _ _ (by omega), nth_drop]
    exact h _ _ (by omega) (by omega)
  · exact h
end
theorem intOrd : KOrd (fun a b : Int => decide (a < b)) := ⟨fun a => by simp, fun a b c => by simp; omega, fun a b => by simp; omega⟩
end Go.Proofs.YtmhojaiajhdlcaaGreat
namespace Go.Proofs.YtmhojaiajhdlcaaGreat
open Go.RowKit
set_option linter.unusedSimpArgs false
set_option linter.unusedVariables false
set_option linter.unusedSectionVars false
section
variable {κ ν : Type} [Inhabited κ] [Inhabited ν] [DecidableEq κ] {lt : κ → κ → Bool}
theorem lt_below (ho : KOrd lt) {l : List (κ × ν)} (h : Rising lt l) (k : κ) (i : Nat) (hi : i < l.length) : lt (nth l i).1 k = decide (i < below lt l k) := by
  by_cases hb : i < below lt l k
  · rw [below_lt l k i hb, decide_eq_true hb]
  · rw [decide_eq_false hb]
    cases hq : lt (nth l i).1 k with
    | false => rfl
    | true =>
      have h1 := below_ge (lt := lt) l k (by omega)
      rw [h.mono ho k (below lt l k) i (by omega) hi hq] at h1
      exact absurd h1 (by simp)
theorem below_at (ho : KOrd lt) {l : List (κ × ν)} (h : Rising lt l) (i : Nat) (hi : i < l.length) : below lt l (nth l i).1 = i :=
  below_eq l _ i (by omega) (fun j hj => h j i hj hi) (fun _ => ho.irr _)
theorem isIn_at (ho : KOrd lt) {l : List (κ × ν)} (h : Rising lt l) (i : Nat) (hi : i < l.length) : isIn lt l (nth l i).1 = true := by
  unfold isIn
  rw [below_at ho h i hi]
  exact decide_eq_true ⟨hi, rfl⟩
theorem tGet_at (ho : KOrd lt) (z : ν) {l : List (κ × ν)} (h : Rising lt l) (i : Nat) (hi : i < l.length) : tGet lt z l (nth l i).1 = ((nth l i).2, true) := by
  unfold tGet
  rw [isIn_at ho h i hi, below_at ho h i hi]; rfl
theorem tAt_at (zk : κ) (zv : ν) (l : List (κ × ν)) (i : Nat) (hi : i < l.length) : tAt zk zv l (i : Int) = ((nth l i).1, (nth l i).2, true) := by
  unfold tAt
  rw [if_pos ⟨by omega, by omega⟩]; rfl
theorem nth_keys (l : List (κ × ν)) (i : Nat) (hi : i < l.length) : nth (l.map (·.1)) i = (nth l i).1 := by
  rw [nth_get _ _ (by simpa using hi), nth_get _ _ hi]; simp
theorem tSet_mem (l : List (κ × ν)) (k : κ) (v : ν) (p : κ × ν) (h : p ∈ tSet lt l k v) : p = (k, v) ∨ p ∈ l := by
  unfold tSet at h
  rcases List.mem_append.1 h with h | h
  · exact .inr (List.mem_of_mem_take h)
  · rcases List.mem_cons.1 h with h | h
    · exact .inl h
    · exact .inr (List.mem_of_mem_drop h)
theorem tDel_mem (l : List (κ × ν)) (k : κ) (p : κ × ν) (h : p ∈ tDel lt l k) : p ∈ l := by
  unfold tDel at h
  split at h
  · rcases List.mem_append.1 h with h | h
    · exact List.mem_of_mem_take h
    · exact List.mem_of_mem_drop h
  · exact h
theorem nth_mem {l : List (κ × ν)} (i : Nat) (hi : i < l.length) : nth l i ∈ l := by rw [nth_get l i hi]; exact List.getElem_mem hi
theorem min_below (ho : KOrd lt) {l : List (κ × ν)} (h : Rising lt l) (k : κ) (i : Nat) (hi : i < l.length) : min (i + 1) (below lt l k) = min i (below lt l k) + (if lt (nth l i).1 k then 1 else 0) := by
  rw [lt_below ho h k i hi]
  by_cases hb : i < below lt l k
  · rw [decide_eq_true hb, if_pos rfl]; omega
  · rw [decide_eq_false hb, if_neg (by simp)]; omega
end
section
variable {κ ν κ' ν' : Type} [Inhabited κ] [Inhabited ν] [DecidableEq κ] [Inhabited κ'] [Inhabited ν'] [DecidableEq κ'] {lt : κ → κ → Bool} {lt' : κ' → κ' → Bool} (f : κ → κ') (h : ν → ν') (ok : κ → Prop)
/-- A table's rows with other names for keys and things, the order kept. -/
def tMap (l : List (κ × ν)) : List (κ' × ν') := l.map fun p => (f p.1, h p.2)
theorem tMap_nth (l : List (κ × ν)) (i : Nat) (hi : i < l.length) : nth (tMap f h l) i = (f (nth l i).1, h (nth l i).2) := by
  unfold tMap
  rw [nth_get _ _ (by simpa using hi), nth_get _ _ hi]; simp
variable (hf : ∀ a b, ok a → ok b → lt' (f a) (f b) = lt a b) (hi : ∀ a b, ok a → ok b → f a = f b → a = b)
include hf
theorem tMap_below (l : List (κ × ν)) (hl : ∀ p ∈ l, ok p.1) (k : κ) (hk : ok k) : below lt' (tMap f h l) (f k) = below lt l k := by
  unfold below tMap
  induction l with
  | nil => rfl
  | cons p l ih =>
    rw [List.map_cons, List.takeWhile_cons, List.takeWhile_cons]
    rw [hf p.1 k (hl p (by simp)) hk]
    split
    · rw [List.length_cons, List.length_cons, ih (fun q hq => hl q (by simp [hq]))]
    · rfl
include hi
theorem tMap_isIn (l : List (κ × ν)) (hl : ∀ p ∈ l, ok p.1) (k : κ) (hk : ok k) : isIn lt' (tMap f h l) (f k) = isIn lt l k := by
  unfold isIn
  rw [tMap_below f h ok hf l hl k hk]
  have hlen : (tMap f h l).length = l.length := by simp [tMap]
  rw [hlen]
  apply decide_eq_decide.2
  constructor
  · rintro ⟨h1, h2⟩
    rw [tMap_nth f h l _ h1] at h2
    exact ⟨h1, hi _ _ (hl _ (nth_mem _ h1)) hk h2⟩
  · rintro ⟨h1, h2⟩
    refine ⟨h1, ?_⟩
    rw [tMap_nth f h l _ h1]
    exact congrArg f h2
theorem tMap_set (l : List (κ × ν)) (hl : ∀ p ∈ l, ok p.1) (k : κ) (hk : ok k) (v : ν) : tSet lt' (tMap f h l) (f k) (h v) = tMap f h (tSet lt l k v) := by
  unfold tSet
  rw [tMap_isIn f h ok hf hi l hl k hk, tMap_below f h ok hf l hl k hk]
  unfold tMap
  simp [List.map_take, List.map_drop]
theorem tMap_del (l : List (κ × ν)) (hl : ∀ p ∈ l, ok p.1) (k : κ) (hk : ok k) : tDel lt' (tMap f h l) (f k) = tMap f h (tDel lt l k) := by
  unfold tDel
  rw [tMap_isIn f h ok hf hi l hl k hk, tMap_below f h ok hf l hl k hk]
  unfold tMap
  split <;> simp [List.map_take, List.map_drop]
theorem tMap_get (z : ν') (l : List (κ × ν)) (hl : ∀ p ∈ l, ok p.1) (k : κ) (hk : ok k) (z0 : ν) : tGet lt' z (tMap f h l) (f k) = if isIn lt l k then (h (tGet lt z0 l k).1, true) else (z, false) := by
  unfold tGet
  rw [tMap_isIn f h ok hf hi l hl k hk, tMap_below f h ok hf l hl k hk]
  split
  · rename_i hin
    unfold isIn at hin
    rw [tMap_nth f h l _ (of_decide_eq_true hin).1]
  · rfl
end
end Go.Proofs.YtmhojaiajhdlcaaGreat
namespace Go.Proofs.YtmhojaiajhdlcaaGreat
set_option linter.unusedSimpArgs false
set_option linter.unusedVariables false

def onStep (s : BitVec 32) : BitVec 32 := if s &&& 1 = 1 then (s >>> 1) ^^^ 0x82F63B78 else s >>> 1
def onBits (s : BitVec 32) : Nat → BitVec 32
  | 0 => s
  | k + 1 => onStep (onBits s k)
def onByte (s : BitVec 32) (x : UInt8) : BitVec 32 := onBits (s ^^^ BitVec.ofNat 32 x.toNat) 8
def onAll (s : BitVec 32) (l : List UInt8) : BitVec 32 := l.foldl onByte s
def sumOn (c : BitVec 32) (l : List UInt8) : BitVec 32 := ~~~ (onAll (~~~ c) l)
def sumOf (ls : List (List UInt8)) : BitVec 32 := ls.foldl sumOn 0

theorem onAll_append (s : BitVec 32) (l m : List UInt8) : onAll s (l ++ m) = onAll (onAll s l) m := by unfold onAll; rw [List.foldl_append]
theorem sumOn_append (c : BitVec 32) (l m : List UInt8) : sumOn c (l ++ m) = sumOn (sumOn c l) m := by
  unfold sumOn; rw [onAll_append]; simp

theorem and_one (s : BitVec 32) : (s &&& 1 = 1) ↔ s.getLsbD 0 = true := by
  constructor
  · intro h
    have := congrArg (fun x => x.getLsbD 0) h
    simpa using this
  · intro h
    apply BitVec.eq_of_getLsbD_eq
    intro i hi
    by_cases h0 : i = 0
    · subst h0; simpa using h
    · simp [BitVec.getLsbD_one, h0]
theorem onStep_eq (s : BitVec 32) : onStep s = (s >>> 1) ^^^ (if s.getLsbD 0 then 0x82F63B78 else 0) := by
  unfold onStep
  by_cases h : s.getLsbD 0 = true
  · rw [if_pos ((and_one s).2 h), if_pos h]
  · rw [if_neg (fun q => h ((and_one s).1 q)), if_neg h]; simp
theorem onStep_xor (a b : BitVec 32) : onStep (a ^^^ b) = onStep a ^^^ onStep b := by
  rw [onStep_eq, onStep_eq, onStep_eq, BitVec.getLsbD_xor, BitVec.ushiftRight_xor_distrib]
  generalize a >>> 1 = p
  generalize b >>> 1 = q
  have hz : ∀ i, (0 : BitVec 32).getLsbD i = false := fun i => by simp
  generalize (0x82F63B78 : BitVec 32) = r
  apply BitVec.eq_of_getLsbD_eq
  intro i hi
  cases a.getLsbD 0 <;> cases b.getLsbD 0 <;> simp [BitVec.getLsbD_xor, hz] <;> (try (cases p.getLsbD i <;> cases q.getLsbD i <;> cases r.getLsbD i <;> rfl))
theorem onStep_zero : onStep 0 = 0 := by decide
theorem onStep_eq_zero (s : BitVec 32) (h : onStep s = 0) : s = 0 := by
  rw [onStep_eq] at h
  have h31 := congrArg (fun x => x.getLsbD 31) h
  simp only [BitVec.getLsbD_xor, BitVec.getLsbD_ushiftRight] at h31
  rw [show s.getLsbD (1 + 31) = false from BitVec.getLsbD_of_ge s _ (by omega)] at h31
  by_cases h0 : s.getLsbD 0 = true
  · rw [if_pos h0] at h31; exact absurd h31 (by decide)
  · rw [if_neg h0] at h
    apply BitVec.eq_of_getLsbD_eq
    intro i hi
    rcases Nat.eq_zero_or_pos i with e | e
    · subst e; simpa using h0
    · have := congrArg (fun x => x.getLsbD (i - 1)) h
      simp only [BitVec.getLsbD_xor, BitVec.getLsbD_ushiftRight] at this
      rw [show 1 + (i - 1) = i from by omega] at this
      simpa using this
theorem onBits_xor (a b : BitVec 32) (n : Nat) : onBits (a ^^^ b) n = onBits a n ^^^ onBits b n := by
  induction n with
  | zero => rfl
  | succ n ih => simp only [onBits, ih, onStep_xor]
theorem onBits_eq_zero (a : BitVec 32) (n : Nat) : onBits a n = 0 ↔ a = 0 := by
  induction n with
  | zero => exact Iff.rfl
  | succ n ih =>
    constructor
    · intro h; exact ih.1 (onStep_eq_zero _ h)
    · intro h; simp only [onBits]; rw [ih.2 h]; exact onStep_zero
theorem onBits_add (a : BitVec 32) (m n : Nat) : onBits a (m + n) = onBits (onBits a m) n := by
  induction n with
  | zero => rfl
  | succ n ih => rw [← Nat.add_assoc]; simp only [onBits, ih]
theorem onBits_shift : ∀ m : Fin 32, onBits ((1 : BitVec 32) <<< m.val) m.val = 1 := by decide +kernel

/-- One bit. -/
def bit (b : Bool) : BitVec 32 := if b then 1 else 0
/-- So many bits, one behind the other. -/
def runF (s : BitVec 32) (f : Nat → Bool) : Nat → BitVec 32
  | 0 => s
  | n + 1 => onStep (runF s f n ^^^ bit (f n))
theorem bit_xor (a b : Bool) : bit (a ^^ b) = bit a ^^^ bit b := by cases a <;> cases b <;> decide
theorem runF_xor (s t : BitVec 32) (f g : Nat → Bool) (n : Nat) : runF (s ^^^ t) (fun i => f i ^^ g i) n = runF s f n ^^^ runF t g n := by
  induction n with
  | zero => rfl
  | succ n ih =>
    simp only [runF]
    rw [ih, bit_xor, ← onStep_xor]
    congr 1
    generalize runF s f n = p
    generalize runF t g n = q
    generalize bit (f n) = r
    generalize bit (g n) = u
    apply BitVec.eq_of_getLsbD_eq
    intro i hi
    simp only [BitVec.getLsbD_xor]
    cases p.getLsbD i <;> cases q.getLsbD i <;> cases r.getLsbD i <;> cases u.getLsbD i <;> rfl
theorem runF_congr (s : BitVec 32) (f g : Nat → Bool) (n : Nat) (h : ∀ i, i < n → f i = g i) : runF s f n = runF s g n := by
  induction n with
  | zero => rfl
  | succ n ih => simp only [runF]; rw [ih (fun i hi => h i (by omega)), h n (by omega)]
theorem runF_add (s : BitVec 32) (f : Nat → Bool) (m n : Nat) : runF s f (m + n) = runF (runF s f m) (fun i => f (m + i)) n := by
  induction n with
  | zero => rfl
  | succ n ih => rw [← Nat.add_assoc]; simp only [runF, ih]
theorem runF_false (s : BitVec 32) (n : Nat) : runF s (fun _ => false) n = onBits s n := by
  induction n with
  | zero => rfl
  | succ n ih => simp only [runF, onBits, ih, bit]; simp
/-- The low bits of a number, fed one by one, are the number fed at once. -/
theorem runF_word (x : BitVec 32) (m : Nat) (hm : m ≤ 32) : runF 0 (fun i => x.getLsbD i) m = onBits (BitVec.ofNat 32 (x.toNat % 2 ^ m)) m := by
  induction m with
  | zero => simp [runF, onBits, Nat.mod_one]
  | succ m ih =>
    simp only [runF]
    rw [ih (by omega)]
    have hs : BitVec.ofNat 32 (x.toNat % 2 ^ (m + 1)) = BitVec.ofNat 32 (x.toNat % 2 ^ m) ^^^ (if x.getLsbD m then (1 : BitVec 32) <<< m else 0) := by
      apply BitVec.eq_of_getLsbD_eq
      intro i hi
      simp only [BitVec.getLsbD_xor, BitVec.getLsbD_ofNat, hi, decide_true, Bool.true_and, Nat.testBit_mod_two_pow]
      have hb : x.toNat.testBit i = x.getLsbD i := rfl
      rw [hb]
      by_cases e : i = m
      · subst e
        cases hx : x.getLsbD i <;> simp [hi]
      · have e2 : (if x.getLsbD m = true then (1 : BitVec 32) <<< m else 0).getLsbD i = false := by
          split
          · simp [BitVec.getLsbD_shiftLeft, BitVec.getLsbD_one]; intro _ _; omega
          · simp
        rw [e2]
        by_cases q : i < m
        · simp [q, show i < m + 1 by omega]
        · simp [q, show ¬ i < m + 1 by omega]
    rw [hs, onBits_xor]
    show onStep _ = onBits _ (m + 1) ^^^ onBits _ (m + 1)
    simp only [onBits]
    rw [← onStep_xor]
    congr 2
    cases x.getLsbD m
    · simp only [bit]
      rw [if_neg (by decide), if_neg (by decide)]
      exact ((onBits_eq_zero 0 m).2 rfl).symm
    · simp only [bit]
      rw [if_pos trivial, if_pos trivial]
      exact (onBits_shift ⟨m, by omega⟩).symm
/-- A byte is its eight bits. -/
theorem onByte_run (s : BitVec 32) (x : UInt8) : onByte s x = runF s (fun i => x.toNat.testBit i) 8 := by
  have hx : x.toNat < 256 := x.toNat_lt
  have h := runF_xor s 0 (fun _ => false) (fun i => x.toNat.testBit i) 8
  rw [show s ^^^ 0 = s from by simp] at h
  simp only [Bool.false_xor] at h
  rw [h, runF_false, onByte, onBits_xor]
  congr 1
  have h2 := runF_word (BitVec.ofNat 32 x.toNat) 8 (by omega)
  rw [BitVec.toNat_ofNat, Nat.mod_eq_of_lt (show x.toNat < 2 ^ 32 by omega), Nat.mod_eq_of_lt (show x.toNat < 2 ^ 8 by omega)] at h2
  rw [← h2]
  apply runF_congr
  intro i hi
  rw [BitVec.getLsbD_ofNat]; simp; omega
/-- The bit at a place of bytes. -/
def bitAt (l : List UInt8) (n : Nat) : Bool := (nth l (n / 8)).toNat.testBit (n % 8)
theorem onAll_run (l : List UInt8) : ∀ s : BitVec 32, onAll s l = runF s (bitAt l) (8 * l.length) := by
  induction l with
  | nil => intro s; rfl
  | cons x l ih =>
    intro s
    rw [show 8 * (x :: l).length = 8 + 8 * l.length by simp; omega, runF_add]
    show onAll (onByte s x) l = _
    have e1 : runF s (bitAt (x :: l)) 8 = onByte s x := by
      rw [onByte_run]
      apply runF_congr
      intro i hi
      unfold bitAt
      rw [Nat.div_eq_of_lt hi, Nat.mod_eq_of_lt hi]; rfl
    rw [ih, e1]
    congr 1
    funext i
    unfold bitAt
    rw [show (8 + i) / 8 = i / 8 + 1 by omega, show (8 + i) % 8 = i % 8 by omega]; rfl

/-- Where two lists of bytes differ within 32 bits, in the bits of x alone, their sums are the same only if x's bits that count are none. -/
theorem burst_sum (s : BitVec 32) (l m : List UInt8) (hl : m.length = l.length) (at_ : Nat) (x : BitVec 32) (hat : at_ ≤ 8 * l.length)
    (hb : ∀ n, n < 8 * l.length → bitAt m n = (bitAt l n ^^ (decide (at_ ≤ n) && x.getLsbD (n - at_)))) :
    onAll s m = onAll s l ↔ ∀ k, k < 32 → at_ + k < 8 * l.length → x.getLsbD k = false := by
  have hd : onAll s m ^^^ onAll s l = runF 0 (fun n => decide (at_ ≤ n) && x.getLsbD (n - at_)) (8 * l.length) := by
    rw [onAll_run, onAll_run, hl, ← runF_xor, BitVec.xor_self]
    apply runF_congr
    intro i hi
    rw [hb i hi]
    cases bitAt l i <;> simp
  have hz : onAll s m = onAll s l ↔ runF 0 (fun n => decide (at_ ≤ n) && x.getLsbD (n - at_)) (8 * l.length) = 0 := by
    rw [← hd]
    constructor
    · intro h; rw [h, BitVec.xor_self]; rfl
    · intro h
      have := congrArg (fun y => y ^^^ onAll s l) h
      simp only [BitVec.xor_assoc, BitVec.xor_self, BitVec.xor_zero] at this
      simpa using this
  rw [hz]
  have h0 : runF 0 (fun n => decide (at_ ≤ n) && x.getLsbD (n - at_)) at_ = 0 := by
    rw [runF_congr 0 _ (fun _ => false) at_ (fun i hi => by simp; omega), runF_false]
    exact (onBits_eq_zero 0 _).2 rfl
  obtain ⟨M, R, hM, hMR, hR⟩ : ∃ M R, M ≤ 32 ∧ 8 * l.length = at_ + (M + R) ∧ (R = 0 ∨ M = 32) := by
    by_cases q : 8 * l.length - at_ ≤ 32
    · exact ⟨8 * l.length - at_, 0, q, by omega, .inl rfl⟩
    · exact ⟨32, 8 * l.length - at_ - 32, by omega, by omega, .inr rfl⟩
  rw [hMR, runF_add, h0, runF_add]
  rw [runF_congr 0 (fun i => decide (at_ ≤ at_ + i) && x.getLsbD (at_ + i - at_)) (fun i => x.getLsbD i) M (fun i hi => by simp), runF_word x M hM]
  rw [runF_congr _ _ (fun _ => false) R (fun i hi => by
    rcases hR with e | e
    · omega
    · rw [show at_ + (M + i) - at_ = M + i by omega, BitVec.getLsbD_of_ge x _ (by omega)]; simp), runF_false, onBits_eq_zero, onBits_eq_zero]
  constructor
  · intro h k hk hlt
    have hkM : k < M := by
      rcases hR with e | e
      · omega
      · omega
    have := congrArg (fun y => y.getLsbD k) h
    simp only [BitVec.getLsbD_ofNat, hk, Nat.testBit_mod_two_pow, hkM, decide_true, Bool.true_and] at this
    rw [show x.getLsbD k = x.toNat.testBit k from rfl, this]; simp
  · intro h
    apply BitVec.eq_of_getLsbD_eq
    intro i hi
    simp only [BitVec.getLsbD_ofNat, hi, Nat.testBit_mod_two_pow, decide_true, Bool.true_and]
    by_cases q : i < M
    · have : x.toNat.testBit i = x.getLsbD i := rfl
      rw [this, h i hi (by omega)]; simp
    · simp [q]
end Go.Proofs.YtmhojaiajhdlcaaGreat
namespace Go.Proofs.YtmhojaiajhdlcaaGreat
set_option linter.unusedSimpArgs false
set_option linter.unusedVariables false

def flip1 (l : List UInt8) (n : Nat) : List UInt8 := l.set (n / 8) (UInt8.ofNat ((nth l (n / 8)).toNat ^^^ 2 ^ (n % 8)))
def flips (l : List UInt8) (bt : Nat) (x : BitVec 32) : Nat → List UInt8
  | 0 => l
  | k + 1 => if x.getLsbD k && decide (bt + k < 8 * l.length) then flip1 (flips l bt x k) (bt + k) else flips l bt x k
/-- Is a bit turned among the first k? 'lim': only those below that byte count. -/
def turned (lim len bt : Nat) (x : BitVec 32) : Nat → Bool
  | 0 => false
  | k + 1 => turned lim len bt x k || (x.getLsbD k && decide (bt + k < 8 * len) && decide ((bt + k) / 8 < lim))
theorem flip1_length (l : List UInt8) (n : Nat) : (flip1 l n).length = l.length := by simp [flip1]
theorem flips_length (l : List UInt8) (bt : Nat) (x : BitVec 32) (k : Nat) : (flips l bt x k).length = l.length := by
  induction k with
  | zero => rfl
  | succ k ih => simp only [flips]; split <;> simp [flip1_length, ih]
theorem nth_set {α : Type} [Inhabited α] (l : List α) (i j : Nat) (x : α) (hi : i < l.length) : nth (l.set i x) j = if i = j then x else nth l j := by
  unfold nth
  rw [List.getD_eq_getElem?_getD, List.getD_eq_getElem?_getD, List.getElem?_set]
  by_cases e : i = j
  · subst e; simp [hi]
  · simp [e]
theorem toNat_flip (a r : Nat) (ha : a < 256) (hr : r < 8) : (UInt8.ofNat (a ^^^ 2 ^ r)).toNat = a ^^^ 2 ^ r := by
  have h1 : 2 ^ r < 2 ^ 8 := Nat.pow_lt_pow_right (by omega) hr
  have h2 : a ^^^ 2 ^ r < 2 ^ 8 := Nat.xor_lt_two_pow (by omega) h1
  rw [UInt8.toNat_ofNat']; exact Nat.mod_eq_of_lt h2
theorem bitAt_flip1 (l : List UInt8) (m n : Nat) (hm : m < 8 * l.length) : bitAt (flip1 l m) n = (bitAt l n ^^ decide (n = m)) := by
  unfold bitAt flip1
  rw [nth_set _ _ _ _ (by omega)]
  by_cases e : m / 8 = n / 8
  · rw [if_pos e, toNat_flip _ _ (nth l (m / 8)).toNat_lt (by omega), Nat.testBit_xor, e]
    congr 1
    rw [Nat.testBit_two_pow]
    by_cases q : n = m
    · simp [q]
    · simp [q]; omega
  · rw [if_neg e]
    have : n ≠ m := fun q => e (by rw [q])
    simp [this]
theorem bitAt_flips (l : List UInt8) (bt : Nat) (x : BitVec 32) (k n : Nat) (hn : n < 8 * l.length) : bitAt (flips l bt x k) n = (bitAt l n ^^ (decide (bt ≤ n) && decide (n < bt + k) && x.getLsbD (n - bt))) := by
  induction k with
  | zero =>
    have h1 : (decide (bt ≤ n) && decide (n < bt + 0)) = false := by simp
    rw [h1]; simp [flips]
  | succ k ih =>
    simp only [flips]
    by_cases hc : (x.getLsbD k && decide (bt + k < 8 * l.length)) = true
    · rw [if_pos hc, bitAt_flip1 _ _ _ (by rw [flips_length]; simp at hc; exact hc.2), ih]
      simp at hc
      by_cases e : n = bt + k
      · subst e; simp [hc.1]
      · by_cases q : bt ≤ n ∧ n < bt + k
        · simp [e, q.1, q.2, show n < bt + (k + 1) by omega]
        · have h1 : (decide (bt ≤ n) && decide (n < bt + k)) = false := by simp; omega
          have h2 : (decide (bt ≤ n) && decide (n < bt + (k + 1))) = false := by simp; omega
          rw [h1, h2]; simp [e]
    · rw [if_neg hc, ih]
      by_cases e : n = bt + k
      · subst e
        have : x.getLsbD k = false := by simp at hc; cases hx : x.getLsbD k; rfl; have := hc hx; omega
        simp [this]
      · by_cases q : bt ≤ n ∧ n < bt + k
        · simp [q.1, q.2, show n < bt + (k + 1) by omega]
        · have h1 : (decide (bt ≤ n) && decide (n < bt + k)) = false := by simp; omega
          have h2 : (decide (bt ≤ n) && decide (n < bt + (k + 1))) = false := by simp; omega
          rw [h1, h2]
theorem turned_iff (lim len bt : Nat) (x : BitVec 32) (k : Nat) : turned lim len bt x k = true ↔ ∃ j, j < k ∧ x.getLsbD j = true ∧ bt + j < 8 * len ∧ (bt + j) / 8 < lim := by
  induction k with
  | zero => simp [turned]
  | succ k ih =>
    simp only [turned, Bool.or_eq_true, ih, Bool.and_eq_true, decide_eq_true_eq]
    constructor
    · rintro (⟨j, h1, h2, h3, h4⟩ | ⟨⟨h1, h2⟩, h3⟩)
      · exact ⟨j, by omega, h2, h3, h4⟩
      · exact ⟨k, by omega, h1, h2, h3⟩
    · rintro ⟨j, h1, h2, h3, h4⟩
      by_cases e : j = k
      · subst e; exact .inr ⟨⟨h2, h3⟩, h4⟩
      · exact .inl ⟨j, by omega, h2, h3, h4⟩
theorem flips_sum (s : BitVec 32) (l : List UInt8) (bt : Nat) (x : BitVec 32) (hb : bt ≤ 8 * l.length) : onAll s (flips l bt x 32) = onAll s l ↔ turned l.length l.length bt x 32 = false := by
  rw [burst_sum s l _ (flips_length _ _ _ _) bt x hb (fun n hn => by
    rw [bitAt_flips _ _ _ _ _ hn]
    by_cases q : n < bt + 32
    · simp [q]
    · have : x.getLsbD (n - bt) = false := BitVec.getLsbD_of_ge x _ (by omega)
      simp [this])]
  rw [← Bool.not_eq_true, turned_iff]
  constructor
  · rintro h ⟨j, h1, h2, h3, _⟩
    rw [h j h1 h3] at h2; cases h2
  · intro h k hk hlt
    cases hx : x.getLsbD k
    · rfl
    · exact absurd ⟨k, hk, hx, hlt, by omega⟩ h

theorem bitAt_take (l : List UInt8) (n i : Nat) (h : i < 8 * n) : bitAt (l.take n) i = bitAt l i := by
  unfold bitAt; rw [nth_take _ _ _ (by omega)]
theorem flips_take_sum (s : BitVec 32) (l : List UInt8) (bt : Nat) (x : BitVec 32) (n : Nat) (hn : n = min l.length 16) : onAll s ((flips l bt x 32).take n) = onAll s (l.take n) ↔ turned 16 l.length bt x 32 = false := by
  have hnl : n ≤ l.length := by omega
  have hl1 : ((flips l bt x 32).take n).length = n := by rw [List.length_take, flips_length]; omega
  have hl2 : (l.take n).length = n := by rw [List.length_take]; omega
  have hbit : ∀ i, i < 8 * n → bitAt ((flips l bt x 32).take n) i = (bitAt (l.take n) i ^^ (decide (bt ≤ i) && x.getLsbD (i - bt))) := fun i hi => by
    rw [bitAt_take _ _ _ hi, bitAt_take _ _ _ hi, bitAt_flips _ _ _ _ _ (by omega)]
    by_cases q : i < bt + 32
    · simp [q]
    · have : x.getLsbD (i - bt) = false := BitVec.getLsbD_of_ge x _ (by omega)
      simp [this]
  have ht : turned 16 l.length bt x 32 = false ↔ ∀ k, k < 32 → bt + k < 8 * n → x.getLsbD k = false := by
    rw [← Bool.not_eq_true, turned_iff]
    constructor
    · intro h k hk hlt
      cases hx : x.getLsbD k
      · rfl
      · exact absurd ⟨k, hk, hx, by omega, by omega⟩ h
    · rintro h ⟨j, h1, h2, h3, h4⟩
      rw [h j h1 (by omega)] at h2; cases h2
  by_cases hb : bt ≤ 8 * n
  · rw [burst_sum s (l.take n) _ (by rw [hl1, hl2]) bt x (by rw [hl2]; exact hb) (fun i hi => hbit i (by rw [hl2] at hi; exact hi)), ht, hl2]
  · rw [ht]
    constructor
    · intro _ k _ h; omega
    · intro _
      rw [onAll_run, onAll_run, hl1, hl2]
      apply runF_congr
      intro i hi
      have h0 : decide (bt ≤ i) = false := by simp; omega
      rw [hbit i hi, h0, Bool.false_and, Bool.xor_false]
end Go.Proofs.YtmhojaiajhdlcaaGreat
namespace Go.Proofs.YtmhojaiajhdlcaaGreat
open Go.RowKit
set_option linter.unusedSimpArgs false
set_option linter.unusedVariables false

theorem onAll_take (s : BitVec 32) (l : List UInt8) (k : Nat) (h : k < l.length) : onAll s (l.take (k + 1)) = onByte (onAll s (l.take k)) (nth l k) := by
  unfold onAll
  rw [List.take_succ_eq_append_getElem h, List.foldl_append]
  simp [nth_get l k h]

theorem ofInt_toNat (s : BitVec 32) : BitVec.ofInt 32 (s.toNat : Int) = s := by
  rw [BitVec.ofInt_natCast, BitVec.ofNat_toNat]; simp
theorem wrap_toNat (s : BitVec 32) : IntKind.u32.wrap (s.toNat : Int) = (s.toNat : Int) := by
  have := s.isLt
  rw [IntKind.wrap_u32']; omega
theorem bits_xor (s t : BitVec 32) : bits .xor .u32 (s.toNat : Int) (t.toNat : Int) = ((s ^^^ t).toNat : Int) := by
  rw [u32_xor_nat _ _ s.isLt t.isLt, BitVec.toNat_xor]
theorem bits_and1 (s : BitVec 32) : (bits .and .u32 (s.toNat : Int) 1 == 1) = decide (s &&& 1 = 1) := by
  have h : bits .and .u32 (s.toNat : Int) ((1 : BitVec 32).toNat : Int) = ((s &&& 1).toNat : Int) := by
    rw [u32_and_nat _ _ s.isLt (by decide), BitVec.toNat_and]
  have h1 : (((1 : BitVec 32).toNat : Nat) : Int) = 1 := rfl
  rw [h1] at h
  rw [h]
  by_cases g : s &&& 1 = 1
  · rw [g]; rfl
  · have : ((s &&& 1).toNat : Int) ≠ 1 := fun e => g (BitVec.eq_of_toNat_eq (by rw [show (s &&& 1).toNat = 1 by omega]; rfl))
    rw [decide_eq_false g]; exact beq_eq_false_iff_ne.2 this
theorem bits_not (s : BitVec 32) : bits .xor .u32 IntKind.u32.max (s.toNat : Int) = ((~~~ s).toNat : Int) := by
  have h1 : IntKind.u32.max = (((0xFFFFFFFF : BitVec 32).toNat : Nat) : Int) := rfl
  rw [h1, bits_xor]
  congr 2
theorem half (s : BitVec 32) : (s.toNat : Int) / (2 : Int) = ((s >>> 1).toNat : Int) := by
  rw [BitVec.toNat_ushiftRight, Nat.shiftRight_eq_div_pow]; omega


theorem onStep_odd (s : BitVec 32) (h : (bits .and .u32 (s.toNat : Int) 1 == 1) = true) : bits .xor .u32 ((s.toNat : Int) / 2) 2197175160 = ((onStep s).toNat : Int) := by
  rw [bits_and1] at h
  rw [half, show (2197175160 : Int) = (((0x82F63B78 : BitVec 32).toNat : Nat) : Int) from rfl, bits_xor, onStep, if_pos (of_decide_eq_true h)]
theorem onStep_even (s : BitVec 32) (h : (bits .and .u32 (s.toNat : Int) 1 == 1) = false) : (s.toNat : Int) / 2 = ((onStep s).toNat : Int) := by
  rw [bits_and1] at h
  rw [half, onStep, if_neg (of_decide_eq_false h)]
theorem bits_byte (s : BitVec 32) (x : UInt8) : bits .xor .u32 (s.toNat : Int) (x.toNat : Int) = ((s ^^^ BitVec.ofNat 32 x.toNat).toNat : Int) := by
  have hx : x.toNat < 256 := x.toNat_lt
  have h1 : ((x.toNat : Nat) : Int) = ((BitVec.ofNat 32 x.toNat).toNat : Int) := by
    rw [BitVec.toNat_ofNat, Nat.mod_eq_of_lt (by omega)]
  rw [h1, bits_xor]
theorem bits_byte' (s : BitVec 32) (x : UInt8) : bits .xor .u32 (s.toNat : Int) ((x.toNat : Int) % 4294967296) = ((s ^^^ BitVec.ofNat 32 x.toNat).toNat : Int) := by
  have hx : x.toNat < 256 := x.toNat_lt
  rw [← bits_byte]; congr 1; omega

set_option maxHeartbeats 400000 in
theorem on_any (c : BitVec 32) (v : Value) (l : List UInt8) (w : World) (h : Bytes w v l) :
    Calls Tryz.prog 131 #[.int .u32 (c.toNat : Int), v] w fun e w' => e = .returned (.int .u32 ((sumOn c l).toNat : Int)) ∧ w = w' := by
  obtain ⟨a, cap, rfl, hlc, hm, hc⟩ := h
  have hm' : l.length ≤ 9223372036854775807 := by unfold maxLen at hm; omega
  clear hm hlc
  go_enter Tryz.func131, Tryz.ntmps131
  go_wp2
  go_loop [5, 13] (fun s i => ∃ k : Nat, k ≤ l.length ∧ i = .int .i64 k ∧ s = .int .u32 ((onAll (~~~ c) (l.take k)).toNat : Int)) (fun _ i => l.length - (intOf i).toNat)
  case atStart => exact ⟨0, Nat.zero_le _, rfl, by rw [bits_not]; rfl⟩
  case round =>
    obtain ⟨k, hk, rfl, rfl⟩ := hrel
    by_cases hlt : k < l.length
    · obtain ⟨b, off, rfl, hc'⟩ := hc (by intro h; simp [h] at hlt)
      have hck := hc' k hlt
      have HT := Lib.hid (onAll_take (~~~ c) l k hlt)
      clear hc hc'
      go_wp2
      go_loop [5, 21] (fun s i => ∃ j : Nat, j ≤ 8 ∧ i = .int .i64 j ∧ s = .int .u32 ((onBits ((onAll (~~~ c) (l.take k)) ^^^ BitVec.ofNat 32 (nth l k).toNat) j).toNat : Int)) (fun _ i => 8 - (intOf i).toNat)
      case atStart => exact ⟨0, Nat.zero_le _, rfl, congrArg _ (by exact bits_byte' _ _)⟩
      case round =>
        obtain ⟨j, hj, rfl, rfl⟩ := hrel
        by_cases hlt2 : j < 8
        · go_wp2
          · go_round
            case rel => exact ⟨j + 1, by omega, by go_num, congrArg _ (onStep_odd _ (by assumption))⟩
            case measure => simp [intOf]; omega
          · go_round
            case rel => exact ⟨j + 1, by omega, by go_num, congrArg _ (onStep_even _ (by assumption))⟩
            case measure => simp [intOf]; omega
        · obtain rfl : j = 8 := by omega
          go_wp2
          go_round
          case rel => exact ⟨k + 1, by omega, by go_num, by rw [HT.out]; rfl⟩
          case measure => simp [intOf]; omega
    · obtain rfl : k = l.length := by omega
      go_wp2
      go_ret
      exact ⟨congrArg (fun n => Ending.returned (.int .u32 n)) (by rw [bits_not]; rfl), rfl⟩

set_option maxHeartbeats 400000 in
theorem refOn_any (c : BitVec 32) (v : Value) (l : List UInt8) (w : World) (h : Bytes w v l) :
    Calls Tryz.prog 62 #[.int .u32 (c.toNat : Int), v] w fun e w' => e = .returned (.int .u32 ((sumOn c l).toNat : Int)) ∧ w = w' := by
  obtain ⟨a, cap, rfl, hlc, hm, hc⟩ := h
  have hm' : l.length ≤ 9223372036854775807 := by unfold maxLen at hm; omega
  clear hm hlc
  go_enter Tryz.func62, Tryz.ntmps62
  go_wp2
  go_loop [5, 6] (fun s i => ∃ k : Nat, k ≤ l.length ∧ i = .int .i64 k ∧ s = .int .u32 ((onAll (~~~ c) (l.take k)).toNat : Int)) (fun _ i => l.length - (intOf i).toNat)
  case atStart => exact ⟨0, Nat.zero_le _, rfl, by rw [bits_not]; rfl⟩
  case round =>
    obtain ⟨k, hk, rfl, rfl⟩ := hrel
    by_cases hlt : k < l.length
    · obtain ⟨b, off, rfl, hc'⟩ := hc (by intro h; simp [h] at hlt)
      have hck := hc' k hlt
      have HT := Lib.hid (onAll_take (~~~ c) l k hlt)
      clear hc hc'
      go_wp2
      go_loop [5, 7] (fun s i => ∃ j : Nat, j ≤ 8 ∧ i = .int .i64 j ∧ s = .int .u32 ((onBits ((onAll (~~~ c) (l.take k)) ^^^ BitVec.ofNat 32 (nth l k).toNat) j).toNat : Int)) (fun _ i => 8 - (intOf i).toNat)
      case atStart => exact ⟨0, Nat.zero_le _, rfl, congrArg _ (by exact bits_byte' _ _)⟩
      case round =>
        obtain ⟨j, hj, rfl, rfl⟩ := hrel
        by_cases hlt2 : j < 8
        · go_wp2
          · go_round
            case rel => exact ⟨j + 1, by omega, by go_num, congrArg _ (onStep_odd _ (by assumption))⟩
            case measure => simp [intOf]; omega
          · go_round
            case rel => exact ⟨j + 1, by omega, by go_num, congrArg _ (onStep_even _ (by assumption))⟩
            case measure => simp [intOf]; omega
        · obtain rfl : j = 8 := by omega
          go_wp2
          go_round
          case rel => exact ⟨k + 1, by omega, by go_num, by rw [HT.out]; rfl⟩
          case measure => simp [intOf]; omega
    · obtain rfl : k = l.length := by omega
      go_wp2
      go_ret
      exact ⟨congrArg (fun n => Ending.returned (.int .u32 n)) (by rw [bits_not]; rfl), rfl⟩

/-- Lists of bytes that a slice of slices shows. -/
def Parts (w : World) (v : Value) (ls : List (List UInt8)) : Prop :=
  ∃ vs : List Value, vs.length = ls.length ∧ Rd id w v vs ∧ ∀ j, j < ls.length → Bytes w (nth vs j) (nth ls j)
theorem sumOf_take (ls : List (List UInt8)) (k : Nat) (h : k < ls.length) : sumOf (ls.take (k + 1)) = sumOn (sumOf (ls.take k)) (nth ls k) := by
  unfold sumOf
  rw [List.take_succ_eq_append_getElem h, List.foldl_append]
  simp [nth_get ls k h]

set_option maxHeartbeats 400000 in
theorem of_any (v : Value) (ls : List (List UInt8)) (w : World) (h : Parts w v ls) :
    Calls Tryz.prog 110 #[v] w fun e w' => e = .returned (.int .u32 ((sumOf ls).toNat : Int)) ∧ w = w' := by
  obtain ⟨vs, hvl, ⟨a, cap, rfl, hlc, hm, hc⟩, hb⟩ := h
  have hm' : vs.length ≤ 9223372036854775807 := by unfold maxLen at hm; omega
  clear hm hlc
  have HL := Lib.hid hvl
  have HB := Lib.hid hb
  have HC := Lib.hid hc
  clear hvl hb hc
  go_enter Tryz.func110, Tryz.ntmps110
  go_wp2
  go_loop [3, 8] (fun s i => ∃ k : Nat, k ≤ vs.length ∧ i = .int .i64 k ∧ s = .int .u32 ((sumOf (ls.take k)).toNat : Int)) (fun _ i => vs.length - (intOf i).toNat)
  case atStart => exact ⟨0, Nat.zero_le _, rfl, rfl⟩
  case round =>
    obtain ⟨k, hk, rfl, rfl⟩ := hrel
    by_cases hlt : k < vs.length
    · obtain ⟨b, off, rfl, hc'⟩ := HC.out (by intro h; simp [h] at hlt)
      have hck := hc' k hlt
      have hbk := Lib.hid (HB.out k (by rw [← HL.out]; exact hlt))
      have HT := Lib.hid (sumOf_take ls k (by rw [← HL.out]; exact hlt))
      simp only [id] at hck
      clear hc'
      go_wp2_with (go_at_call 131; refine (on_any _ _ _ _ hbk.out).mono ?_; rintro e w' ⟨rfl, rfl⟩)
      go_round
      case rel => exact ⟨k + 1, by omega, by go_num, by rw [HT.out]⟩
      case measure => simp [intOf]; omega
    · obtain rfl : k = vs.length := by omega
      go_wp2
      go_ret
      exact ⟨congrArg (fun n => Ending.returned (.int .u32 n)) (by rw [HL.out, List.take_length]), rfl⟩

theorem Parts.lit {w : World} (vs : List Value) (ls : List (List UInt8)) {C : Array Value} {e : TypeId} {g n k : Nat} (hg : g = w.heap.size) (hC : C = vs.toArray) (hn : n = ls.length) (hv : vs.length = ls.length) (hk : n ≤ k) (hm : k ≤ maxLen)
    (h : ∀ j, j < ls.length → Bytes w (nth vs j) (nth ls j)) : Parts (w.alloc (.cells C e)) (.slice (some ⟨g, 0, none⟩) n k) ls :=
  ⟨vs, hv, Rd.lit vs hg (by simp [hC]) (by rw [hn, hv]) hk hm, fun j hj => (h j hj).alloc _⟩
theorem Parts.nil (w : World) : Parts w (.slice none 0 0) [] := ⟨[], rfl, Rd.nil w, fun j hj => absurd hj (by simp)⟩
theorem Parts.one {w : World} (v : Value) (l : List UInt8) {C : Array Value} {e : TypeId} {g n k : Nat} (hg : g = w.heap.size) (hC : C = #[v]) (hn : n = 1) (hk : k = 1) (h : Bytes w v l) : Parts (w.alloc (.cells C e)) (.slice (some ⟨g, 0, none⟩) n k) [l] :=
  Parts.lit [v] [l] hg (by rw [hC]) hn rfl (by omega) (by unfold maxLen; omega) (fun j hj => by
    match j, hj with
    | 0, _ => exact h)
theorem Parts.two {w : World} (v v' : Value) (l l' : List UInt8) {C : Array Value} {e : TypeId} {g n k : Nat} (hg : g = w.heap.size) (hC : C = #[v, v']) (hn : n = 2) (hk : k = 2) (h : Bytes w v l) (h' : Bytes w v' l') : Parts (w.alloc (.cells C e)) (.slice (some ⟨g, 0, none⟩) n k) [l, l'] :=
  Parts.lit [v, v'] [l, l'] hg (by rw [hC]) hn rfl (by omega) (by unfold maxLen; omega) (fun j hj => by
    match j, hj with
    | 0, _ => exact h
    | 1, _ => exact h')

theorem bit_test (x : BitVec 32) (k : Nat) : (bits .and .u32 ((x.toNat : Int) / 2 ^ k) 1 = 1) ↔ x.getLsbD k = true := by
  have h : bits .and .u32 (((x >>> k).toNat : Nat) : Int) 1 = 1 ↔ (x >>> k) &&& 1 = 1 := by
    have := bits_and1 (x >>> k)
    constructor
    · intro q; rw [q] at this; exact of_decide_eq_true this.symm
    · intro q; rw [decide_eq_true q] at this; exact beq_iff_eq.1 this
  have e : (x.toNat : Int) / 2 ^ k = (((x >>> k).toNat : Nat) : Int) := by
    rw [BitVec.toNat_ushiftRight, Nat.shiftRight_eq_div_pow, Int.natCast_ediv, Int.natCast_pow]; rfl
  rw [e, h, and_one, BitVec.getLsbD_ushiftRight]; rfl

theorem flip_bits (a : UInt8) (r : Nat) (hr : r < 8) : bits .xor .u8 (a.toNat : Int) ((2 : Int) ^ r % 256) = ((UInt8.ofNat (a.toNat ^^^ 2 ^ r)).toNat : Int) := by
  have h1 : 2 ^ r < 2 ^ 8 := Nat.pow_lt_pow_right (by omega) hr
  have h2 : ((2 : Int) ^ r % 256) = ((2 ^ r : Nat) : Int) := by
    rw [Int.natCast_pow]
    have : ((2 ^ r : Nat) : Int) < 256 := by omega
    rw [Int.natCast_pow] at this
    have h0 : (0 : Int) ≤ ((2 : Nat) : Int) ^ r := Int.le_of_lt (Int.pow_pos (by decide))
    exact Int.emod_eq_of_lt h0 this
  rw [h2, u8_xor_nat _ _ a.toNat_lt h1, toNat_flip _ _ a.toNat_lt hr]
/-- One turned bit, as the program stores it. -/
theorem flip_blk {w : World} {g : Nat} {e : TypeId} {l : List UInt8} {ys : List Value} (n : Nat) (hn : n < 8 * l.length) (h : Blk w g e (l.map bv ++ ys)) :
    Blk (w.setCell ⟨g, n / 8, none⟩ (.int .u8 (bits .xor .u8 ((nth l (n / 8)).toNat : Int) ((2 : Int) ^ (n % 8) % 256)))) g e ((flip1 l n).map bv ++ ys) := by
  rw [flip_bits _ _ (by omega)]
  have := h.set_ (n / 8) (bv (UInt8.ofNat ((nth l (n / 8)).toNat ^^^ 2 ^ (n % 8))))
  rw [List.set_append_left _ _ (by simp; omega), ← List.map_set] at this
  exact this
theorem turned_step (lim len bt : Nat) (x : BitVec 32) (k : Nat) (h1 : x.getLsbD k = true) (h2 : bt + k < 8 * len) (h3 : (bt + k) / 8 < lim) : turned lim len bt x (k + 1) = true := by
  simp only [turned, h1, decide_eq_true h2, decide_eq_true h3]; simp
theorem turned_stay (lim len bt : Nat) (x : BitVec 32) (k : Nat) (h : x.getLsbD k = false ∨ ¬ bt + k < 8 * len) : turned lim len bt x (k + 1) = turned lim len bt x k := by
  rcases h with h | h <;> simp [turned, h]
theorem flips_step (l : List UInt8) (bt : Nat) (x : BitVec 32) (k : Nat) (h1 : x.getLsbD k = true) (h2 : bt + k < 8 * l.length) : flips l bt x (k + 1) = flip1 (flips l bt x k) (bt + k) := by
  simp only [flips, h1, decide_eq_true h2]; simp
theorem flips_stay (l : List UInt8) (bt : Nat) (x : BitVec 32) (k : Nat) (h : x.getLsbD k = false ∨ ¬ bt + k < 8 * l.length) : flips l bt x (k + 1) = flips l bt x k := by
  rcases h with h | h <;> simp [flips, h]

theorem Parts.drew {w : World} {v : Value} {ls : List (List UInt8)} (h : Parts w v ls) : Parts w.drew v ls := h
theorem Parts.four {w : World} (v0 v1 v2 v3 : Value) (l0 l1 l2 l3 : List UInt8) {C : Array Value} {e : TypeId} {g n k : Nat} (hg : g = w.heap.size) (hC : C = #[v0, v1, v2, v3]) (hn : n = 4) (hk : k = 4) (h0 : Bytes w v0 l0) (h1 : Bytes w v1 l1) (h2 : Bytes w v2 l2) (h3 : Bytes w v3 l3) : Parts (w.alloc (.cells C e)) (.slice (some ⟨g, 0, none⟩) n k) [l0, l1, l2, l3] :=
  Parts.lit [v0, v1, v2, v3] [l0, l1, l2, l3] hg (by rw [hC]) hn rfl (by omega) (by unfold maxLen; omega) (fun j hj => by
    match j, hj with
    | 0, _ => exact h0
    | 1, _ => exact h1
    | 2, _ => exact h2
    | 3, _ => exact h3)
theorem sumOf_parts (l : List UInt8) (i k : Nat) (hi : i ≤ k) : sumOf [l.take i, [], (l.drop i).take (k - i), l.drop k] = sumOf [l] := by
  show sumOn (sumOn (sumOn (sumOn 0 (l.take i)) []) ((l.drop i).take (k - i))) (l.drop k) = sumOn 0 l
  rw [← sumOn_append, ← sumOn_append, ← sumOn_append]
  congr 1
  rw [List.nil_append]
  have : (l.drop i).take (k - i) ++ l.drop k = l.drop i := by
    rw [show l.drop k = (l.drop i).drop (k - i) by rw [List.drop_drop]; congr 1; omega, List.take_append_drop]
  rw [this, List.take_append_drop]
theorem sumOf_two (l : List UInt8) (i : Nat) : sumOn (sumOf [l.take i]) (l.drop i) = sumOf [l] := by
  show sumOn (sumOn 0 (l.take i)) (l.drop i) = sumOn 0 l
  rw [← sumOn_append, List.take_append_drop]
theorem sumOn_nil (c : BitVec 32) : sumOn c [] = c := by unfold sumOn; simp [onAll]
theorem toNat_beq {a b : BitVec 32} (h : a = b) : ((a.toNat : Int) == (b.toNat : Int)) = true := by rw [h]; simp
end Go.Proofs.YtmhojaiajhdlcaaGreat
namespace Go.Proofs.YtmhojaiajhdlcaaGreat
open Go.RowKit
set_option linter.unusedSimpArgs false
set_option linter.unusedVariables false
theorem fnFour_any (n : Nat) (hn : n < 4294967296) (w : World) :
    Calls Tryz.prog 111 #[.int .u32 (n : Int)] w fun e w' => e = .returned (.slice (some ⟨w.heap.size, 0, none⟩) 4 4) ∧ Own bv w.heap.size 5 w' (.slice (some ⟨w.heap.size, 0, none⟩) 4 4) (four n) ∧ Upd [] w w' := by
  go_enter Tryz.func111, Tryz.ntmps111
  go_wp2
  go_ret
  exact ⟨rfl, Own.lit (four n) (Nat.le_refl _) rfl (by simp [four]; omega) rfl rfl (by decide), (Upd.refl [] w).alloc _⟩
theorem fnNumber_any (v : Value) (l : List UInt8) (w : World) (h : Bytes w v l) (hl : 4 ≤ l.length) :
    Calls Tryz.prog 109 #[v] w fun e w' => e = .returned (.int .u32 (num4 l : Int)) ∧ Upd [] w w' := by
  obtain ⟨a, cap, rfl, hlc, hm, hc⟩ := h
  obtain ⟨b, off, rfl, hc'⟩ := hc (by intro h; simp [h] at hl)
  have c0 : w.cell? ⟨b, off, none⟩ = some (bv (nth l 0)) := hc' 0 (by omega)
  have c1 := hc' 1 (by omega)
  have c2 := hc' 2 (by omega)
  have c3 := hc' 3 (by omega)
  have HN : Hid (num4 l = (nth l 0).toNat * 16777216 + (nth l 1).toNat * 65536 + (nth l 2).toNat * 256 + (nth l 3).toNat) := rfl
  have hlt := num4_lt l
  generalize num4 l = N at *
  generalize nth l 0 = x0 at *
  generalize nth l 1 = x1 at *
  generalize nth l 2 = x2 at *
  generalize nth l 3 = x3 at *
  have q0 : (0 : Int) < l.length := by omega
  have q1 : (1 : Int) < l.length := by omega
  have q2 : (2 : Int) < l.length := by omega
  have q3 : (3 : Int) < l.length := by omega
  clear hc hc' hm hlc
  go_enter Tryz.func109, Tryz.ntmps109
  go_wp2_with fail
  go_quiet (fail)
  go_wp2_with fail
  go_ret
  exact ⟨congrArg (fun n => Ending.returned (.int .u32 n)) ((num4_walk x0 x1 x2 x3).trans (by rw [HN.out])), by first | exact (Upd.refl [] _).drewN _ | exact (Upd.refl [] _).drew⟩
theorem rfFour_any (n : Nat) (hn : n < 4294967296) (w : World) :
    Calls Tryz.prog 61 #[.int .i64 (n : Int)] w fun e w' => e = .returned (.slice (some ⟨w.heap.size, 0, none⟩) 4 4) ∧ Own bv w.heap.size 5 w' (.slice (some ⟨w.heap.size, 0, none⟩) 4 4) (four n) ∧ Upd [] w w' := by
  go_enter Tryz.func61, Tryz.ntmps61
  go_wp2
  go_ret
  exact ⟨rfl, Own.lit (four n) (Nat.le_refl _) rfl (by simp [four]; omega) rfl rfl (by decide), (Upd.refl [] w).alloc _⟩
/-- A frame of a payload. -/
def frameOf (p : List UInt8) : List UInt8 := four p.length ++ (four (sumOf [four p.length, p]).toNat ++ p)
def putF (b p : List UInt8) : List UInt8 := if p.length < 1 ∨ 262144 < p.length then b else b ++ frameOf p
set_option maxHeartbeats 1000000 in
theorem fPut_any (v u : Value) (l p : List UInt8) (w : World) (h : Bytes w v l) (h2 : Bytes w u p) (hz : l.length ≤ 1000000000) (hz2 : p.length ≤ 140737488351232) :
    Calls Tryz.prog 78 #[v, u] w fun e w' => ∃ x, e = .returned x ∧ Own bv w.heap.size 5 w' x (putF l p) ∧ Upd [] w w' := by
  have H := Lib.hid h
  have H2 := Lib.hid h2
  obtain ⟨a, cap, rfl, -, -, -⟩ := h
  obtain ⟨a2, cap2, rfl, -, -, -⟩ := h2
  have hmk := fun u => run_mk (P := Tryz.prog) Tryz.underlying28 infoByte rfl u 0 (l.length + 8 + p.length) 0 ((l.length : Int) + 8 + p.length) (by omega) (by omega) (by omega) (by omega) (by omega)
  by_cases hp : p.length < 1 ∨ 262144 < p.length
  · have HF : Hid (putF l p = l) := if_pos hp
    go_enter Tryz.func78, Tryz.ntmps78
    rcases hp with hp | hp
    all_goals go_wp2_with (at_builtin; refine wpList_app bv_one rfl (.tmp 14) (.tmp 15) rfl Tryz.underlying28 infoByte rfl (.slice (some ⟨w.heap.size, 0, none⟩) 0 (l.length + 8 + p.length)) (.slice a l.length cap) [] l rfl rfl (Own.room (base := w.heap.size) (Nat.le_refl _) rfl (by simp) (by unfold maxLen; omega)) (H.out.alloc _) (by simp; omega) (by unfold maxLen; simp; omega) (by simp) ?_; intro v1 w1 ho hu hbk; rw [List.nil_append] at ho; have HU : Hid (Upd [] w w1) := ((Upd.refl [] w).alloc _).trans hu (by simp) (by simp [blk]); have HO := Lib.hid ho; clear ho hu hbk)
    all_goals go_ret
    all_goals exact ⟨_, rfl, by rw [HF.out]; exact HO.out, HU.out⟩
  · have HF : Hid (putF l p = l ++ frameOf p) := if_neg hp
    have hp1 : 1 ≤ p.length := by omega
    have hp2 : p.length ≤ 262144 := by omega
    go_enter Tryz.func78, Tryz.ntmps78
    go_wp2_with (at_builtin; refine wpList_app bv_one rfl (.tmp 14) (.tmp 15) rfl Tryz.underlying28 infoByte rfl (.slice (some ⟨w.heap.size, 0, none⟩) 0 (l.length + 8 + p.length)) (.slice a l.length cap) [] l rfl rfl (Own.room (base := w.heap.size) (Nat.le_refl _) rfl (by simp) (by unfold maxLen; omega)) (H.out.alloc _) (by simp; omega) (by unfold maxLen; simp; omega) (by simp) ?_; intro v1 w1 ho hu hbk; rw [List.nil_append] at ho; have HU : Hid (Upd [] w w1) := ((Upd.refl [] w).alloc _).trans hu (by simp) (by simp [blk]); have HO := Lib.hid ho; clear ho hu hbk)
    refine (fnFour_any p.length (by omega) _).mono ?_
    rintro e w2 ⟨rfl, ho2, hu2⟩
    have HO1 := Lib.hid (HO.out.upd hu2 (by simp))
    have HO2 := Lib.hid ho2
    have HU2 := Lib.hid (HU.out.seq hu2)
    have HD : Hid (∀ x ∈ blk (.slice (some ⟨w1.heap.size, 0, none⟩) 4 4), x ∉ blk v1) := fun x h1 h2 => by have := (ho2.ge x h1).1; have := (HO.out.ge x h2).2; omega
    have hs2 := HU2.out.size
    have hq : (four p.length).length = 4 := rfl
    clear ho2 hu2 HU HO
    go_wp2_with (at_builtin; refine wpList_app bv_one rfl (.tmp 30) (.tmp 31) rfl Tryz.underlying28 infoByte rfl v1 (.slice (some ⟨w1.heap.size, 0, none⟩) 4 4) l (four p.length) rfl rfl HO1.out HO2.out.rd (by simp [hq]; omega) (by unfold maxLen; simp [hq]; omega) hs2 ?_; intro v3 w3 ho hu hbk; have HU3 : Hid (Upd [] w w3) := HU2.out.trans hu (by simp) (fun x hx => .inr (HO1.out.ge x hx).1); have HO3 := Lib.hid ho; have HB3 := Lib.hid hbk; have HV3 := Lib.hid (HO2.out.upd hu HD.out); clear ho hu hbk)
    have HP := Lib.hid (H2.out.upd0 HU3.out)
    refine (of_any _ [four p.length, p] _ (Parts.two _ _ (four p.length) p rfl rfl rfl rfl HV3.out.rd HP.out)).mono ?_
    rintro e w4 ⟨rfl, rfl⟩
    have HU4 := Lib.hid (HU3.out.alloc (.cells #[.slice (some ⟨w1.heap.size, 0, none⟩) 4 4, .slice a2 p.length cap2] 28))
    have HO4 := Lib.hid (HO3.out.upd ((Upd.refl [] w3).alloc (.cells #[.slice (some ⟨w1.heap.size, 0, none⟩) 4 4, .slice a2 p.length cap2] 28)) (by simp))
    have HS : Hid ((sumOf [four p.length, p]).toNat < 4294967296) := (sumOf [four p.length, p]).isLt
    have HF2 : Hid (frameOf p = four p.length ++ (four (sumOf [four p.length, p]).toNat ++ p)) := rfl
    generalize (w3.alloc (.cells #[.slice (some ⟨w1.heap.size, 0, none⟩) 4 4, .slice a2 p.length cap2] 28)) = w4 at *
    generalize (sumOf [four p.length, p]).toNat = sm at *
    have hq4 : (l ++ four p.length).length = l.length + 4 := by rw [List.length_append, hq]
    have HLE : Hid (l ++ four p.length ++ four sm ++ p = putF l p) := by unfold Hid; rw [HF.out, HF2.out]; simp only [List.append_assoc]
    generalize l ++ four p.length = l4 at *
    clear HV3 HP HU3 HO3 HB3 HD HO1 HO2 HU2 HF2 HF
    go_wp2_with fail
    refine (fnFour_any sm HS.out _).mono ?_
    rintro e w5 ⟨rfl, ho5, hu5⟩
    have HO5 := Lib.hid (HO4.out.upd hu5 (by simp))
    have HR5 := Lib.hid ho5.rd
    have HU5 := Lib.hid (HU4.out.seq hu5)
    have hs5 := HU5.out.size
    have hq5 : (four sm).length = 4 := rfl
    have hq6 : (l4 ++ four sm).length = l.length + 8 := by rw [List.length_append, hq5, hq4]
    generalize four sm = fs at *
    generalize (.slice (some ⟨w4.heap.size, 0, none⟩) 4 4 : Value) = v5 at *
    clear ho5 hu5 HU4 HO4
    go_wp2_with (first
      | (at_builtin; refine wpList_app bv_one rfl (.tmp 33) (.tmp 38) rfl Tryz.underlying28 infoByte rfl v3 v5 l4 fs rfl rfl HO5.out HR5.out (by simp [hq4, hq5]; omega) (by unfold maxLen; simp [hq4, hq5]; omega) hs5 ?_; intro v6 w6 ho hu hbk; have HU6 : Hid (Upd [] w w6) := HU5.out.trans hu (by simp) (fun x hx => .inr (HO5.out.ge x hx).1); have HO6 := Lib.hid ho; have HP6 := Lib.hid (H2.out.upd0 HU6.out); have hs6 := HU6.out.size; clear ho hu hbk; generalize l4 ++ fs = l6 at *)
      | (at_builtin; refine wpList_app bv_one rfl (.tmp 40) (.tmp 41) rfl Tryz.underlying28 infoByte rfl v6 (.slice a2 p.length cap2) l6 p rfl rfl HO6.out HP6.out (by simp [hq6]; omega) (by unfold maxLen; simp [hq6]; omega) hs6 ?_; intro v7 w7 ho hu hbk; have HU7 : Hid (Upd [] w w7) := HU6.out.trans hu (by simp) (fun x hx => .inr (HO6.out.ge x hx).1); have HO7 := Lib.hid ho; clear ho hu hbk))
    go_ret
    exact ⟨_, rfl, by rw [← HLE.out]; exact HO7.out, HU7.out⟩
end Go.Proofs.YtmhojaiajhdlcaaGreat
namespace Go.Proofs.YtmhojaiajhdlcaaGreat
open Go.RowKit
set_option linter.unusedSimpArgs false
set_option linter.unusedVariables false
/-- What Next tells: the payload, where it ends, the error; r: what stands at the place k. -/
def nextR (r : List UInt8) (k : Nat) : List UInt8 × Int × Int :=
  if r.length < 8 then ([], 0, 3)
  else if num4 r = 0 ∨ 262144 < num4 r then ([], 0, 4)
  else if r.length - 8 < num4 r then ([], 0, 3)
  else if (sumOf [r.take 4, (r.drop 8).take (num4 r)]).toNat ≠ num4 (r.drop 4) then ([], 0, 6)
  else ((r.drop 8).take (num4 r), (((k + 8 + num4 r : Nat) : Nat) : Int), 0)
def nextF (b : List UInt8) (at_ : Int) : List UInt8 × Int × Int :=
  if at_ < 0 ∨ (b.length : Int) < at_ then ([], 0, 1) else nextR (b.drop at_.toNat) at_.toNat
def NextSaid (w : World) (r : List UInt8 × Int × Int) (e : Ending) (w' : World) : Prop :=
  ∃ v, e = .returned (.tuple #[v, .int .i64 r.2.1, .int .i64 r.2.2]) ∧ Own bv w.heap.size 5 w' v r.1 ∧ Upd [] w w'
set_option maxHeartbeats 8000000 in
theorem fNext_any (v : Value) (l : List UInt8) (at_ : Int) (w : World) (h : Bytes w v l) (hz : l.length ≤ 1000000000) (hat : I64 at_) :
    Calls Tryz.prog 73 #[v, .int .i64 at_] w fun e w' => NextSaid w (nextF l at_) e w' := by
  have H := Lib.hid h
  obtain ⟨a, cap, rfl, hlc, hcm, -⟩ := h
  obtain ⟨ha1, ha2⟩ := hat
  by_cases hp : at_ < 0 ∨ (l.length : Int) < at_
  · have HF : Hid (nextF l at_ = ([], 0, 1)) := if_pos hp
    generalize nextF l at_ = r at *
    go_enter Tryz.func73, Tryz.ntmps73
    rcases hp with hp | hp
    all_goals go_wp2_with fail
    all_goals go_ret3
    all_goals exact ⟨_, by rw [HF.out]; rfl, by rw [HF.out]; exact Own.nil _ _ _, Upd.refl _ _⟩
  · obtain ⟨k, rfl⟩ := Int.eq_ofNat_of_zero_le (show 0 ≤ at_ by omega)
    have HN : Hid (nextF l (k : Int) = nextR (l.drop k) k) := by unfold Hid nextF; rw [if_neg hp]; rfl
    have hk : k ≤ l.length := by omega
    have hk1 : (k : Int) ≤ l.length := by omega
    have hk2 : (l.length : Int) ≤ cap := by omega
    have hk3 : (k : Int) ≤ cap := by omega
    have HR := Lib.hid (H.out.drop k hk)
    have hcut := run_cut (P := Tryz.prog) Tryz.underlying28 sizeByte a l.length cap k hk
    simp only [Nat.mul_one] at hcut
    generalize (if cap = k then a else a.map (·.add k)) = ak at *
    have hrl : (l.drop k).length = l.length - k := List.length_drop
    clear hp
    have q0 : ¬ (k : Int) < 0 := by omega
    have q1 : ¬ (l.length : Int) < k := by omega
    generalize nextF l (k : Int) = r at *
    generalize l.drop k = rl at *
    have hn : ((l.length - k : Nat) : Int) = (l.length : Int) - k := by omega
    have hckn : l.length - k ≤ cap - k := by omega
    have hck9 : cap - k ≤ maxLen := by omega
    rw [← hrl] at HR hcut hckn
    generalize cap - k = ck at *
    by_cases hs : rl.length < 8
    · have HG : Hid (r = ([], 0, 3)) := HN.out.trans (if_pos (by omega))
      have q2 : (rl.length : Int) < 8 := by omega
      clear HN hn hrl
      go_enter Tryz.func73, Tryz.ntmps73
      go_wp2_with fail
      go_ret3
      exact ⟨_, by rw [HG.out]; rfl, by rw [HG.out]; exact Own.nil _ _ _, Upd.refl _ _⟩
    · have HN := Lib.hid (HN.out.trans (if_neg (by omega)))
      have q2 : ¬ (rl.length : Int) < 8 := by omega
      have hNL := num4_lt rl
      have HNUM := fun (W : World) (hu : Upd [] w W) => Lib.hid (fnNumber_any _ _ _ (HR.out.upd0 hu) (by omega))
      generalize num4 rl = n at *
      by_cases hf : n = 0 ∨ 262144 < n
      · have HG : Hid (r = ([], 0, 4)) := HN.out.trans (if_pos hf)
        clear HN hn hrl
        go_enter Tryz.func73, Tryz.ntmps73
        go_wp2_with fail
        refine (HNUM _ (Upd.refl _ _)).out.mono ?_
        rintro e w1 ⟨rfl, hu1⟩
        rcases hf with rfl | hf
        · go_wp2_with fail
          go_ret3
          exact ⟨_, by rw [HG.out]; rfl, by rw [HG.out]; exact Own.nil _ _ _, hu1⟩
        · have hf2 : ((n : Int) == 0) = false := by rw [beq_eq_false_iff_ne]; omega
          have hf3 : (262144 : Int) < n := by omega
          go_wp2_with fail
          go_ret3
          exact ⟨_, by rw [HG.out]; rfl, by rw [HG.out]; exact Own.nil _ _ _, hu1⟩
      · have HN := Lib.hid (HN.out.trans (if_neg hf))
        have hf2 : ((n : Int) == 0) = false := by rw [beq_eq_false_iff_ne]; omega
        have hf3 : ¬ (262144 : Int) < n := by omega
        by_cases hb : rl.length - 8 < n
        · have HG : Hid (r = ([], 0, 3)) := HN.out.trans (if_pos hb)
          have hb2 : (rl.length : Int) - 8 < n := by omega
          clear HN hn hrl
          go_enter Tryz.func73, Tryz.ntmps73
          go_wp2_with fail
          refine (HNUM _ (Upd.refl _ _)).out.mono ?_
          rintro e w1 ⟨rfl, hu1⟩
          go_wp2_with fail
          go_ret3
          exact ⟨_, by rw [HG.out]; rfl, by rw [HG.out]; exact Own.nil _ _ _, hu1⟩
        · have HN := Lib.hid (HN.out.trans (if_neg hb))
          have hb2 : ¬ (rl.length : Int) - 8 < n := by omega
          have hc2 := fun W => run_cut_lh (P := Tryz.prog) Tryz.underlying28 sizeByte ak rl.length ck 8 (8 + n) (by omega) (by omega) W 8 (8 + (n : Int)) rfl (by omega)
          have hc3 : ∀ W, (Instr.slice 28 (.slice ak rl.length ck) none (some (.int .i64 4)) none).run Tryz.prog W = .ok (.slice ak 4 ck) W := run_cut_h (P := Tryz.prog) Tryz.underlying28 sizeByte ak rl.length ck 4 (by omega)
          have hc4 : ∀ W, (Instr.slice 28 (.slice ak rl.length ck) (some (.int .i64 4)) none none).run Tryz.prog W = .ok (.slice (if ck = 4 then ak else ak.map (·.add 4)) (rl.length - 4) (ck - 4)) W := run_cut (P := Tryz.prog) Tryz.underlying28 sizeByte ak rl.length ck 4 (by omega)
          simp only [Nat.mul_one, Nat.add_sub_cancel_left] at hc2
          have HP := Lib.hid (HR.out.sub 8 (8 + n) (by omega) (by omega))
          rw [Nat.add_sub_cancel_left] at HP
          have HT := Lib.hid (HR.out.take 4 (by omega))
          have HD := Lib.hid (HR.out.drop 4 (by omega))
          have hpl : ((rl.drop 8).take n).length = n := by rw [List.length_take, List.length_drop]; omega
          have HNUM2 := fun (W : World) (hu : Upd [] w W) => Lib.hid (fnNumber_any _ _ _ (HD.out.upd0 hu) (by rw [List.length_drop]; omega))
          generalize (if ck = 8 then ak else ak.map (·.add 8)) = a8 at *
          generalize (if ck = 4 then ak else ak.map (·.add 4)) = a4 at *
          generalize (rl.drop 8).take n = pl at *
          generalize rl.take 4 = r4 at *
          have hNL4 := num4_lt (rl.drop 4)
          generalize num4 (rl.drop 4) = m at *
          have hrb : rl.length ≤ 1000000000 := by omega
          clear hrl hn hcm hlc
          go_enter Tryz.func73, Tryz.ntmps73
          go_wp2_with fail
          refine (HNUM _ (Upd.refl _ _)).out.mono ?_
          rintro e w1 ⟨rfl, hu1⟩
          have HU1 := Lib.hid hu1
          clear hu1
          by_cases hsm : (sumOf [r4, pl]).toNat = m
          · have HG : Hid (r = (pl, ((k + 8 + n : Nat) : Int), 0)) := HN.out.trans (if_neg (fun h => h hsm))
            have hm2 : (((sumOf [r4, pl]).toNat : Int) != (m : Int)) = false := by rw [bne_eq_false_iff_eq]; omega
            clear HN hsm
            go_wp2_with fail
            go_region_held3 (fun w' => True) (trivial) (first
              | (go_at_call 110; refine (of_any _ [r4, pl] _ (Parts.drew (Parts.two _ _ r4 pl rfl rfl rfl rfl (HT.out.upd0 HU1.out) (HP.out.upd0 HU1.out)))).mono ?_; rintro e w' ⟨rfl, rfl⟩; dsimp only)
              | (go_at_call 109; refine (HNUM2 _ (by repeat (first | exact HU1.out | apply Upd.drew | apply Upd.drewN | apply Upd.alloc))).out.mono ?_; rintro e w2 ⟨rfl, hu2⟩; dsimp only))
            have HU2 := Lib.hid ((HU1.out.alloc _).drew.seq hu2)
            have HP2 := Lib.hid (HP.out.upd0 HU2.out)
            have hs2 := HU2.out.size
            clear hu2 HU1
            go_wp2_with (at_builtin; refine wpList_app bv_one rfl (.const (.slice none 0 0)) (.tmp 52) rfl Tryz.underlying28 infoByte rfl (.slice none 0 0) _ [] pl rfl rfl (Own.nil w.heap.size _ _) HP2.out (by simp; omega) (by unfold maxLen; simp; omega) hs2 ?_; intro v3 w3 ho hu hbk; rw [List.nil_append] at ho; have HU3 : Hid (Upd [] w w3) := HU2.out.trans hu (by simp) (by simp [blk]); have HO3 := Lib.hid ho; clear ho hu hbk)
            go_ret3
            exact ⟨_, by rw [HG.out]; simp only [Int.natCast_add]; rfl, by rw [HG.out]; exact HO3.out, HU3.out⟩
          · have HG : Hid (r = ([], 0, 6)) := HN.out.trans (if_pos hsm)
            have hm2 : (((sumOf [r4, pl]).toNat : Int) != (m : Int)) = true := by rw [bne_iff_ne]; omega
            clear HN hsm
            go_wp2_with fail
            go_region_held3 (fun w' => True) (trivial) (first
              | (go_at_call 110; refine (of_any _ [r4, pl] _ (Parts.drew (Parts.two _ _ r4 pl rfl rfl rfl rfl (HT.out.upd0 HU1.out) (HP.out.upd0 HU1.out)))).mono ?_; rintro e w' ⟨rfl, rfl⟩; dsimp only)
              | (go_at_call 109; refine (HNUM2 _ (by repeat (first | exact HU1.out | apply Upd.drew | apply Upd.drewN | apply Upd.alloc))).out.mono ?_; rintro e w2 ⟨rfl, hu2⟩; dsimp only))
            have HU2 := Lib.hid ((HU1.out.alloc _).drew.seq hu2)
            clear hu2 HU1
            go_wp2_with fail
            go_ret3
            exact ⟨_, by rw [HG.out]; rfl, by rw [HG.out]; exact Own.nil _ _ _, HU2.out⟩
end Go.Proofs.YtmhojaiajhdlcaaGreat
namespace Go.Proofs.YtmhojaiajhdlcaaGreat
open Go.RowKit
set_option linter.unusedSimpArgs false
set_option linter.unusedVariables false
def Fit (p : List UInt8) : Prop := 1 ≤ p.length ∧ p.length ≤ 262144
theorem frameOf_len (p : List UInt8) : (frameOf p).length = 8 + p.length := by simp [frameOf, four_len]; omega
theorem frameOf_eq (p : List UInt8) : frameOf p = four p.length ++ (four (sumOf [four p.length, p]).toNat ++ p) := rfl
/-- A frame is found. -/
theorem next_frame (p r : List UInt8) (k : Nat) (hp : Fit p) : nextR (frameOf p ++ r) k = (p, ((k + 8 + p.length : Nat) : Int), 0) := by
  obtain ⟨h1, h2⟩ := hp
  have hl : (frameOf p ++ r).length = 8 + p.length + r.length := by rw [List.length_append, frameOf_len]
  have hn : num4 (frameOf p ++ r) = p.length := by rw [frameOf_eq, List.append_assoc]; exact num4_four _ (by omega) _
  have h4 : (frameOf p ++ r).take 4 = four p.length := by rw [frameOf_eq, List.append_assoc]; exact List.take_left' (four_len _)
  have hd4 : (frameOf p ++ r).drop 4 = four (sumOf [four p.length, p]).toNat ++ (p ++ r) := by rw [frameOf_eq, List.append_assoc, List.append_assoc]; exact List.drop_left' (four_len _)
  have hd8 : (frameOf p ++ r).drop 8 = p ++ r := by
    have : (frameOf p ++ r).drop 8 = ((frameOf p ++ r).drop 4).drop 4 := by rw [List.drop_drop]
    rw [this, hd4]; exact List.drop_left' (four_len _)
  have hpr : ((frameOf p ++ r).drop 8).take p.length = p := by rw [hd8]; exact List.take_left' rfl
  have hs : num4 ((frameOf p ++ r).drop 4) = (sumOf [four p.length, p]).toNat := by rw [hd4]; exact num4_four _ (sumOf [four p.length, p]).isLt _
  unfold nextR
  rw [hn, hpr, hs, h4, hl, if_neg (by omega), if_neg (by omega), if_neg (by omega), if_neg (by simp)]
theorem num4_take (l : List UInt8) (n : Nat) (h : 4 ≤ n) : num4 (l.take n) = num4 l := by
  unfold num4; rw [nth_take _ _ _ (by omega), nth_take _ _ _ (by omega), nth_take _ _ _ (by omega), nth_take _ _ _ (by omega)]
/-- A frame that is cut off is not found. -/
theorem next_cut (p : List UInt8) (m k : Nat) (hp : Fit p) (hm : m < 8 + p.length) : (nextR ((frameOf p).take m) k).2.2 ≠ 0 := by
  obtain ⟨h1, h2⟩ := hp
  have hl : ((frameOf p).take m).length = m := by rw [List.length_take, frameOf_len]; omega
  unfold nextR
  rw [hl]
  by_cases h8 : m < 8
  · rw [if_pos h8]; simp
  · have hn : num4 ((frameOf p).take m) = p.length := by
      rw [num4_take _ _ (by omega)]
      have := num4_four p.length (by omega) (four (sumOf [four p.length, p]).toNat ++ p)
      rwa [← frameOf_eq] at this
    rw [if_neg h8, hn, if_neg (by omega), if_pos (by omega)]; simp
theorem next_nil (k : Nat) : (nextR [] k).2.2 ≠ 0 := by unfold nextR; simp
theorem nextF_at (b : List UInt8) (k : Nat) (h : k ≤ b.length) : nextF b (k : Int) = nextR (b.drop k) k := by
  unfold nextF; rw [if_neg (by omega)]; rfl
def framesOf (L : List (List UInt8)) : List UInt8 := L.flatMap frameOf
def endAt (L : List (List UInt8)) (i : Nat) : Nat := (framesOf (L.take i)).length
theorem framesOf_snoc (L : List (List UInt8)) (p : List UInt8) : framesOf (L ++ [p]) = framesOf L ++ frameOf p := by simp [framesOf]
theorem endAt_all (L : List (List UInt8)) (i : Nat) (h : L.length ≤ i) : endAt L i = (framesOf L).length := by unfold endAt; rw [List.take_of_length_le h]
theorem framesOf_ge (L : List (List UInt8)) : L.length ≤ (framesOf L).length := by
  induction L with
  | nil => simp [framesOf]
  | cons p L ih => simp only [framesOf, List.flatMap_cons, List.length_append, frameOf_len, List.length_cons] at ih ⊢; omega

theorem putF_fit (b p : List UInt8) (h : Fit p) : putF b p = b ++ frameOf p := if_neg (by have := h.1; have := h.2; omega)
theorem putF_no (b p : List UInt8) (h : ¬ Fit p) : putF b p = b := if_pos (by unfold Fit at h; omega)
end Go.Proofs.YtmhojaiajhdlcaaGreat
namespace Go.Proofs.YtmhojaiajhdlcaaGreat
open Go.RowKit
set_option linter.unusedSimpArgs false
set_option linter.unusedVariables false
theorem frNext_to (b : List UInt8) (k : Nat) (hk : k ≤ b.length) (he : (nextF b (k : Int)).2.2 = 0) :
    ∃ n, 1 ≤ n ∧ n ≤ 262144 ∧ k + 8 + n ≤ b.length ∧ (nextF b (k : Int)).2.1 = ((k + 8 + n : Nat) : Int) ∧ (nextF b (k : Int)).1.length = n := by
  rw [nextF_at b k hk] at he ⊢
  have hl : (b.drop k).length = b.length - k := List.length_drop
  unfold nextR at he ⊢
  split at he
  · exact absurd he (by simp)
  · rename_i h1
    split at he
    · exact absurd he (by simp)
    · rename_i h2
      split at he
      · exact absurd he (by simp)
      · rename_i h3
        split at he
        · exact absurd he (by simp)
        · rename_i h4
          rw [if_neg h1, if_neg h2, if_neg h3, if_neg h4]
          refine ⟨num4 (b.drop k), by omega, by omega, by omega, rfl, ?_⟩
          dsimp only
          rw [List.length_take, List.length_drop]; omega
/-- A frame that is whole in a beginning of the bytes is read there, too. -/
theorem frNext_take (b : List UInt8) (k n : Nat) (hk : k ≤ b.length) (he : (nextF b (k : Int)).2.2 = 0) (hn : (nextF b (k : Int)).2.1 ≤ (n : Int)) (hnb : n ≤ b.length) : nextF (b.take n) (k : Int) = nextF b (k : Int) := by
  obtain ⟨m, h1, h2, h3, h4, h5⟩ := frNext_to b k hk he
  rw [h4] at hn
  have hkn : k + 8 + m ≤ n := by omega
  have hlen : (b.take n).length = n := by rw [List.length_take]; omega
  rw [nextF_at b k hk] at he h4 h5 ⊢
  rw [nextF_at _ k (by omega), List.drop_take]
  have hl : (b.drop k).length = b.length - k := List.length_drop
  generalize b.drop k = rl at *
  have hrt : (rl.take (n - k)).length = n - k := by rw [List.length_take]; omega
  have hnum : num4 (rl.take (n - k)) = num4 rl := by
    unfold num4
    rw [nth_take _ _ _ (by omega), nth_take _ _ _ (by omega), nth_take _ _ _ (by omega), nth_take _ _ _ (by omega)]
  have hnum2 : num4 ((rl.take (n - k)).drop 4) = num4 (rl.drop 4) := by
    unfold num4
    simp only [nth_drop]
    rw [nth_take _ _ _ (by omega), nth_take _ _ _ (by omega), nth_take _ _ _ (by omega), nth_take _ _ _ (by omega)]
  have hm : m = num4 rl := by
    unfold nextR at h4 he
    split at he
    · exact absurd he (by simp)
    · rename_i q1
      split at he
      · exact absurd he (by simp)
      · rename_i q2
        split at he
        · exact absurd he (by simp)
        · rename_i q3
          split at he
          · exact absurd he (by simp)
          · rename_i q4
            rw [if_neg q1, if_neg q2, if_neg q3, if_neg q4] at h4
            dsimp only at h4
            omega
  have ht4 : (rl.take (n - k)).take 4 = rl.take 4 := by rw [List.take_take, Nat.min_eq_left (by omega)]
  have htp : ((rl.take (n - k)).drop 8).take (num4 rl) = (rl.drop 8).take (num4 rl) := by
    rw [List.drop_take, List.take_take, Nat.min_eq_left (by omega)]
  unfold nextR at he ⊢
  rw [hnum, hnum2, ht4, htp, hrt]
  split at he
  · exact absurd he (by simp)
  · rename_i q1
    split at he
    · exact absurd he (by simp)
    · rename_i q2
      split at he
      · exact absurd he (by simp)
      · rename_i q3
        rw [if_neg (by omega), if_neg q2, if_neg (by omega), if_neg q1, if_neg q2, if_neg q3]
theorem frNext_app (b c : List UInt8) (k : Nat) (hk : k ≤ b.length) (he : (nextF b (k : Int)).2.2 = 0) : nextF (b ++ c) (k : Int) = nextF b (k : Int) := by
  obtain ⟨m, h1, h2, h3, h4, h5⟩ := frNext_to b k hk he
  rw [nextF_at b k hk] at he h4 ⊢
  rw [nextF_at _ k (by rw [List.length_append]; omega), List.drop_append_of_le_length hk]
  have hl : (b.drop k).length = b.length - k := List.length_drop
  generalize b.drop k = rl at *
  have h8 : 8 + m ≤ rl.length := by omega
  have hnum : num4 (rl ++ c) = num4 rl := by
    unfold num4
    rw [nth_append_left _ _ _ (by omega), nth_append_left _ _ _ (by omega), nth_append_left _ _ _ (by omega), nth_append_left _ _ _ (by omega)]
  have hnum2 : num4 ((rl ++ c).drop 4) = num4 (rl.drop 4) := by
    unfold num4
    simp only [nth_drop]
    rw [nth_append_left _ _ _ (by omega), nth_append_left _ _ _ (by omega), nth_append_left _ _ _ (by omega), nth_append_left _ _ _ (by omega)]
  have hm : m = num4 rl := by
    unfold nextR at h4 he
    split at he
    · exact absurd he (by simp)
    · rename_i q1
      split at he
      · exact absurd he (by simp)
      · rename_i q2
        split at he
        · exact absurd he (by simp)
        · rename_i q3
          split at he
          · exact absurd he (by simp)
          · rename_i q4
            rw [if_neg q1, if_neg q2, if_neg q3, if_neg q4] at h4
            dsimp only at h4
            omega
  have ht4 : (rl ++ c).take 4 = rl.take 4 := List.take_append_of_le_length (by omega)
  have htp : ((rl ++ c).drop 8).take (num4 rl) = (rl.drop 8).take (num4 rl) := by
    rw [List.drop_append_of_le_length (by omega), List.take_append_of_le_length (by rw [List.length_drop]; omega)]
  unfold nextR at he ⊢
  rw [hnum, hnum2, ht4, htp, List.length_append]
  split at he
  · exact absurd he (by simp)
  · rename_i q1
    split at he
    · exact absurd he (by simp)
    · rename_i q2
      split at he
      · exact absurd he (by simp)
      · rename_i q3
        rw [if_neg (by omega), if_neg q2, if_neg (by omega), if_neg q1, if_neg q2, if_neg q3]
end Go.Proofs.YtmhojaiajhdlcaaGreat
namespace Go.Proofs.YtmhojaiajhdlcaaGreat
open Go.RowKit
set_option linter.unusedSimpArgs false
set_option linter.unusedVariables false
theorem bl_irr : ∀ a : List UInt8, Op.bytesLess a a = false
  | [] => rfl
  | x :: a => by simp [Op.bytesLess, bl_irr a]
theorem bl_cons (x y : UInt8) (a b : List UInt8) : Op.bytesLess (x :: a) (y :: b) = true ↔ x.toNat < y.toNat ∨ (x = y ∧ Op.bytesLess a b = true) := by
  simp [Op.bytesLess, UInt8.lt_iff_toNat_lt]
theorem bl_trans : ∀ a b c : List UInt8, Op.bytesLess a b = true → Op.bytesLess b c = true → Op.bytesLess a c = true
  | [], [], c, h, _ => by simp [Op.bytesLess] at h
  | [], _ :: _, [], _, h => by simp [Op.bytesLess] at h
  | [], _ :: _, _ :: _, _, _ => by simp [Op.bytesLess]
  | _ :: _, [], _, h, _ => by simp [Op.bytesLess] at h
  | _ :: _, _ :: _, [], _, h => by simp [Op.bytesLess] at h
  | x :: a, y :: b, z :: c, h, k => by
    rw [bl_cons] at h k ⊢
    rcases h with h | ⟨rfl, h⟩
    · rcases k with k | ⟨rfl, k⟩
      · exact .inl (by omega)
      · exact .inl h
    · rcases k with k | ⟨rfl, k⟩
      · exact .inl k
      · exact .inr ⟨rfl, bl_trans a b c h k⟩
theorem bl_tot : ∀ a b : List UInt8, Op.bytesLess a b = false → Op.bytesLess b a = false → a = b
  | [], [], _, _ => rfl
  | [], _ :: _, h, _ => by simp [Op.bytesLess] at h
  | _ :: _, [], _, h => by simp [Op.bytesLess] at h
  | x :: a, y :: b, h, k => by
    have h1 : ¬ (x.toNat < y.toNat ∨ (x = y ∧ Op.bytesLess a b = true)) := fun q => by rw [(bl_cons x y a b).2 q] at h; exact absurd h (by simp)
    have k1 : ¬ (y.toNat < x.toNat ∨ (y = x ∧ Op.bytesLess b a = true)) := fun q => by rw [(bl_cons y x b a).2 q] at k; exact absurd k (by simp)
    have e : x = y := UInt8.toNat_inj.1 (by omega)
    subst e
    have h2 : Op.bytesLess a b = false := by
      cases hq : Op.bytesLess a b with
      | false => rfl
      | true => exact absurd (.inr ⟨rfl, hq⟩) h1
    have k2 : Op.bytesLess b a = false := by
      cases hq : Op.bytesLess b a with
      | false => rfl
      | true => exact absurd (.inr ⟨rfl, hq⟩) k1
    rw [bl_tot a b h2 k2]
abbrev strLt (a b : ByteArray) : Bool := Op.bytesLess a.toList b.toList
theorem strOrd : KOrd strLt := ⟨fun a => bl_irr _, fun a b c => bl_trans _ _ _, fun a b h k => str_inj _ _ (bl_tot _ _ h k)⟩
instance : DecidableEq ByteArray := fun a b => decidable_of_iff (a.toList = b.toList) ⟨str_inj a b, fun h => by rw [h]⟩
end Go.Proofs.YtmhojaiajhdlcaaGreat
namespace Go.Proofs.YtmhojaiajhdlcaaGreat
open Go.RowKit
/-- A name is 1 to 32 bytes from 33 to 126. -/
def nameOk (s : ByteArray) : Bool := decide (1 ≤ s.size ∧ s.size ≤ 32 ∧ ∀ j (h : j < s.size), 33 ≤ (s[j]).toNat ∧ (s[j]).toNat ≤ 126)
end Go.Proofs.YtmhojaiajhdlcaaGreat
