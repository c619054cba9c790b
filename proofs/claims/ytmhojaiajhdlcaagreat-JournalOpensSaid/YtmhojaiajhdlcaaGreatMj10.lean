/- Texts of the proof, joined: The document's disk: one raw write, kept. The document's own look at a name. The document's disk: Rename, Remove, SetMark. The document's disk: Cut, SetMark, Read. The document's disk: SetMark, Total, Names. The document's disk: Back. The document's disk: new bytes, put. The document's disk: Append. Chapter 24 as plain law: the slots from one on; the document's journal in memory. Chapter 24: the document's journal: changes hold. Chapter 2: the document's Num, Text, Flag. Chapter 24: the document's put: changes as a payload. -/
import Derived.Test.YtmhojaiajhdlcaaGreatMj9
import Derived.Deep.RegionLaw
import Derived.Deep.RegionWith
import Derived.Test.YtmhojaiajhdlcaaGreatRows
import Derived.Test.YtmhojaiajhdlcaaGreatMj3
import Derived.Test.YtmhojaiajhdlcaaGreatMj1
import Derived.Test.YtmhojaiajhdlcaaGreatMj6
import Derived.Test.YtmhojaiajhdlcaaGreatMj7
import Derived.Test.YtmhojaiajhdlcaaGreatMj2
import Derived.Deep.RegionHeld3
namespace Go.Proofs.YtmhojaiajhdlcaaGreat
open Go.RowKit
set_option linter.unusedSimpArgs false
set_option linter.unusedVariables false
theorem infoROp : (Tryz.prog.info? 119).map (fun i => (i.zero, i.size, i.bytes)) = some (some (.agg #[.int .i64 0, .string ⟨#[]⟩, .string ⟨#[]⟩, .slice none 0 0, .int .i64 0]), 5, 72) := by kernel_rfl
theorem undROp : Tryz.prog.underlying 43 = some (.slice 119) := by kernel_rfl
section
variable {w0 w w' : World} {gr : Nat} {R : List Nat} {nv mv : Sl} {ln lm : List OW} {ov : Value} {ops : List LW}
theorem RC.setNow (h : RC w0 w gr R nv mv ln lm ov ops) {R' : List Nat} {nv' : Sl} {l' : List OW} (h2 : RL w' R' (slv nv') l') (hu : Upd [] w w') (hR : ∀ x ∈ R, x ∈ R') (hR' : ∀ x ∈ R', x ∈ R ∨ (w.heap.size ≤ x ∧ x < w'.heap.size)) :
    RC w0 (w'.setCell ⟨gr, 0, none⟩ (slv nv')) gr R' nv' mv l' lm ov ops := by
  have hst : Upd [gr] w' (w'.setCell ⟨gr, 0, none⟩ (slv nv')) := (Upd.refl [gr] _).setCell _ _ (.inl (by simp))
  have hl := h.dk.lt
  have hgR : gr ∉ R' := fun hx => by
    rcases hR' gr hx with q | q
    · exact h.grR q
    · omega
  have hn : ∀ x ∈ R', x ∉ [gr] := fun x hx hy => by simp at hy; subst hy; exact hgR hx
  have hb := (h.dk.upd hu (by simp)).set_ 0 (slv nv')
  have hall : Upd [gr] w (w'.setCell ⟨gr, 0, none⟩ (slv nv')) := hu.trans hst (by simp) (fun x hx => .inl hx)
  have hm := (h.mark.upd0 hu).upd hst (fun x hx hy => hn x (hR x hx) hy)
  have hsz := hu.size
  refine ⟨hb, h.grb, hgR, h2.upd hst hn, ⟨hm.row, fun x hx => hR x (hm.vR x hx), hm.dat, fun c hc x hx => hR x (hm.dR c hc x hx), hm.ris⟩, h.opw.upd hall (fun x hx hy => h.nops (by simp at hy; rw [← hy]; exact hx)), fun x hx => (h.odat x hx).upd hall (fun y hy hy' => h.grR (by simp at hy'; rw [← hy']; exact h.oR x hx y hy)), fun x hx y hy => hR y (h.oR x hx y hy), fun x hx hy => ?_, h.old.trans hall (by simp) (fun x hx => .inr (by simp at hx; subst hx; exact h.grb)), fun x hx => ?_⟩
  · rcases hR' x hy with q | q
    · exact h.oap x hx q
    · have := (h.opw.ge x hx).2; omega
  · rcases hR' x hx with q | q
    · have := h.Rlt x q; exact ⟨this.1, by simp; omega⟩
    · have := h.old.size; exact ⟨by omega, by simpa using q.2⟩
set_option maxRecDepth 20000 in
set_option maxHeartbeats 4000000 in
theorem rDoC_any (x : Wr) (sl : Sl) (h : RC w0 w gr R nv mv ln lm ov ops) (hx : WrOk x (dfOf ln)) (ht : dTotal (dfOf ln) ≤ 16777216) (hp : Bytes w (slv sl) x.p) (hpR : ∀ y ∈ blk (slv sl), y ∈ R) (hl : ops.length ≤ 1000000000) :
    Calls Tryz.prog 71 #[.pointer (some ⟨gr, 0, none⟩), wrv x sl] w fun e w' => e = .returned (.tuple #[]) ∧ ∃ R' nv' ln' ov', RC w0 w' gr R' nv' mv ln' lm ov' (ops ++ [(x, sl)]) ∧ dfOf ln' = wApply x (dfOf ln) ∧ Upd (rfoot gr R ov) w w' ∧ (∀ y ∈ rfoot gr R' ov', y ∈ rfoot gr R ov ∨ w.heap.size ≤ y) := by
  obtain ⟨ao, co, rfl, hlc, hcm, -⟩ := h.opw.rd lwCells_len
  obtain ⟨kd, nm, tn, p, n⟩ := x
  obtain ⟨pa, pn, pk⟩ := sl
  obtain ⟨na, nn, nk⟩ := nv
  have hu1 : Upd [] w (w.alloc (.cells #[.int .i64 kd, sv nm, sv tn, .slice pa pn pk, .int .i64 n] 119)) := (Upd.refl [] w).alloc _
  have H1 := Lib.hid (h.upd0 hu1)
  have HBX := Lib.hid (Blk.new w 119 [.int .i64 kd, sv nm, sv tn, .slice pa pn pk, .int .i64 n])
  have HGE := Lib.hid h.ge
  have HX := Lib.hid hx
  have HT := Lib.hid ht
  have HP : Hid (Bytes (w.alloc (.cells #[.int .i64 kd, sv nm, sv tn, .slice pa pn pk, .int .i64 n] 119)) (.slice pa pn pk) p) := Rd.upd0 hp hu1
  have HPR := Lib.hid hpR
  have HU1 := Lib.hid hu1
  have hgr : gr < w.heap.size := h.dk.lt
  clear h hx hp hu1 ht hpR
  go_enter Tryz.func71, Tryz.ntmps71
  go_wp2_with fail
  have d0 := HBX.out.cell 0
  have d1 := HBX.out.cell 1
  have d2 := HBX.out.cell 2
  have d3 := HBX.out.cell 3
  have d4 := HBX.out.cell 4
  simp only [List.getElem?_cons_zero, List.getElem?_cons_succ] at d0 d1 d2 d3 d4
  have HW1 : Hid (w.heap.size < (w.alloc (.cells #[.int .i64 kd, sv nm, sv tn, .slice pa pn pk, .int .i64 n] 119)).heap.size) := HBX.out.lt
  generalize w.alloc (.cells #[.int .i64 kd, sv nm, sv tn, .slice pa pn pk, .int .i64 n] 119) = w1 at *
  have c0 : w1.cell? ⟨gr, 0, none⟩ = some (.slice na nn nk) := H1.out.dk.cell 0
  have hpp : Bytes w1 (slv ⟨pa, pn, pk⟩) p := HP.out
  have HMD := Lib.hid (fun (W : World) (hW : Upd [] w1 W) => rMade_any ⟨kd, nm, tn, p, n⟩ ⟨pa, pn, pk⟩ (H1.out.now.upd0 hW) HX.out (Rd.upd0 hpp hW) HT.out)
  clear hpp
  go_region_with (first
    | (go_at_call 80; (with_reducible refine (HMD.out _ ?_).mono ?_); (repeat (first | exact Upd.refl _ _ | apply Upd.drew)); (rintro e w2 ⟨v2, R2, l2, rfl, h2, ho2, hd2, hu2, hR2, hR2', hne2⟩; obtain ⟨a2, k2, rfl, -⟩ := ho2.rd owCells_len; have hu3 := (Upd.refl [] w1).drew.seq hu2; have hdk2 := H1.out.dk.upd hu3 (by simp); have c2 : w2.cell? ⟨gr, 0, none⟩ = some (.slice na nn nk) := hdk2.cell 0; have f2 := hdk2.frozen 0; dsimp only)))
  all_goals
    have H3 := Lib.hid (H1.out.setNow (nv' := ⟨a2, l2.length, k2⟩) h2 hu3 hR2 (fun x hx => (hR2' x hx).imp id (fun q => ⟨q.1, q.2⟩)))
    have hb3 : Blk (w2.setCell ⟨gr, 0, none⟩ (.slice a2 l2.length k2)) w.heap.size 119 [.int .i64 kd, sv nm, sv tn, .slice pa pn pk, .int .i64 n] := (HBX.out.upd hu3 (by simp)).upd ((Upd.refl [gr] w2).setCell _ _ (.inl (by simp))) (by simp; omega)
    have HU3 : Hid (Upd [gr] w (w2.setCell ⟨gr, 0, none⟩ (.slice a2 l2.length k2))) := (HU1.out.seq hu3).trans ((Upd.refl [gr] w2).setCell _ _ (.inl (by simp))) (by simp) (fun x hx => .inl hx)
    have HD2 := Lib.hid hd2
    have HR3 : Hid (∀ x ∈ R2, x ∈ R ∨ w.heap.size ≤ x) := fun x hx => (hR2' x hx).imp id (fun q => by have h1 := q.1; have h2 := HU1.out.size; have h3 : w1.drew.heap.size = w1.heap.size := rfl; omega)
    have HRR := Lib.hid hR2
    have HPX : Hid (Bytes (w2.setCell ⟨gr, 0, none⟩ (.slice a2 l2.length k2)) (.slice pa pn pk) p) := (HP.out.upd0 hu3).upd ((Upd.refl [gr] w2).setCell _ _ (.inl (by simp))) (fun y hy hy' => H1.out.grR (by simp at hy'; rw [← hy']; exact HPR.out y hy))
    clear h2 ho2 hd2 hu2 hR2 hR2' hne2 hu3 hdk2 c2 f2 c0 d0 d1 d2 d3 d4 HMD HBX H1
    generalize w2.setCell ⟨gr, 0, none⟩ (.slice a2 l2.length k2) = w3 at *
    have d0 := hb3.cell 0
    have d1 := hb3.cell 1
    have d2 := hb3.cell 2
    have d3 := hb3.cell 3
    have d4 := hb3.cell 4
    simp only [List.getElem?_cons_zero, List.getElem?_cons_succ] at d0 d1 d2 d3 d4
    have c2 : w3.cell? ⟨gr, 2, none⟩ = some (.slice ao ops.length co) := H3.out.dk.cell 2
    have f2 : w3.frozen? ⟨gr, 2, none⟩ = false := H3.out.dk.frozen 2
    have c2' : (w3.alloc (Obj.cells #[.int .i64 kd, sv nm, sv tn, .slice pa pn pk, .int .i64 n] 119)).cell? ⟨gr, 2, none⟩ = some (.slice ao ops.length co) := ((Upd.refl [] w3).alloc _).cell c2 (by simp)
    have hua : Upd [] w3 (w3.drew.alloc (.cells #[.int .i64 kd, sv nm, sv tn, .slice pa pn pk, .int .i64 n] 119)) := (Upd.refl [] w3).drew.alloc _
    have HUA := Lib.hid hua
    have HOW := H3.out.opw.upd hua (by simp)
    have hnewb : Blk (w3.drew.alloc (.cells #[.int .i64 kd, sv nm, sv tn, .slice pa pn pk, .int .i64 n] 119)) w3.heap.size 119 [.int .i64 kd, sv nm, sv tn, .slice pa pn pk, .int .i64 n] := Blk.new w3.drew _ _
    have HRD : RdN 5 lwCells (w3.drew.alloc (.cells #[.int .i64 kd, sv nm, sv tn, .slice pa pn pk, .int .i64 n] 119)) (.slice (some ⟨w3.heap.size, 0, none⟩) 1 1) [(⟨kd, nm, tn, p, n⟩, ⟨pa, pn, pk⟩)] := by
      refine ⟨_, 1, rfl, by simp, by simp [maxLen], fun _ => ⟨w3.heap.size, 0, rfl, fun j hj i hi => ?_⟩⟩
      have hj0 : j = 0 := by simpa using hj
      subst hj0
      rw [Nat.zero_mul, Nat.zero_add, Nat.zero_add, hnewb.cell]; rfl
    have hbs : w0.heap.size ≤ (w3.drew.alloc (.cells #[.int .i64 kd, sv nm, sv tn, .slice pa pn pk, .int .i64 n] 119)).heap.size := (H3.out.old.seq hua).size
    have HRUN := Lib.hid (fun ty => run_appN (P := Tryz.prog) (ty := ty) lwCells_len (by decide) lwCells_one undROp infoROp rfl _ _ ops [(⟨kd, nm, tn, p, n⟩, ⟨pa, pn, pk⟩)] HOW HRD (by simp; omega) (by simp [maxLen]; omega) hbs)
    have HDK := Lib.hid (H3.out.dk.upd hua (by simp))
    have HGL := Lib.hid H3.out.nops
    clear hua HOW hnewb HRD hbs hb3
    go_wp2_with fail
    go_region_law (first | ((with_reducible refine step_app_of rfl (.tmp 17) (.tmp 19) rfl (.slice ao ops.length co) (.slice (some ⟨w3.heap.size, 0, none⟩) 1 1) rfl rfl (HRUN.out _) ?_); (rintro v4 w4 ⟨ho4, hu4, hk4⟩; obtain ⟨⟨a4, n4, k4⟩, rfl⟩ := ownN_sl ho4; have hb4 := HDK.out.upd hu4 HGL.out; have c4 : w4.cell? ⟨gr, 2, none⟩ = some (.slice ao ops.length co) := hb4.cell 2; have f4 := hb4.frozen 2; have HB4 := Lib.hid hb4; have HO4 := Lib.hid ho4; have HU4 := Lib.hid hu4; have HK4 := Lib.hid hk4; clear ho4 hu4 hk4 hb4; dsimp only)))
    all_goals
      go_end0
      have hset : Upd [gr] w4 (w4.setCell ⟨gr, 2, none⟩ (.slice a4 n4 k4)) := (Upd.refl [gr] w4).setCell _ _ (.inl (by simp))
      have hlt := H3.out.dk.lt
      have hgv : gr ∉ blk (.slice a4 n4 k4) := fun hy => by
        rcases HK4.out _ hy with q | q
        · exact HGL.out q
        · have := HUA.out.size; omega
      have hw4 : Upd (blk (Value.slice ao ops.length co)) w3 w4 := HUA.out.trans HU4.out (by simp) (fun y hy => .inl hy)
      have hall : Upd (gr :: blk (Value.slice ao ops.length co)) w3 (w4.setCell ⟨gr, 2, none⟩ (.slice a4 n4 k4)) := hw4.trans hset (fun y hy => by simp [hy]) (fun y hy => .inl (by simp at hy; simp [hy]))
      have hRS : ∀ x ∈ R2, x ∉ gr :: blk (Value.slice ao ops.length co) := fun x hx hy => by
        rcases List.mem_cons.1 hy with rfl | q
        · exact H3.out.grR hx
        · exact H3.out.oap x q hx
      have hsz : w3.heap.size ≤ (w4.setCell ⟨gr, 2, none⟩ (.slice a4 n4 k4)).heap.size := hall.size
      refine ⟨rfl, R2, ⟨a2, l2.length, k2⟩, l2, .slice a4 n4 k4, ⟨HB4.out.set_ 2 _, H3.out.grb, H3.out.grR, H3.out.now.upd hall hRS, H3.out.mark.upd hall hRS, ?_, ?_, ?_, ?_, ?_, ?_⟩, HD2.out, ?_, ?_⟩
      · exact HO4.out.upd hset (fun x hx hy => hgv (by simp at hy; rw [← hy]; exact hx))
      · intro y hy
        rcases List.mem_append.1 hy with q | q
        · exact (H3.out.odat y q).upd hall (fun z hz => hRS z (H3.out.oR y q z hz))
        · simp at q; subst q; exact HPX.out.upd hall (fun z hz => hRS z (HRR.out z (HPR.out z hz)))
      · intro y hy z hz
        rcases List.mem_append.1 hy with q | q
        · exact H3.out.oR y q z hz
        · simp at q; subst q; exact HRR.out z (HPR.out z hz)
      · intro x hx hy
        rcases HK4.out x hx with q | q
        · exact H3.out.oap x q hy
        · have h1 := (H3.out.Rlt x hy).2; have := HUA.out.size; omega
      · refine H3.out.old.trans hall (by simp) (fun x hx => .inr ?_)
        rcases List.mem_cons.1 hx with rfl | q
        · exact H3.out.grb
        · exact (H3.out.opw.ge x q).1
      · exact fun x hx => ⟨(H3.out.Rlt x hx).1, by have := (H3.out.Rlt x hx).2; omega⟩
      · refine HU3.out.trans hall (fun y hy => (rfoot_mem _ _ _ _).2 (.inl (by simpa using hy))) (fun y hy => .inl ?_)
        rcases List.mem_cons.1 hy with rfl | q
        · exact (rfoot_mem _ _ _ _).2 (.inl rfl)
        · exact (rfoot_mem _ _ _ _).2 (.inr (.inr q))
      · intro y hy
        have h1 := HU3.out.size
        rcases (rfoot_mem _ _ _ _).1 hy with rfl | q | q
        · exact .inl ((rfoot_mem _ _ _ _).2 (.inl rfl))
        · exact (HR3.out y q).imp (fun q => (rfoot_mem _ _ _ _).2 (.inr (.inl q))) id
        · exact (HK4.out y q).imp (fun q => (rfoot_mem _ _ _ _).2 (.inr (.inr q))) (fun q => by have := HUA.out.size; omega)
end
end Go.Proofs.YtmhojaiajhdlcaaGreat
namespace Go.Proofs.YtmhojaiajhdlcaaGreat
open Go.RowKit
set_option linter.unusedSimpArgs false
set_option linter.unusedVariables false
theorem neE (s : ByteArray) (h : ¬ s.size < 1) : (s.toList == ([] : List UInt8)) = false := by
  rw [beq_eq_false_iff_ne, strList_eq]
  intro q
  have := congrArg List.length q
  rw [Array.length_toList] at this
  have : s.size = 0 := this
  omega
set_option maxRecDepth 20000 in
set_option maxHeartbeats 1000000 in
theorem rName_any (w : World) (s : ByteArray) :
    Calls Tryz.prog 68 #[sv s] w fun e w' => e = .returned (.bool (nameOk s)) ∧ w = w' := by
  by_cases h1 : s.size < 1
  · have HN : Hid (nameOk s = false) := by unfold Hid nameOk; simp; omega
    obtain rfl : s = ⟨#[]⟩ := str_inj _ _ (by rw [strList_eq, strList_eq]; exact List.eq_nil_of_length_eq_zero (by rw [Array.length_toList]; show s.size = 0; omega))
    go_enter Tryz.func68, Tryz.ntmps68
    go_wp2_with fail
    go_ret
    exact ⟨by rw [HN.out]; rfl, rfl⟩
  · by_cases h2 : s.size ≤ 32
    · have q : (s.toList == ([] : List UInt8)) = false := neE s h1
      have q' : ¬ (32 : Int) < s.size := by omega
      go_enter Tryz.func68, Tryz.ntmps68
      go_wp2_with fail
      go_loopw [3] (fun i wr => ∃ k : Nat, k ≤ s.size ∧ i = .int .i64 k ∧ w = wr ∧ Hid (∀ j (h : j < s.size), j < k → 33 ≤ (s[j]).toNat ∧ (s[j]).toNat ≤ 126)) (fun i _ => s.size - (intOf i).toNat)
      case atStart => exact ⟨0, Nat.zero_le _, rfl, rfl, fun j _ h => absurd h (by omega)⟩
      case round =>
        obtain ⟨k, hk, rfl, rfl, hh⟩ := hrel
        by_cases hlt : k < s.size
        · have q0 : (0 : Int) ≤ k := by omega
          have q1 : (k : Int) < s.size := by omega
          by_cases hb : 33 ≤ (s[k]).toNat ∧ (s[k]).toNat ≤ 126
          · have hb1 : ¬ ((s[k]).toNat : Int) < 33 := by omega
            have hb2 : ¬ (126 : Int) < ((s[k]).toNat : Int) := by omega
            have HH : Hid (∀ j (h : j < s.size), j < k + 1 → 33 ≤ (s[j]).toNat ∧ (s[j]).toNat ≤ 126) := fun j hj hjk => by
              rcases Nat.lt_or_eq_of_le (Nat.le_of_lt_succ hjk) with h | h
              · exact hh.out j hj h
              · subst h; exact hb
            clear hb
            go_wp2_with fail
            go_roundw
            case rel => exact ⟨k + 1, by omega, by go_num, by first | trivial | rfl, HH⟩
            case measure => simp [intOf]; omega
          · have HN : Hid (nameOk s = false) := by
              unfold Hid nameOk
              exact decide_eq_false (fun h => hb (h.2.2 k hlt))
            have hd : ((s[k]).toNat : Int) < 33 ∨ (¬ ((s[k]).toNat : Int) < 33 ∧ (126 : Int) < ((s[k]).toNat : Int)) := by omega
            clear hb
            rcases hd with hb1 | ⟨hb1, hb2⟩
            all_goals
              go_wp2_with fail
              go_ret
              exact ⟨by rw [HN.out]; rfl, rfl⟩
        · obtain rfl : k = s.size := by omega
          have HN : Hid (nameOk s = true) := by
            unfold Hid nameOk
            exact decide_eq_true ⟨by omega, by omega, fun j hj => hh.out j hj hj⟩
          go_wp2_with fail
          go_ret
          exact ⟨by rw [HN.out]; rfl, rfl⟩
    · have HN : Hid (nameOk s = false) := by unfold Hid nameOk; exact decide_eq_false (fun h => h2 h.2.1)
      have q : (s.toList == ([] : List UInt8)) = false := neE s h1
      have q' : (32 : Int) < s.size := by omega
      go_enter Tryz.func68, Tryz.ntmps68
      go_wp2_with fail
      go_ret
      exact ⟨by rw [HN.out]; rfl, rfl⟩
end Go.Proofs.YtmhojaiajhdlcaaGreat
namespace Go.Proofs.YtmhojaiajhdlcaaGreat
open Go.RowKit
set_option linter.unusedSimpArgs false
set_option linter.unusedVariables false
section
variable {w0 w w' : World} {gr : Nat} {G : List Nat} {s : DS}
/-- What a call on the document's disk answers, and the disk behind it. -/
def RAns (w0 w : World) (gr : Nat) (G : List Nat) (r : Int × DS) (e : Ending) (w' : World) : Prop := e = .returned (.int .i64 r.1) ∧ ROut w0 w gr G r.2 w'
theorem rDo_any (x : Wr) (h : RD w0 w gr G s) (hx : WrOk x s.now) (hp : x.p = []) (hl : s.log.length ≤ 1000000000) :
    Calls Tryz.prog 71 #[.pointer (some ⟨gr, 0, none⟩), wrv x ⟨none, 0, 0⟩] w fun e w' => e = .returned (.tuple #[]) ∧ ROut w0 w gr G (dDo x s) w' := by
  obtain ⟨R, nv, mv, ln, lm, ov, ops, hc, rfl, ho, rfl⟩ := h.ex
  refine (rDoC_any x ⟨none, 0, 0⟩ hc hx ho.tot (by rw [hp]; exact Rd.nil _) (by simp [blk]) (by simpa using hl)).mono ?_
  rintro e w' ⟨rfl, R', nv', ln', ov', h1, h3, h4, h5⟩
  exact ⟨rfl, _, ⟨R', nv', mv, ln', lm, ov', _, h1, by unfold dDo; rw [h3]; simp, ho.do_ hx, rfl⟩, h4, h5⟩
/-- The look for a name, as the calls begin. -/
theorem RD.look (h : RD w0 w gr G s) (nm : ByteArray) (hl : s.now.length ≤ 5000) : ∃ (na : Option Addr) (nn nk : Nat) (ln : List OW) (R : List Nat), w.cell? ⟨gr, 0, none⟩ = some (.slice na nn nk) ∧ RL w R (.slice na nn nk) ln ∧ dfOf ln = s.now ∧
    ∀ W, Upd [] w W → Calls Tryz.prog 70 #[.slice na nn nk, sv nm] W fun e w' => e = .returned (.int .i64 (if inD s.now nm then (below strLt ln nm : Int) else -1)) ∧ Upd [] W w' := by
  obtain ⟨R, ⟨na, nn, nk⟩, mv, ln, lm, ov, ops, hc, rfl, ho, rfl⟩ := h.ex
  refine ⟨na, nn, nk, ln, R, hc.dk.cell 0, hc.now, rfl, fun W hW => ?_⟩
  have h1 := rdAt_any W _ ln nm ((hc.now.upd0 hW).row) hc.now.ris (by rw [df_len] at hl; omega)
  unfold atI at h1
  rw [isIn_dfOf] at h1
  exact h1
set_option maxRecDepth 20000 in
set_option maxHeartbeats 1000000 in
theorem rRename_any (nm tn : ByteArray) (h : RD w0 w gr G s) (hn : s.now.length ≤ 5000) (hl : s.log.length ≤ 1000000000) :
    Calls Tryz.prog 114 #[.pointer (some ⟨gr, 0, none⟩), sv nm, sv tn] w (RAns w0 w gr G (dRename s nm tn)) := by
  obtain ⟨na, nn, nk, ln, R, c0, -, -, hget⟩ := h.look nm hn
  have HG := Lib.hid (hget w (Upd.refl _ _))
  have HD := Lib.hid h
  have HL := Lib.hid hl
  have HNL := Lib.hid hn
  clear hget h hl hn
  cases hok : nameOk tn with
  | false =>
    have HR : Hid (dRename s nm tn = (14, s)) := by unfold Hid dRename; rw [hok]; rfl
    have HOK := Lib.hid hok
    clear hok
    go_enter Tryz.func114, Tryz.ntmps114
    go_wp2_with fail
    (with_reducible refine (rName_any w tn).mono ?_)
    rw [HOK.out]
    rintro e w1 ⟨rfl, rfl⟩
    go_wp2_with fail
    go_ret
    exact ⟨by rw [HR.out]; rfl, by rw [HR.out]; exact HD.out.out0 (Upd.refl _ _)⟩
  | true =>
    have HOK := Lib.hid hok
    cases hin : inD s.now nm with
    | false =>
      have HR : Hid (dRename s nm tn = (7, s)) := by unfold Hid dRename; rw [hok, hin]; rfl
      rw [hin, if_neg (by simp)] at HG
      clear hok hin
      go_enter Tryz.func114, Tryz.ntmps114
      go_wp2_with fail
      (with_reducible refine (rName_any w tn).mono ?_)
      rw [HOK.out]
      rintro e w1 ⟨rfl, rfl⟩
      go_wp2_with fail
      (with_reducible refine HG.out.mono ?_)
      rintro e w2 ⟨rfl, hu2⟩
      have HU2 := Lib.hid hu2
      clear hu2
      go_wp2_with fail
      go_ret
      exact ⟨by rw [HR.out]; rfl, by rw [HR.out]; exact HD.out.out0 HU2.out⟩
    | true =>
      have HR : Hid (dRename s nm tn = (0, dDo (wRen nm tn) s)) := by unfold Hid dRename; rw [hok, hin]; rfl
      have HW := Lib.hid (HD.out.ok.ren nm tn hin HNL.out).1
      rw [hin, if_pos rfl] at HG
      have z : ¬ ((below strLt ln nm : Nat) : Int) < 0 := by omega
      clear hok hin
      generalize below strLt ln nm = k at *
      go_enter Tryz.func114, Tryz.ntmps114
      go_wp2_with fail
      (with_reducible refine (rName_any w tn).mono ?_)
      rw [HOK.out]
      rintro e w1 ⟨rfl, rfl⟩
      go_wp2_with fail
      (with_reducible refine HG.out.mono ?_)
      rintro e w2 ⟨rfl, hu2⟩
      have HU2 := Lib.hid hu2
      clear hu2
      go_wp2_with fail
      (with_reducible refine (rDo_any (wRen nm tn) (HD.out.upd0 HU2.out) HW.out rfl HL.out).mono ?_)
      rintro e w3 ⟨rfl, ho⟩
      have HO := Lib.hid ho
      clear ho
      go_wp2_with fail
      go_ret
      exact ⟨by rw [HR.out]; rfl, by rw [HR.out]; exact HO.out.later HU2.out⟩
set_option maxRecDepth 20000 in
set_option maxHeartbeats 1000000 in
theorem rRemove_any (nm : ByteArray) (h : RD w0 w gr G s) (hn : s.now.length ≤ 5000) (hl : s.log.length ≤ 1000000000) :
    Calls Tryz.prog 93 #[.pointer (some ⟨gr, 0, none⟩), sv nm] w (RAns w0 w gr G (dRemove s nm)) := by
  obtain ⟨na, nn, nk, ln, R, c0, -, -, hget⟩ := h.look nm hn
  have HG := Lib.hid (hget w (Upd.refl _ _))
  have HD := Lib.hid h
  have HL := Lib.hid hl
  have HNL := Lib.hid hn
  clear hget h hl hn
  cases hin : inD s.now nm with
  | false =>
    have HR : Hid (dRemove s nm = (7, s)) := by unfold Hid dRemove; rw [hin]; rfl
    rw [hin, if_neg (by simp)] at HG
    clear hin
    go_enter Tryz.func93, Tryz.ntmps93
    go_wp2_with fail
    (with_reducible refine HG.out.mono ?_)
    rintro e w2 ⟨rfl, hu2⟩
    have HU2 := Lib.hid hu2
    clear hu2
    go_wp2_with fail
    go_ret
    exact ⟨by rw [HR.out]; rfl, by rw [HR.out]; exact HD.out.out0 HU2.out⟩
  | true =>
    have HR : Hid (dRemove s nm = (0, dDo (wRem nm) s)) := by unfold Hid dRemove; rw [hin]; rfl
    have HW := Lib.hid (HD.out.ok.rem nm hin HNL.out).1
    rw [hin, if_pos rfl] at HG
    have z : ¬ ((below strLt ln nm : Nat) : Int) < 0 := by omega
    clear hin
    generalize below strLt ln nm = k at *
    go_enter Tryz.func93, Tryz.ntmps93
    go_wp2_with fail
    (with_reducible refine HG.out.mono ?_)
    rintro e w2 ⟨rfl, hu2⟩
    have HU2 := Lib.hid hu2
    clear hu2
    go_wp2_with fail
    (with_reducible refine (rDo_any (wRem nm) (HD.out.upd0 HU2.out) HW.out rfl HL.out).mono ?_)
    rintro e w3 ⟨rfl, ho⟩
    have HO := Lib.hid ho
    clear ho
    go_wp2_with fail
    go_ret
    exact ⟨by rw [HR.out]; rfl, by rw [HR.out]; exact HO.out.later HU2.out⟩
end
end Go.Proofs.YtmhojaiajhdlcaaGreat
namespace Go.Proofs.YtmhojaiajhdlcaaGreat
open Go.RowKit
set_option linter.unusedSimpArgs false
set_option linter.unusedVariables false
section
variable {w0 w w' : World} {gr : Nat} {G : List Nat} {s : DS}
/-- A row that is there: its cells. -/
theorem RL.at_ {w : World} {R : List Nat} {na : Option Addr} {nn nk : Nat} {l : List OW} (h : RL w R (.slice na nn nk) l) (nm : ByteArray) (hin : inD (dfOf l) nm = true) :
    ∃ (lb loff : Nat) (da : Option Addr) (dn dk : Nat), na = some ⟨lb, loff, none⟩ ∧ below strLt l nm < nn ∧ nn ≤ nk ∧ nk ≤ maxLen ∧ w.cell? ⟨lb, loff + below strLt l nm * 2 + 1, none⟩ = some (.slice da dn dk) ∧ Bytes w (.slice da dn dk) (dGet (dfOf l) nm).1 ∧ dn = (dGet (dfOf l) nm).1.length ∧ (∀ x ∈ blk (.slice da dn dk), x ∈ R) := by
  have hin2 : isIn strLt l nm = true := by rw [isIn_dfOf]; exact hin
  have hg := get_df l nm hin2
  have hin3 := hin2
  unfold isIn at hin3
  obtain ⟨hk, -⟩ := of_decide_eq_true hin3
  obtain ⟨a', c', he, h1, h2, hc⟩ := h.row
  obtain ⟨lb, loff, e2, hc⟩ := hc (by intro q; rw [q] at hk; simp at hk)
  have e1 := (Value.slice.inj he).1
  have e3 := (Value.slice.inj he).2.1
  have e4 := (Value.slice.inj he).2.2
  have hm : nth l (below strLt l nm) ∈ l := by rw [nth_get l _ hk]; exact List.getElem_mem _
  have hb := h.dat _ hm
  have hR := h.dR _ hm
  have hcell := hc (below strLt l nm) hk 1 (by omega)
  rw [hg]
  dsimp only
  generalize nth l (below strLt l nm) = x at *
  obtain ⟨xn, ⟨da, dn, dk⟩, d⟩ := x
  refine ⟨lb, loff, da, dn, dk, e1.trans e2, by rw [e3]; exact hk, by rw [e3, e4]; exact h1, by rw [e4]; exact h2, hcell, hb, ?_, hR⟩
  obtain ⟨a2, c2, he2, -⟩ := hb
  exact (Value.slice.inj he2).2.1
set_option maxRecDepth 20000 in
set_option maxHeartbeats 1000000 in
theorem rCut_any (nm : ByteArray) (n : Int) (hi : I64 n) (h : RD w0 w gr G s) (hn : s.now.length ≤ 5000) (hl : s.log.length ≤ 1000000000) :
    Calls Tryz.prog 77 #[.pointer (some ⟨gr, 0, none⟩), sv nm, .int .i64 n] w (RAns w0 w gr G (dCut s nm n)) := by
  obtain ⟨na, nn, nk, ln, R, c0, hrl, hdf, hget⟩ := h.look nm hn
  have HG := Lib.hid (hget w (Upd.refl _ _))
  have HD := Lib.hid h
  have HL := Lib.hid hl
  have HNL := Lib.hid hn
  have HRL := Lib.hid hrl
  have HDF := Lib.hid hdf
  clear hget h hl hn hrl hdf
  cases hin : inD s.now nm with
  | false =>
    have HR : Hid (dCut s nm n = (7, s)) := by unfold Hid dCut; rw [hin]; rfl
    rw [hin, if_neg (by simp)] at HG
    clear hin
    go_enter Tryz.func77, Tryz.ntmps77
    go_wp2_with fail
    (with_reducible refine HG.out.mono ?_)
    rintro e w2 ⟨rfl, hu2⟩
    have HU2 := Lib.hid hu2
    clear hu2
    go_wp2_with fail
    go_ret
    exact ⟨by rw [HR.out]; rfl, by rw [HR.out]; exact HD.out.out0 HU2.out⟩
  | true =>
    obtain ⟨lb, loff, da, dn, dk, rfl, hk, hnk, hnm, hcell, hby, hdn, -⟩ := HRL.out.at_ nm (by rw [HDF.out]; exact hin)
    rw [HDF.out] at hdn
    have HDN := Lib.hid hdn
    rw [hin, if_pos rfl] at HG
    have z : ¬ ((below strLt ln nm : Nat) : Int) < 0 := by omega
    have z0 : (0 : Int) ≤ (below strLt ln nm : Nat) := by omega
    have z1 : ((below strLt ln nm : Nat) : Int) < nn := by omega
    have hnn : nn ≤ 9223372036854775807 := by unfold maxLen at hnm; omega
    have CC := Lib.hid hcell
    have C0 := Lib.hid c0
    clear hby hdn hcell c0 hnm
    generalize below strLt ln nm = k at *
    by_cases hbad : n < 0 ∨ (dn : Int) < n
    · have HR : Hid (dCut s nm n = (1, s)) := by unfold Hid dCut; rw [hin, ← HDN.out, if_pos rfl, if_pos hbad]
      clear hin
      rcases (show n < 0 ∨ (¬ n < 0 ∧ (dn : Int) < n) by omega) with q | ⟨q, q2⟩
      all_goals
        clear hbad
        go_enter Tryz.func77, Tryz.ntmps77
        have c0 := C0.out
        go_wp2_with fail
        (with_reducible refine HG.out.mono ?_)
        rintro e w2 ⟨rfl, hu2⟩
        have HU2 := Lib.hid hu2
        have c1 := hu2.cell C0.out (by simp)
        have c2 := hu2.cell CC.out (by simp)
        clear hu2
        go_wp2_with fail
        go_ret
        exact ⟨by rw [HR.out]; rfl, by rw [HR.out]; exact HD.out.out0 HU2.out⟩
    · have HR : Hid (dCut s nm n = (0, dDo (wCut nm n) s)) := by unfold Hid dCut; rw [hin, ← HDN.out, if_pos rfl, if_neg hbad]
      have HW := Lib.hid (HD.out.ok.cut nm n hin (by omega) (by rw [← HDN.out]; omega) HNL.out).1
      have q : ¬ n < 0 := by omega
      have q2 : ¬ (dn : Int) < n := by omega
      clear hin hbad
      go_enter Tryz.func77, Tryz.ntmps77
      have c0 := C0.out
      go_wp2_with fail
      (with_reducible refine HG.out.mono ?_)
      rintro e w2 ⟨rfl, hu2⟩
      have HU2 := Lib.hid hu2
      have c1 := hu2.cell C0.out (by simp)
      have c2 := hu2.cell CC.out (by simp)
      clear hu2
      go_wp2_with fail
      (with_reducible refine (rDo_any (wCut nm n) (HD.out.upd0 HU2.out) HW.out rfl HL.out).mono ?_)
      rintro e w3 ⟨rfl, ho⟩
      have HO := Lib.hid ho
      clear ho
      go_wp2_with fail
      go_ret
      exact ⟨by rw [HR.out]; rfl, by rw [HR.out]; exact HO.out.later HU2.out⟩
set_option maxRecDepth 20000 in
set_option maxHeartbeats 1000000 in
theorem rdRead_any (nm : ByteArray) (h : RD w0 w gr G s) (hn : s.now.length ≤ 5000) :
    Calls Tryz.prog 29 #[.pointer (some ⟨gr, 0, none⟩), sv nm] w fun e w' => ∃ v, e = .returned (.tuple #[v, .bool (dGet s.now nm).2]) ∧ Bytes w' v (dGet s.now nm).1 ∧ (∀ x ∈ blk v, x ∈ G) ∧ Upd [] w w' := by
  obtain ⟨R, ⟨na, nn, nk⟩, mv, ln, lm, ov, ops, hc, rfl, ho, rfl⟩ := h.ex
  have HC := Lib.hid hc
  have HD := Lib.hid h
  have c0 : w.cell? ⟨gr, 0, none⟩ = some (.slice na nn nk) := hc.dk.cell 0
  have hg := rdAt_any w _ ln nm hc.now.row hc.now.ris (by rw [df_len] at hn; omega)
  unfold atI at hg
  rw [isIn_dfOf] at hg
  have HG := Lib.hid hg
  dsimp only
  cases hin : inD (dfOf ln) nm with
  | false =>
    rw [hin, if_neg (by simp)] at HG
    rw [dGet_no hin]
    clear hc h ho hn hin hg
    go_enter Tryz.func29, Tryz.ntmps29
    go_wp2_with fail
    (with_reducible refine HG.out.mono ?_)
    rintro e w2 ⟨rfl, hu2⟩
    have HU2 := Lib.hid hu2
    clear hu2
    go_wp2_with fail
    go_ret2
    exact ⟨_, rfl, Rd.nil _, fun x hx => by simp [blk] at hx, HU2.out⟩
  | true =>
    have hrl : RL w R (.slice na nn nk) ln := hc.now
    obtain ⟨lb, loff, da, dn, dk, rfl, hk, hnk, hnm, hcell, hby, hdn, hR⟩ := hrl.at_ nm hin
    have h2 : (dGet (dfOf ln) nm).2 = true := by rw [dGet_in]; exact hin
    rw [hin, if_pos rfl] at HG
    have z : ¬ ((below strLt ln nm : Nat) : Int) < 0 := by omega
    have z0 : (0 : Int) ≤ (below strLt ln nm : Nat) := by omega
    have z1 : ((below strLt ln nm : Nat) : Int) < nn := by omega
    have hnn : nn ≤ 9223372036854775807 := by unfold maxLen at hnm; omega
    have CC := Lib.hid hcell
    have C0 := Lib.hid c0
    have HBY := Lib.hid hby
    have HR := Lib.hid hR
    rw [h2]
    clear hc h ho hn hin hg hby hdn hcell hR hnm h2
    generalize below strLt ln nm = k at *
    generalize (dGet (dfOf ln) nm).1 = d at *
    go_enter Tryz.func29, Tryz.ntmps29
    go_wp2_with fail
    (with_reducible refine HG.out.mono ?_)
    rintro e w2 ⟨rfl, hu2⟩
    have HU2 := Lib.hid hu2
    have c1 := hu2.cell C0.out (by simp)
    have c2 := hu2.cell CC.out (by simp)
    clear hu2 c0
    go_wp2_with fail
    go_ret2
    exact ⟨_, rfl, HBY.out.upd0 HU2.out, fun x hx => (rfoot_mem _ _ _ _).2 (.inr (.inl (HR.out x hx))), HU2.out⟩
end
end Go.Proofs.YtmhojaiajhdlcaaGreat
namespace Go.Proofs.YtmhojaiajhdlcaaGreat
open Go.RowKit
set_option linter.unusedSimpArgs false
set_option linter.unusedVariables false
theorem undRStr : Tryz.prog.underlying 148 = some (.slice 9) := by kernel_rfl
theorem infoRStr : (Tryz.prog.info? 9).map (fun i => (i.zero, i.size, i.bytes)) = some (some (.string ⟨#[]⟩), 1, 16) := by kernel_rfl
section
variable {w0 w w' : World} {gr : Nat} {R : List Nat} {nv mv : Sl} {ln lm : List OW} {ov : Value} {ops : List LW}
theorem RC.setMark (h : RC w0 w gr R nv mv ln lm ov ops) :
    RC w0 ((w.setCell ⟨gr, 1, none⟩ (slv nv)).setCell ⟨gr, 2, none⟩ (.slice none 0 0)) gr R nv nv ln ln (.slice none 0 0) [] := by
  have hset : Upd [gr] w ((w.setCell ⟨gr, 1, none⟩ (slv nv)).setCell ⟨gr, 2, none⟩ (.slice none 0 0)) := ((Upd.refl [gr] w).setCell _ _ (.inl (by simp))).setCell _ _ (.inl (by simp))
  have hn : ∀ x ∈ R, x ∉ [gr] := fun x hx hy => by simp at hy; subst hy; exact h.grR hx
  have hr := h.now.upd hset hn
  exact ⟨(h.dk.set_ 1 (slv nv)).set_ 2 (.slice none 0 0), h.grb, h.grR, hr, hr, OwnN.nil _ _ _, by simp, by simp, fun x hx => by simp [blk] at hx, h.old.trans hset (by simp) (fun x hx => .inr (by simp at hx; subst hx; exact h.grb)), fun x hx => by have := h.Rlt x hx; have := hset.size; exact ⟨by omega, by omega⟩⟩
set_option maxRecDepth 20000 in
theorem rSetMarkC_any (h : RC w0 w gr R nv mv ln lm ov ops) :
    Calls Tryz.prog 22 #[.pointer (some ⟨gr, 0, none⟩)] w fun e w' => e = .returned (.tuple #[]) ∧ RC w0 w' gr R nv nv ln ln (.slice none 0 0) [] ∧ Upd [gr] w w' := by
  obtain ⟨ao, co, rfl, -⟩ := h.opw.rd lwCells_len
  obtain ⟨na, nn, nk⟩ := nv
  obtain ⟨ma, mn, mk⟩ := mv
  have c0 : w.cell? ⟨gr, 0, none⟩ = some (.slice na nn nk) := h.dk.cell 0
  have c1 : w.cell? ⟨gr, 1, none⟩ = some (.slice ma mn mk) := h.dk.cell 1
  have c2 : w.cell? ⟨gr, 2, none⟩ = some (.slice ao ops.length co) := h.dk.cell 2
  have f1 := h.dk.frozen 1
  have f2 := h.dk.frozen 2
  have H := Lib.hid h
  clear h
  go_enter Tryz.func22, Tryz.ntmps22
  go_wp2_with fail
  go_end0
  exact ⟨rfl, H.out.setMark, ((Upd.refl [gr] w).setCell _ _ (.inl (by simp))).setCell _ _ (.inl (by simp))⟩
end
section
variable {w0 w w' : World} {gr : Nat} {G : List Nat} {s : DS}
theorem rSetMark_any (h : RD w0 w gr G s) :
    Calls Tryz.prog 22 #[.pointer (some ⟨gr, 0, none⟩)] w fun e w' => e = .returned (.tuple #[]) ∧ ROut w0 w gr G (dMark s) w' := by
  obtain ⟨R, nv, mv, ln, lm, ov, ops, hc, rfl, ho, rfl⟩ := h.ex
  refine (rSetMarkC_any hc).mono ?_
  rintro e w' ⟨rfl, h1, hu⟩
  refine ⟨rfl, _, ⟨R, nv, nv, ln, ln, _, [], h1, rfl, ho.mark, rfl⟩, hu.mono (fun x hx => .inl (by simp at hx; subst hx; exact (rfoot_mem _ _ _ _).2 (.inl rfl))), fun x hx => ?_⟩
  rcases (rfoot_mem _ _ _ _).1 hx with rfl | hx | hx
  · exact .inl ((rfoot_mem _ _ _ _).2 (.inl rfl))
  · exact .inl ((rfoot_mem _ _ _ _).2 (.inr (.inl hx)))
  · simp [blk] at hx
set_option maxRecDepth 20000 in
set_option maxHeartbeats 1000000 in
theorem rTotal_any (h : RD w0 w gr G s) (hn : s.now.length ≤ 100000) :
    Calls Tryz.prog 69 #[.pointer (some ⟨gr, 0, none⟩)] w fun e w' => e = .returned (.int .i64 (dTotal s.now : Int)) ∧ Upd [] w w' := by
  have htot := h.ok.tot
  obtain ⟨R, ⟨na, nn, nk⟩, mv, ln, lm, ov, ops, hc, rfl, ho, rfl⟩ := h.ex
  have c0 : w.cell? ⟨gr, 0, none⟩ = some (.slice na nn nk) := hc.dk.cell 0
  have hrl : RL w R (.slice na nn nk) ln := hc.now
  obtain ⟨a', cap, he, hlc, hcm, hcell⟩ := hrl.row
  obtain ⟨rfl, rfl, rfl⟩ : na = a' ∧ nn = ln.length ∧ nk = cap := by injection he with h1 h2 h3; exact ⟨h1, h2, h3⟩
  have hcap : nk ≤ 9223372036854775807 := by unfold maxLen at hcm; omega
  have HCELL := Lib.hid hcell
  have HDAT := Lib.hid hrl.dat
  have C0 := Lib.hid c0
  have hlen : ln.length ≤ 100000 := by rw [df_len] at hn; exact hn
  dsimp only at htot ⊢
  have HT := Lib.hid htot
  clear hc h ho hn htot hcell hcm c0 hrl he
  go_enter Tryz.func69, Tryz.ntmps69
  go_wp2_with fail
  go_loopw [3, 4] (fun v i wr => ∃ k : Nat, k ≤ ln.length ∧ i = .int .i64 k ∧ v = .int .i64 (dTotal ((dfOf ln).take k) : Int) ∧ Hid (Upd [] w wr)) (fun _ i _ => ln.length - (intOf i).toNat)
  case atStart => exact ⟨0, Nat.zero_le _, rfl, rfl, Upd.refl _ _⟩
  case round =>
    obtain ⟨k, hk, rfl, rfl, hu⟩ := hrel
    have c0 := hu.out.cell C0.out (by simp)
    by_cases hlt : k < ln.length
    · have hst : dTotal ((dfOf ln).take (k + 1)) = dTotal ((dfOf ln).take k) + (nth ln k).2.2.length := by
        rw [total_take (dfOf ln) k (by rw [df_len]; exact hlt), tMap_nth id (fun x : Sl × List UInt8 => x.2) ln k hlt]
      have hle := total_le (dfOf ln) (k + 1)
      have hle2 := HT.out
      obtain ⟨b, off, rfl, hcl⟩ := HCELL.out (by intro h; simp [h] at hlt)
      have hm : nth ln k ∈ ln := by rw [nth_get ln _ hlt]; exact List.getElem_mem _
      have hb := HDAT.out _ hm
      have d1 : wr.cell? ⟨b, off + k * 2 + 1, none⟩ = some (slv (nth ln k).2.1) := hu.out.cell (hcl _ hlt 1 (by omega)) (by simp)
      have HST := Lib.hid hst
      rw [hst] at hle
      clear hst hcl hm
      generalize nth ln k = c at *
      obtain ⟨key, ⟨a, n, cp⟩, bs⟩ := c
      dsimp only at hb hle d1
      obtain ⟨a2, c2, he2, -⟩ := hb
      have hnb : n = bs.length := (Value.slice.inj he2).2.1
      subst hnb
      clear he2
      generalize dTotal ((dfOf ln).take k) = T at *
      have hT : T + bs.length ≤ 16777216 := by omega
      have q0 : (0 : Int) ≤ k := by omega
      have q1 : (k : Int) < ln.length := by omega
      clear hle hle2
      go_wp2_with fail
      go_roundw
      case rel => exact ⟨k + 1, by omega, by go_num, by rw [HST.out]; go_num, hu⟩
      case measure => simp [intOf]; omega
    · obtain rfl : k = ln.length := by omega
      have he : (dfOf ln).take ln.length = dfOf ln := List.take_of_length_le (by rw [df_len]; exact Nat.le_refl _)
      obtain ⟨T, hT⟩ : ∃ T, dTotal (dfOf ln) = T := ⟨_, rfl⟩
      have HTT := Lib.hid hT
      rw [he, hT]
      clear hT
      go_wp2_with fail
      go_ret
      exact ⟨by rw [HTT.out]; rfl, hu.out⟩
set_option maxRecDepth 20000 in
set_option maxHeartbeats 1000000 in
theorem rNames_any (h : RD w0 w gr G s) (hn : s.now.length ≤ 100000) :
    Calls Tryz.prog 90 #[.pointer (some ⟨gr, 0, none⟩)] w fun e w' => ∃ v, e = .returned v ∧ Own sv w.heap.size 9 w' v (s.now.map (·.1)) ∧ Upd [] w w' := by
  obtain ⟨R, ⟨na, nn, nk⟩, mv, ln, lm, ov, ops, hc, rfl, ho, rfl⟩ := h.ex
  have c0 : w.cell? ⟨gr, 0, none⟩ = some (.slice na nn nk) := hc.dk.cell 0
  have hrl : RL w R (.slice na nn nk) ln := hc.now
  obtain ⟨a', cap, he, hlc, hcm, hcell⟩ := hrl.row
  obtain ⟨rfl, rfl, rfl⟩ : na = a' ∧ nn = ln.length ∧ nk = cap := by injection he with h1 h2 h3; exact ⟨h1, h2, h3⟩
  have hcap : nk ≤ 9223372036854775807 := by unfold maxLen at hcm; omega
  have HCELL := Lib.hid hcell
  have C0 := Lib.hid c0
  have hlen : ln.length ≤ 100000 := by rw [df_len] at hn; exact hn
  dsimp only
  have hke : (dfOf ln).map (·.1) = ln.map (·.1) := by simp [tMap]
  rw [hke]
  clear hc h ho hn hcell hcm c0 hrl he hke
  go_enter Tryz.func90, Tryz.ntmps90
  go_wp2_with fail
  go_loopw [3, 4] (fun v i wr => ∃ k : Nat, k ≤ ln.length ∧ i = .int .i64 k ∧ Hid (Own sv w.heap.size 9 wr v ((ln.take k).map (·.1))) ∧ Hid (Upd [] w wr)) (fun _ i _ => ln.length - (intOf i).toNat)
  case atStart => exact ⟨0, Nat.zero_le _, rfl, World.ownsRow_nil _ _ _ _, Upd.refl _ _⟩
  case round =>
    obtain ⟨k, hk, rfl, ho, hu⟩ := hrel
    have c0 := hu.out.cell C0.out (by simp)
    by_cases hlt : k < ln.length
    · have HT : Hid ((ln.take (k + 1)).map (·.1) = (ln.take k).map (·.1) ++ [(nth ln k).1]) := by unfold Hid; rw [List.take_succ_eq_append_getElem hlt, nth_get ln k hlt, List.map_append]; rfl
      have hlen2 : ((ln.take k).map (·.1)).length = k := by rw [List.length_map, List.length_take]; omega
      obtain ⟨bl, off, rfl, hcl⟩ := HCELL.out (by intro h; simp [h] at hlt)
      obtain ⟨ao2, co2, rfl, -⟩ := ho.out.rd
      rw [hlen2] at ho ⊢
      have HLEN := Lib.hid hlen2
      have d0 : wr.cell? ⟨bl, off + k * 2, none⟩ = some (sv (nth ln k).1) := hu.out.cell (hcl _ hlt 0 (by omega)) (by simp)
      have HKS : Hid (∃ ks, ks = (ln.take k).map (·.1)) := ⟨_, rfl⟩
      generalize hks : (ln.take k).map (·.1) = ks at *
      generalize (nth ln k).1 = x at *
      clear hlen2 hcl hks HKS
      have q0 : (0 : Int) ≤ k := by omega
      have q1 : (k : Int) < ln.length := by omega
      have HB : Hid ((ks.length + [x].length) * 16 ≤ 140737488355328) := by unfold Hid; rw [HLEN.out]; simp; omega
      have HL : Hid (ks.length + [x].length ≤ maxLen) := by unfold Hid maxLen; rw [HLEN.out]; simp; omega
      have hsz := hu.out.size
      go_wp2_with (at_builtin; go_must (refine wpList_app_of rfl _ _ rfl (.slice ao2 k co2) (.slice (some ⟨wr.heap.size, 0, none⟩) 1 1) rfl rfl (run_app (c := sv) (fun _ => rfl) undRStr infoRStr rfl _ _ ks [x] (ho.out.upd ((Upd.refl [] _).alloc _) (by simp)) (Rd.lit [x] (by simp) rfl rfl (by decide) (by decide)) HB.out HL.out (by simp <;> omega)) ?_; rintro v1 w3 ⟨ho3, hu3, hk3⟩; have HO3 := Lib.hid ho3; have HU3 : Hid (Upd [] w w3) := ((hu.out.alloc _).trans hu3 (by simp) (fun y hy => .inr (ho.out.ge y hy).1)); clear ho3 hu3 hk3))
      go_roundw
      case rel => exact ⟨k + 1, by omega, by go_num, by rw [HT.out]; exact HO3, HU3⟩
      case measure => simp [intOf]; omega
    · obtain rfl : k = ln.length := by omega
      go_wp2_with fail
      go_ret
      exact ⟨_, rfl, by have := ho.out; rwa [List.take_length] at this, hu.out⟩
end
end Go.Proofs.YtmhojaiajhdlcaaGreat
namespace Go.Proofs.YtmhojaiajhdlcaaGreat
open Go.RowKit
set_option linter.unusedSimpArgs false
set_option linter.unusedVariables false
section
variable {w0 w w' wr : World} {gr : Nat} {R : List Nat} {nv mv : Sl} {ln lm : List OW} {ov : Value} {ops : List LW}
/-- While the raw writes are done again on the document's list. -/
structure RB (w0 w wr : World) (gr : Nat) (R : List Nat) (nv mv : Sl) (ln lm : List OW) (ov : Value) (ops : List LW) (k : Nat) (R' : List Nat) (v : Value) (lk : List OW) : Prop where
  rc : RC w0 wr gr R nv mv ln lm ov ops
  cur : RL wr R' v lk
  sub : ∀ x ∈ R, x ∈ R'
  new : ∀ x ∈ R', x ∈ R ∨ (w.heap.size ≤ x ∧ x < wr.heap.size)
  eq : dfOf lk = wAll (dfOf lm) ((ops.map (·.1)).take k)
  upd : Upd [] w wr
theorem RB.step {k : Nat} {R' : List Nat} {v : Value} {lk : List OW} {e : Ending} (h : RB w0 w wr gr R nv mv ln lm ov ops k R' v lk) (hk : k < ops.length) (hd : RDoes wr R' (wApply (nth ops k).1 (dfOf lk)) e w') :
    ∃ a n c R'' l'', e = .returned (.slice a n c) ∧ RB w0 w w' gr R nv mv ln lm ov ops (k + 1) R'' (.slice a n c) l'' := by
  obtain ⟨v2, R2, l2, rfl, h2, ho2, h4, h5, h6, h7, -⟩ := hd
  obtain ⟨a2, c2, rfl, -⟩ := ho2.rd owCells_len
  have h1 := h.upd.size
  have h3 := h5.size
  refine ⟨a2, _, c2, R2, l2, rfl, h.rc.upd0 h5, h2, fun x hx => h6 x (h.sub x hx), fun x hx => ?_, ?_, h.upd.seq h5⟩
  · rcases h7 x hx with q | q
    · exact (h.new x q).imp id (fun q => ⟨q.1, by omega⟩)
    · exact .inr ⟨by omega, q.2⟩
  · rw [h4, h.eq, wAll_take _ _ k (by simpa using hk)]
    congr 1
    rw [nth_get ops k hk, nth_get (ops.map (·.1)) k (by simpa using hk)]; simp
theorem RB.wok {k : Nat} {R' : List Nat} {v : Value} {lk : List OW} (h : RB w0 w wr gr R nv mv ln lm ov ops k R' v lk) (ho : LogOk (dfOf lm) (ops.map (·.1))) (hk : k < ops.length) : WrOk (nth ops k).1 (dfOf lk) := by
  have h1 := ho.at_ k (by simpa using hk)
  rw [← h.eq, nth_get (ops.map (·.1)) k (by simpa using hk)] at h1
  rw [nth_get ops k hk]
  simpa using h1
theorem RB.finish {k : Nat} {R' : List Nat} {nv' : Sl} {lk : List OW} (h : RB w0 w wr gr R nv mv ln lm ov ops k R' (slv nv') lk) (ho : DOk ⟨dfOf ln, dfOf lm, ops.map (·.1)⟩) (n : Int) (hm : min n.toNat ops.length = k)
    (h1 : RC w0 w' gr R' nv' nv' lk lk (.slice none 0 0) []) (hu : Upd [gr] wr w') : ROut w0 w gr (rfoot gr R ov) (dBack ⟨dfOf ln, dfOf lm, ops.map (·.1)⟩ n) w' := by
  have he : dBackF ⟨dfOf ln, dfOf lm, ops.map (·.1)⟩ n = dfOf lk := by
    unfold dBackF
    rw [h.eq, ← hm]
    dsimp only
    congr 1
    rw [List.take_eq_take_iff]
    simp
  refine ⟨_, ⟨R', nv', nv', lk, lk, _, [], h1, by unfold dBack; rw [he]; rfl, ho.back n, rfl⟩, h.upd.trans hu (by simp) (fun x hx => .inl (by simp at hx; subst hx; exact (rfoot_mem _ _ _ _).2 (.inl rfl))), fun x hx => ?_⟩
  rcases (rfoot_mem _ _ _ _).1 hx with rfl | hx | hx
  · exact .inl ((rfoot_mem _ _ _ _).2 (.inl rfl))
  · exact (h.new x hx).imp (fun q => (rfoot_mem _ _ _ _).2 (.inr (.inl q))) (fun q => q.1)
  · simp [blk] at hx
end
section
variable {w0 w w' : World} {gr : Nat} {G : List Nat} {s : DS}
theorem LogOk.tot_at {fs : DF} {l : List Wr} (h : LogOk fs l) (ht : dTotal fs ≤ 16777216) : dTotal (wAll fs l) ≤ 16777216 := by
  induction l generalizing fs with
  | nil => exact ht
  | cons x l ih => exact ih h.2 h.1.tot
set_option maxRecDepth 20000 in
set_option maxHeartbeats 4000000 in
theorem rBack_any (n : Int) (hn : I64 n) (h : RD w0 w gr G s) (hl : s.log.length ≤ 1000000000) :
    Calls Tryz.prog 36 #[.pointer (some ⟨gr, 0, none⟩), .int .i64 n] w fun e w' => e = .returned (.tuple #[]) ∧ ROut w0 w gr G (dBack s n) w' := by
  obtain ⟨R, ⟨na, nn, nk⟩, ⟨ma, mn, mk⟩, ln, lm, ov, ops, hc, rfl, ho, rfl⟩ := h.ex
  obtain ⟨ao, co, rfl, hlc, hcm, -⟩ := hc.opw.rd lwCells_len
  have hmx : co ≤ 9223372036854775807 := by unfold maxLen at hcm; omega
  have c1 : w.cell? ⟨gr, 1, none⟩ = some (.slice ma mn mk) := hc.dk.cell 1
  have HB0 : Hid (RB w0 w w gr R ⟨na, nn, nk⟩ ⟨ma, mn, mk⟩ ln lm (.slice ao ops.length co) ops 0 R (.slice ma mn mk) lm) :=
    ⟨hc, hc.mark, fun x hx => hx, fun x hx => .inl hx, rfl, Upd.refl _ _⟩
  have HLOK := Lib.hid ho.log
  have HC0 := Lib.hid hc
  have HDK := Lib.hid ho
  have HTM : Hid (dTotal (dfOf lm) ≤ 16777216) := ho.totm
  have HN := Lib.hid hn
  obtain ⟨m, hm⟩ : ∃ m, min n.toNat ops.length = m := ⟨_, rfl⟩
  have HM := Lib.hid hm
  have hmo : m ≤ ops.length := by omega
  have HLN : Hid (ops.length ≤ 1000000000) := by simpa [Hid] using hl
  clear h hc ho hl hm
  go_enter Tryz.func36, Tryz.ntmps36
  go_wp2_with fail
  go_loopw [4, 5] (fun v i wr => ∃ (k : Nat) (R' : List Nat) (va : Option Addr) (vn vk : Nat) (lk : List OW), k ≤ m ∧ i = .int .i64 k ∧ v = .slice va vn vk ∧ Hid (RB w0 w wr gr R ⟨na, nn, nk⟩ ⟨ma, mn, mk⟩ ln lm (.slice ao ops.length co) ops k R' (.slice va vn vk) lk)) (fun _ i _ => m - (intOf i).toNat)
  case atStart => exact ⟨0, R, ma, mn, mk, lm, Nat.zero_le _, rfl, rfl, HB0⟩
  case round =>
    obtain ⟨k, R', va, vn, vk, lk, hk, rfl, rfl, hb⟩ := hrel
    clear HB0 c1
    have c2 : wr.cell? ⟨gr, 2, none⟩ = some (.slice ao ops.length co) := hb.out.rc.dk.cell 2
    by_cases hlt : k < m
    · have hkl : k < ops.length := by omega
      obtain ⟨la, lc, he, -, -, hcell⟩ := hb.out.rc.opw.rd lwCells_len
      have e1 : ao = la := (Value.slice.inj he).1
      obtain ⟨lb, loff, e2, hcell⟩ := hcell (by intro h; simp [h] at hkl)
      obtain rfl : ao = some ⟨lb, loff, none⟩ := e1.trans e2
      have d0 : wr.cell? ⟨lb, loff + k * 5, none⟩ = some (.int .i64 (nth ops k).1.kd) := hcell k hkl 0 (by omega)
      have d1 : wr.cell? ⟨lb, loff + k * 5 + 1, none⟩ = some (sv (nth ops k).1.nm) := hcell k hkl 1 (by omega)
      have d2 : wr.cell? ⟨lb, loff + k * 5 + 2, none⟩ = some (sv (nth ops k).1.tn) := hcell k hkl 2 (by omega)
      have d3 : wr.cell? ⟨lb, loff + k * 5 + 3, none⟩ = some (slv (nth ops k).2) := hcell k hkl 3 (by omega)
      have d4 : wr.cell? ⟨lb, loff + k * 5 + 4, none⟩ = some (.int .i64 (nth ops k).1.n) := hcell k hkl 4 (by omega)
      have HW := Lib.hid (hb.out.wok HLOK.out hkl)
      have hmem : nth ops k ∈ ops := by rw [nth_get _ _ hkl]; exact List.getElem_mem _
      have HP := Lib.hid (hb.out.rc.odat _ hmem)
      have HTT : Hid (dTotal (dfOf lk) ≤ 16777216) := by unfold Hid; rw [hb.out.eq]; exact (HLOK.out.take k).tot_at HTM.out
      have HST := Lib.hid (fun e w' hd => hb.out.step (e := e) (w' := w') hkl hd)
      clear he hcell e1 e2 hmem
      generalize nth ops k = x at *
      obtain ⟨⟨kd, nm, tn, p, nn⟩, ⟨pa, pn, pk⟩⟩ := x
      simp only [slv, sv] at d0 d1 d2 d3 d4
      have q1 : (0 : Int) ≤ k := by omega
      have q2 : (k : Int) < n := by have := HM.out; omega
      have q3 : (k : Int) < ops.length := by omega
      go_wp2_with fail
      (with_reducible refine (rMade_any ⟨kd, nm, tn, p, nn⟩ ⟨pa, pn, pk⟩ hb.out.cur HW.out HP.out HTT.out).mono ?_)
      intro e w4 hd
      obtain ⟨a4, n4, c4, R4, l4, rfl, h4⟩ := HST.out e w4 hd
      have HB4 := Lib.hid h4
      clear h4 hd HST
      go_wp2_with fail
      go_roundw
      case rel => exact ⟨k + 1, R4, a4, n4, c4, l4, by omega, by go_num, rfl, HB4⟩
      case measure => simp [intOf]; omega
    · obtain rfl : m = k := by omega
      have f0 := hb.out.rc.dk.frozen 0
      have c0 : wr.cell? ⟨gr, 0, none⟩ = some (.slice na nn nk) := hb.out.rc.dk.cell 0
      have HRC : Hid (RC w0 (wr.setCell ⟨gr, 0, none⟩ (.slice va vn vk)) gr R' ⟨va, vn, vk⟩ ⟨ma, mn, mk⟩ lk lm (.slice ao ops.length co) ops) :=
        HC0.out.setNow (nv' := ⟨va, vn, vk⟩) hb.out.cur hb.out.upd hb.out.sub hb.out.new
      rcases (show n ≤ (m : Int) ∨ ((m : Int) < n ∧ (ops.length : Int) ≤ m) by have := HM.out; omega) with q | ⟨q, q2⟩
      all_goals
        go_wp2_with fail
        (with_reducible refine (rSetMarkC_any HRC.out).mono ?_)
        rintro e w5 ⟨rfl, h5, hu5⟩
        have hset : Upd [gr] wr (wr.setCell ⟨gr, 0, none⟩ (.slice va vn vk)) := (Upd.refl [gr] wr).setCell _ _ (.inl (by simp))
        have HF := Lib.hid (hb.out.finish (nv' := ⟨va, vn, vk⟩) HDK.out n HM.out h5 (hset.trans hu5 (fun x hx => hx) (fun x hx => .inl hx)))
        clear h5 hu5 hset hb
        go_wp2_with fail
        go_end0
        exact ⟨rfl, HF.out⟩
end
end Go.Proofs.YtmhojaiajhdlcaaGreat
namespace Go.Proofs.YtmhojaiajhdlcaaGreat
open Go.RowKit
set_option linter.unusedSimpArgs false
set_option linter.unusedVariables false
section
variable {w0 w w' : World} {gr : Nat} {R : List Nat} {nv mv : Sl} {ln lm : List OW} {ov : Value} {ops : List LW}
theorem RL.more {w : World} {R R' : List Nat} {v : Value} {l : List OW} (h : RL w R v l) (hs : ∀ x ∈ R, x ∈ R') : RL w R' v l :=
  ⟨h.row, fun x hx => hs x (h.vR x hx), h.dat, fun c hc x hx => hs x (h.dR c hc x hx), h.ris⟩
theorem RC.bytes (h : RC w0 w gr R nv mv ln lm ov ops) {v : Value} {l : List UInt8} (ho : Own bv w.heap.size 5 w' v l) (hu : Upd [] w w') : RC w0 w' gr (R ++ blk v) nv mv ln lm ov ops := by
  have h0 := h.upd0 hu
  have hlt := h.dk.lt
  have hs : ∀ x ∈ R, x ∈ R ++ blk v := fun x hx => List.mem_append.2 (.inl hx)
  refine ⟨h0.dk, h0.grb, fun hx => ?_, h0.now.more hs, h0.mark.more hs, h0.opw, h0.odat, fun x hx y hy => hs y (h0.oR x hx y hy), fun x hx hy => ?_, h0.old, fun x hx => ?_⟩
  · rcases List.mem_append.1 hx with q | q
    · exact h.grR q
    · have := (ho.ge gr q).1; omega
  · rcases List.mem_append.1 hy with q | q
    · exact h.oap x hx q
    · have := (ho.ge x q).1; have := (h.opw.ge x hx).2; omega
  · rcases List.mem_append.1 hx with q | q
    · exact h0.Rlt x q
    · have h1 := ho.ge x q; have h2 := h.old.size; exact ⟨by omega, h1.2⟩
end
section
variable {w0 w w' : World} {gr : Nat} {G : List Nat} {s : DS}
theorem rPut_any (nm : ByteArray) (c : List UInt8) (sl : Sl) (h : RD w0 w gr G s) (ho : Own bv w.heap.size 5 w' (slv sl) c) (hu : Upd [] w w') (hx : WrOk (wPut nm c) s.now) (hl : s.log.length ≤ 1000000000) :
    Calls Tryz.prog 71 #[.pointer (some ⟨gr, 0, none⟩), wrv (wPut nm c) sl] w' fun e w2 => e = .returned (.tuple #[]) ∧ ROut w0 w gr G (dDo (wPut nm c) s) w2 := by
  obtain ⟨R, nv, mv, ln, lm, ov, ops, hc, rfl, hok, rfl⟩ := h.ex
  have hc2 := hc.bytes ho hu
  refine (rDoC_any (wPut nm c) sl hc2 hx hok.tot ho.rd (fun y hy => List.mem_append.2 (.inr hy)) (by simpa using hl)).mono ?_
  rintro e w2 ⟨rfl, R', nv', ln', ov', h1, h3, h4, h5⟩
  have hf : ∀ x ∈ rfoot gr (R ++ blk (slv sl)) ov, x ∈ rfoot gr R ov ∨ w.heap.size ≤ x := fun x hx => by
    rcases (rfoot_mem _ _ _ _).1 hx with rfl | q | q
    · exact .inl ((rfoot_mem _ _ _ _).2 (.inl rfl))
    · rcases List.mem_append.1 q with q | q
      · exact .inl ((rfoot_mem _ _ _ _).2 (.inr (.inl q)))
      · exact .inr (ho.ge x q).1
    · exact .inl ((rfoot_mem _ _ _ _).2 (.inr (.inr q)))
  refine ⟨rfl, _, ⟨R', nv', mv, ln', lm, ov', _, h1, by unfold dDo; rw [h3]; simp, hok.do_ hx, rfl⟩, hu.trans h4 (by simp) hf, fun x hx => ?_⟩
  rcases h5 x hx with q | q
  · exact hf x q
  · exact .inr (by have := hu.size; omega)
end
end Go.Proofs.YtmhojaiajhdlcaaGreat
namespace Go.Proofs.YtmhojaiajhdlcaaGreat
open Go.RowKit
set_option linter.unusedSimpArgs false
set_option linter.unusedVariables false
section
variable {w0 w w' : World} {gr : Nat} {G : List Nat} {s : DS}
set_option maxRecDepth 20000 in
set_option maxHeartbeats 4000000 in
theorem rAppend_any (nm : ByteArray) (v : Value) (p : List UInt8) (hp : Bytes w v p) (hap : p ≠ [] → ∀ x ∈ blk v, x ∉ G) (h : RD w0 w gr G s) (hpl : p.length ≤ 100000000) (hn : s.now.length ≤ 4999) (hl : s.log.length ≤ 500000000) :
    Calls Tryz.prog 20 #[.pointer (some ⟨gr, 0, none⟩), sv nm, v] w (RAns w0 w gr G (dAppend s nm p)) := by
  have HP := Lib.hid hp
  have HLT : Hid (p ≠ [] → ∀ x ∈ blk v, x < w.heap.size) := fun hne => hp.lt hne
  obtain ⟨ap, cp, rfl, hp1, hp2, -⟩ := hp
  have hcp : cp ≤ 9223372036854775807 := by unfold maxLen at hp2; omega
  obtain ⟨na, nn, nk, ln, R, c0, -, -, hget⟩ := h.look nm (by omega)
  have HGET := Lib.hid hget
  have C0 := Lib.hid c0
  have HD := Lib.hid h
  have HL := Lib.hid hl
  have HNL := Lib.hid hn
  have HAP := Lib.hid hap
  have htot := h.ok.tot
  clear hget h hl hn hp2 c0 hap
  cases hok : nameOk nm with
  | false =>
    have HR : Hid (dAppend s nm p = (14, s)) := by unfold Hid dAppend; rw [hok]; rfl
    have HOK := Lib.hid hok
    clear hok
    go_enter Tryz.func20, Tryz.ntmps20
    go_wp2_with fail
    (with_reducible refine (rName_any w nm).mono ?_)
    rw [HOK.out]
    rintro e w1 ⟨rfl, rfl⟩
    go_wp2_with fail
    go_ret
    exact ⟨by rw [HR.out]; rfl, by rw [HR.out]; exact HD.out.out0 (Upd.refl _ _)⟩
  | true =>
    have HOK := Lib.hid hok
    have HTOT : Hid (s.now.length ≤ 100000) := by have := HNL.out; unfold Hid; omega
    have hwr0 : IntKind.i64.wrap ((dTotal s.now : Int) + p.length) = (dTotal s.now : Int) + p.length := by rw [IntKind.wrap_i64]; omega
    by_cases hfull : 16777216 < dTotal s.now + p.length
    · have HR : Hid (dAppend s nm p = (9, s)) := by unfold Hid dAppend; rw [hok, if_pos rfl, if_pos hfull]
      have q : (16777216 : Int) < (dTotal s.now : Int) + p.length := by omega
      clear hok
      go_enter Tryz.func20, Tryz.ntmps20
      go_wp2_with fail
      (with_reducible refine (rName_any w nm).mono ?_)
      rw [HOK.out]
      rintro e w1 ⟨rfl, rfl⟩
      go_wp2_with fail
      (with_reducible refine (rTotal_any HD.out HTOT.out).mono ?_)
      rintro e w2 ⟨rfl, hu2⟩
      have HU2 := Lib.hid hu2
      clear hu2
      go_wp2_with fail
      go_ret
      exact ⟨by rw [HR.out]; rfl, by rw [HR.out]; exact HD.out.out0 HU2.out⟩
    · have q : ¬ (16777216 : Int) < (dTotal s.now : Int) + p.length := by omega
      have HT : Hid (dTotal s.now + p.length ≤ 16777216) := by unfold Hid; omega
      cases hin : inD s.now nm with
      | true =>
        have HR : Hid (dAppend s nm p = (0, dPut nm s (chunks p))) := by unfold Hid dAppend; rw [hok, if_pos rfl, if_neg hfull, hin, if_pos rfl]
        rw [hin, if_pos rfl] at HGET
        have HIN1 := Lib.hid hin
        have z : ¬ ((below strLt ln nm : Nat) : Int) < 0 := by omega
        generalize below strLt ln nm = kk at *
        clear hok hin hfull
        go_enter Tryz.func20, Tryz.ntmps20
        go_wp2_with fail
        (with_reducible refine (rName_any w nm).mono ?_)
        rw [HOK.out]
        rintro e w1 ⟨rfl, rfl⟩
        go_wp2_with fail
        (with_reducible refine (rTotal_any HD.out HTOT.out).mono ?_)
        rintro e w2 ⟨rfl, hu2⟩
        have HU2 := Lib.hid hu2
        have c0 := hu2.cell C0.out (by simp)
        clear hu2
        go_wp2_with fail
        (with_reducible refine (HGET.out w2 HU2.out).mono ?_)
        rintro e w3 ⟨rfl, hu3⟩
        have HU3 := Lib.hid (HU2.out.seq hu3)
        have D1 := Lib.hid (HD.out.upd0 HU3.out)
        have HP1 := Lib.hid (HP.out.upd0 HU3.out)
        have HAP1 := Lib.hid HAP.out
        have HLN1 : Hid (s.now.length ≤ 5000) := by have := HNL.out; unfold Hid; omega
        have HTT1 : Hid (dTotal s.now + p.length ≤ 16777216) := HT.out
        have HLG1 : Hid (s.log.length ≤ 500000001) := by have := HL.out; unfold Hid; omega
        clear hu3 c0 q hwr0 htot
        go_wp2_with fail
        go_loopw [7] (fun v wr => ∃ (k J : Nat) (G' : List Nat), k ≤ (chunks p).length ∧ Hid (J = 32 * k) ∧ v = .int .i64 (J : Int) ∧ Hid (RD w0 wr gr G' (dPut nm s ((chunks p).take k))) ∧ Hid (Upd G w3 wr) ∧ Hid (∀ x ∈ G', x ∈ G ∨ (w3.heap).size ≤ x)) (fun v _ => p.length - (intOf v).toNat)
        case atStart => exact ⟨0, 0, G, Nat.zero_le _, rfl, rfl, D1.out, Upd.refl _ _, fun x hx => .inl hx⟩
        case round =>
          obtain ⟨k, J, G', hk, HJ, rfl, hd, hu, hg⟩ := hrel
          have hcl := chunks_len p
          by_cases hpos : J < p.length
          · have hlt : k < (chunks p).length := by have := HJ.out; omega
            obtain ⟨hw0, hstep⟩ : WrOk (wPut nm ((p.drop (32 * k)).take 32)) (dPut nm s ((chunks p).take k)).now ∧ (dPut nm s ((chunks p).take k)).log.length ≤ 1000000000 := by
              have ih := PutOk.all p D1.out.ok HIN1.out HLN1.out HTT1.out k hk
              have hcl2 : ((p.drop (32 * k)).take 32).length = min 32 (p.length - 32 * k) := by rw [List.length_take, List.length_drop]
              have htt := HTT1.out
              have := HJ.out
              refine ⟨(ih.step ((p.drop (32 * k)).take 32) (fun q => by rw [q] at hcl2; simp at hcl2; omega) HLN1.out (by rw [hcl2]; omega)).1, ?_⟩
              have := ih.log
              have := HLG1.out
              omega
            have HWO := Lib.hid hw0
            have HLO := Lib.hid hstep
            have HDT := Lib.hid (dPut_take nm s p k hlt)
            have q0 : (0 : Int) ≤ J := by omega
            have q1 : (J : Int) < p.length := by omega
            have hwr : IntKind.i64.wrap ((J : Int) + 32) = (J : Int) + 32 := by rw [IntKind.wrap_i64]; omega
            clear hw0 hstep hcl
            rcases Nat.lt_or_ge p.length (J + 32) with q | q
            · obtain ⟨M, hM⟩ : ∃ M, M = p.length := ⟨_, rfl⟩
              have q2 : (p.length : Int) < (J : Int) + 32 := by omega
              obtain ⟨Ln, hLn⟩ : ∃ Ln, M - J = Ln := ⟨_, rfl⟩
              obtain ⟨A, hA, hcut⟩ : ∃ A : Option Addr, A = (if cp = J then ap else ap.map (·.add J)) ∧ ∀ W, (Instr.slice 28 (.slice ap p.length cp) (some (.int .i64 (J : Int))) (some (.int .i64 (p.length : Int))) none).run Tryz.prog W = .ok (.slice A Ln (cp - J)) W :=
                ⟨_, rfl, fun W => by have h := run_cut_lh (P := Tryz.prog) (size := 1) Tryz.underlying28 (by kernel_rfl) ap p.length cp J M (by omega) (by omega) W (J : Int) (p.length : Int) rfl (by omega); rw [hLn] at h; simpa using h⟩
              have HRDC : Hid (Bytes wr (.slice A Ln (cp - J)) ((p.drop J).take Ln)) := by
                have h := (bytes_upd HP1.out hu.out HAP1.out).sub J M (by omega) (by omega)
                rw [hLn] at h
                unfold Hid; rw [hA]; exact h
              have hce : (p.drop (32 * k)).take 32 = (p.drop J).take Ln := by
                have := HJ.out
                subst this
                rcases Nat.lt_or_ge p.length (32 * k + 32) with q | q
                · rw [List.take_of_length_le (by rw [List.length_drop]; omega), List.take_of_length_le (by rw [List.length_drop]; omega)]
                · rw [show Ln = 32 by omega]
              rw [hce] at HDT HWO
              have hclen : ((p.drop J).take Ln).length = Ln := by rw [List.length_take, List.length_drop]; omega
              have HCL := Lib.hid hclen
              have HLB : Hid (Ln ≤ p.length) := by unfold Hid; omega
              clear hce hclen hA hLn hM
              obtain ⟨c, hc⟩ : ∃ c, (p.drop J).take Ln = c := ⟨_, rfl⟩
              rw [hc] at HDT HWO HRDC HCL
              clear hc
              have hu1 : Upd [] wr (wr.alloc (.cells #[] 5)) := (Upd.refl [] wr).alloc _
              have HRUN := Lib.hid (fun ty => run_app (P := Tryz.prog) (w := wr.alloc (.cells #[] 5)) (ty := ty) (base := wr.heap.size) bv_one Tryz.underlying28 infoB8 rfl (.slice (some ⟨wr.heap.size, 0, none⟩) 0 0) (.slice A Ln (cp - J)) [] c (own_emptyR wr.heap.size _ wr.heap.size (Nat.le_refl _) (Blk.new wr 5 [])) (HRDC.out.upd0 hu1) (by have := HLB.out; rw [HCL.out]; simp; omega) (by have := HLB.out; rw [HCL.out]; simp [maxLen]; omega) (by simp))
              have HU1 := Lib.hid hu1
              clear hu1
              go_wp2_with (at_builtin; go_must (refine wpList_app_of rfl _ _ rfl (.slice (some ⟨wr.heap.size, 0, none⟩) 0 0) (.slice A Ln (cp - J)) rfl rfl (HRUN.out _) ?_; rintro v2 w2 ⟨ho2, hu2, hk2⟩; have HU2 : Hid (Upd [] wr w2) := (HU1.out.trans hu2 (by simp) (fun y hy => .inr (by simp [blk] at hy; omega))); rw [List.nil_append] at ho2; obtain ⟨a2, k2, rfl, -⟩ := ho2.rd; have HO2 : Hid (Own bv wr.heap.size 5 w2 (slv ⟨a2, c.length, k2⟩) c) := ho2; clear ho2 hu2 hk2 HRUN HRDC HU1; dsimp only))
              (with_reducible refine (rPut_any nm c ⟨a2, c.length, k2⟩ hd.out HO2.out HU2.out HWO.out HLO.out).mono ?_)
              rintro e w4 ⟨rfl, G4, h4, hu4, hg4⟩
              have H4 : Hid (RD w0 w4 gr G4 (dPut nm s ((chunks p).take (k + 1)))) := by unfold Hid; rw [HDT.out]; exact h4
              have HU4 : Hid (Upd G w3 w4) := hu.out.trans hu4 (fun x hx => hx) hg.out
              have HG4 : Hid (∀ x ∈ G4, x ∈ G ∨ (w3.heap).size ≤ x) := fun x hx => by
                have := hu.out.size
                rcases hg4 x hx with r | r
                · exact hg.out x r
                · exact .inr (by omega)
              clear h4 hu4 hg4
              go_wp2_with fail
              go_roundw
              case rel => exact ⟨k + 1, J + 32, G4, by omega, by have := HJ.out; unfold Hid; omega, by go_num, H4, HU4, HG4⟩
              case measure => simp [intOf]; omega
            · obtain ⟨M, hM⟩ : ∃ M, M = J + 32 := ⟨_, rfl⟩
              have q2 : ¬ (p.length : Int) < (J : Int) + 32 := by omega
              obtain ⟨Ln, hLn⟩ : ∃ Ln, M - J = Ln := ⟨_, rfl⟩
              obtain ⟨A, hA, hcut⟩ : ∃ A : Option Addr, A = (if cp = J then ap else ap.map (·.add J)) ∧ ∀ W, (Instr.slice 28 (.slice ap p.length cp) (some (.int .i64 (J : Int))) (some (.int .i64 ((J : Int) + 32))) none).run Tryz.prog W = .ok (.slice A Ln (cp - J)) W :=
                ⟨_, rfl, fun W => by have h := run_cut_lh (P := Tryz.prog) (size := 1) Tryz.underlying28 (by kernel_rfl) ap p.length cp J M (by omega) (by omega) W (J : Int) ((J : Int) + 32) rfl (by omega); rw [hLn] at h; simpa using h⟩
              have HRDC : Hid (Bytes wr (.slice A Ln (cp - J)) ((p.drop J).take Ln)) := by
                have h := (bytes_upd HP1.out hu.out HAP1.out).sub J M (by omega) (by omega)
                rw [hLn] at h
                unfold Hid; rw [hA]; exact h
              have hce : (p.drop (32 * k)).take 32 = (p.drop J).take Ln := by
                have := HJ.out
                subst this
                rcases Nat.lt_or_ge p.length (32 * k + 32) with q | q
                · rw [List.take_of_length_le (by rw [List.length_drop]; omega), List.take_of_length_le (by rw [List.length_drop]; omega)]
                · rw [show Ln = 32 by omega]
              rw [hce] at HDT HWO
              have hclen : ((p.drop J).take Ln).length = Ln := by rw [List.length_take, List.length_drop]; omega
              have HCL := Lib.hid hclen
              have HLB : Hid (Ln ≤ p.length) := by unfold Hid; omega
              clear hce hclen hA hLn hM
              obtain ⟨c, hc⟩ : ∃ c, (p.drop J).take Ln = c := ⟨_, rfl⟩
              rw [hc] at HDT HWO HRDC HCL
              clear hc
              have hu1 : Upd [] wr (wr.alloc (.cells #[] 5)) := (Upd.refl [] wr).alloc _
              have HRUN := Lib.hid (fun ty => run_app (P := Tryz.prog) (w := wr.alloc (.cells #[] 5)) (ty := ty) (base := wr.heap.size) bv_one Tryz.underlying28 infoB8 rfl (.slice (some ⟨wr.heap.size, 0, none⟩) 0 0) (.slice A Ln (cp - J)) [] c (own_emptyR wr.heap.size _ wr.heap.size (Nat.le_refl _) (Blk.new wr 5 [])) (HRDC.out.upd0 hu1) (by have := HLB.out; rw [HCL.out]; simp; omega) (by have := HLB.out; rw [HCL.out]; simp [maxLen]; omega) (by simp))
              have HU1 := Lib.hid hu1
              clear hu1
              go_wp2_with (at_builtin; go_must (refine wpList_app_of rfl _ _ rfl (.slice (some ⟨wr.heap.size, 0, none⟩) 0 0) (.slice A Ln (cp - J)) rfl rfl (HRUN.out _) ?_; rintro v2 w2 ⟨ho2, hu2, hk2⟩; have HU2 : Hid (Upd [] wr w2) := (HU1.out.trans hu2 (by simp) (fun y hy => .inr (by simp [blk] at hy; omega))); rw [List.nil_append] at ho2; obtain ⟨a2, k2, rfl, -⟩ := ho2.rd; have HO2 : Hid (Own bv wr.heap.size 5 w2 (slv ⟨a2, c.length, k2⟩) c) := ho2; clear ho2 hu2 hk2 HRUN HRDC HU1; dsimp only))
              (with_reducible refine (rPut_any nm c ⟨a2, c.length, k2⟩ hd.out HO2.out HU2.out HWO.out HLO.out).mono ?_)
              rintro e w4 ⟨rfl, G4, h4, hu4, hg4⟩
              have H4 : Hid (RD w0 w4 gr G4 (dPut nm s ((chunks p).take (k + 1)))) := by unfold Hid; rw [HDT.out]; exact h4
              have HU4 : Hid (Upd G w3 w4) := hu.out.trans hu4 (fun x hx => hx) hg.out
              have HG4 : Hid (∀ x ∈ G4, x ∈ G ∨ (w3.heap).size ≤ x) := fun x hx => by
                have := hu.out.size
                rcases hg4 x hx with r | r
                · exact hg.out x r
                · exact .inr (by omega)
              clear h4 hu4 hg4
              go_wp2_with fail
              go_roundw
              case rel => exact ⟨k + 1, J + 32, G4, by omega, by have := HJ.out; unfold Hid; omega, by go_num, H4, HU4, HG4⟩
              case measure => simp [intOf]; omega
          · have q1 : ¬ (J : Int) < p.length := by omega
            have hke : k = (chunks p).length := by have := HJ.out; omega
            have HF : Hid (RD w0 wr gr G' (dPut nm s (chunks p))) := by have := hd.out; rwa [hke, List.take_length] at this
            clear hd hcl hke
            go_wp2_with fail
            go_ret
            exact ⟨by rw [HR.out]; rfl, by rw [HR.out]; exact ⟨G', HF.out, (HU3.out.mono (by simp)).trans hu.out (fun x hx => hx) (fun x hx => .inl hx), fun x hx => (hg.out x hx).imp id (fun q => by have := HU3.out.size; omega)⟩⟩
      | false =>
        have HR : Hid (dAppend s nm p = (0, dPut nm (dDo (wMake nm) s) (chunks p))) := by unfold Hid dAppend; rw [hok, if_pos rfl, if_neg hfull, hin, if_neg (by simp)]
        rw [hin, if_neg (by simp)] at HGET
        obtain ⟨hw, hk1, hk2, hk3, hk4⟩ := HD.out.ok.make nm hin (by have := HNL.out; omega)
        have HW := Lib.hid hw
        have HIN1 := Lib.hid hk2
        have HLN1 : Hid ((dDo (wMake nm) s).now.length ≤ 5000) := by have := HNL.out; unfold Hid; omega
        have HTT1 : Hid (dTotal (dDo (wMake nm) s).now + p.length ≤ 16777216) := by unfold Hid; rw [hk3]; exact HT.out
        have HLG1 : Hid ((dDo (wMake nm) s).log.length ≤ 500000001) := by have := HL.out; unfold Hid dDo; simp; omega
        have HLL : Hid (s.log.length ≤ 1000000000) := by have := HL.out; unfold Hid; omega
        clear hok hin hfull hw hk1 hk2 hk3 hk4
        go_enter Tryz.func20, Tryz.ntmps20
        go_wp2_with fail
        (with_reducible refine (rName_any w nm).mono ?_)
        rw [HOK.out]
        rintro e w1 ⟨rfl, rfl⟩
        go_wp2_with fail
        (with_reducible refine (rTotal_any HD.out HTOT.out).mono ?_)
        rintro e w2 ⟨rfl, hu2⟩
        have HU2 := Lib.hid hu2
        have c0 := hu2.cell C0.out (by simp)
        clear hu2
        go_wp2_with fail
        (with_reducible refine (HGET.out w2 HU2.out).mono ?_)
        rintro e w3 ⟨rfl, hu3⟩
        have HU3 := Lib.hid (HU2.out.seq hu3)
        clear hu3 c0 q hwr0 htot
        go_wp2_with fail
        (with_reducible refine (rDo_any (wMake nm) (HD.out.upd0 HU3.out) HW.out rfl HLL.out).mono ?_)
        rintro e w5 ⟨rfl, ho5⟩
        have HO5 := Lib.hid (ho5.later HU3.out)
        obtain ⟨G5, hd5, hu5, hg5⟩ := HO5.out
        have D1 := Lib.hid hd5
        have HU5 := Lib.hid hu5
        have HG5 := Lib.hid hg5
        have HP1 := Lib.hid (bytes_upd HP.out hu5 HAP.out)
        have HAP1 : Hid (p ≠ [] → ∀ x ∈ blk (.slice ap p.length cp), x ∉ G5) := fun hne x hx hg => by
          rcases hg5 x hg with q | q
          · exact HAP.out hne x hx q
          · have := HLT.out hne x hx; omega
        clear ho5 hd5 hu5 hg5 HO5
        go_wp2_with fail
        go_loopw [7] (fun v wr => ∃ (k J : Nat) (G' : List Nat), k ≤ (chunks p).length ∧ Hid (J = 32 * k) ∧ v = .int .i64 (J : Int) ∧ Hid (RD w0 wr gr G' (dPut nm (dDo (wMake nm) s) ((chunks p).take k))) ∧ Hid (Upd G5 w5 wr) ∧ Hid (∀ x ∈ G', x ∈ G5 ∨ (w5.heap).size ≤ x)) (fun v _ => p.length - (intOf v).toNat)
        case atStart => exact ⟨0, 0, G5, Nat.zero_le _, rfl, rfl, D1.out, Upd.refl _ _, fun x hx => .inl hx⟩
        case round =>
          obtain ⟨k, J, G', hk, HJ, rfl, hd, hu, hg⟩ := hrel
          have hcl := chunks_len p
          by_cases hpos : J < p.length
          · have hlt : k < (chunks p).length := by have := HJ.out; omega
            obtain ⟨hw0, hstep⟩ : WrOk (wPut nm ((p.drop (32 * k)).take 32)) (dPut nm (dDo (wMake nm) s) ((chunks p).take k)).now ∧ (dPut nm (dDo (wMake nm) s) ((chunks p).take k)).log.length ≤ 1000000000 := by
              have ih := PutOk.all p D1.out.ok HIN1.out HLN1.out HTT1.out k hk
              have hcl2 : ((p.drop (32 * k)).take 32).length = min 32 (p.length - 32 * k) := by rw [List.length_take, List.length_drop]
              have htt := HTT1.out
              have := HJ.out
              refine ⟨(ih.step ((p.drop (32 * k)).take 32) (fun q => by rw [q] at hcl2; simp at hcl2; omega) HLN1.out (by rw [hcl2]; omega)).1, ?_⟩
              have := ih.log
              have := HLG1.out
              omega
            have HWO := Lib.hid hw0
            have HLO := Lib.hid hstep
            have HDT := Lib.hid (dPut_take nm (dDo (wMake nm) s) p k hlt)
            have q0 : (0 : Int) ≤ J := by omega
            have q1 : (J : Int) < p.length := by omega
            have hwr : IntKind.i64.wrap ((J : Int) + 32) = (J : Int) + 32 := by rw [IntKind.wrap_i64]; omega
            clear hw0 hstep hcl
            rcases Nat.lt_or_ge p.length (J + 32) with q | q
            · obtain ⟨M, hM⟩ : ∃ M, M = p.length := ⟨_, rfl⟩
              have q2 : (p.length : Int) < (J : Int) + 32 := by omega
              obtain ⟨Ln, hLn⟩ : ∃ Ln, M - J = Ln := ⟨_, rfl⟩
              obtain ⟨A, hA, hcut⟩ : ∃ A : Option Addr, A = (if cp = J then ap else ap.map (·.add J)) ∧ ∀ W, (Instr.slice 28 (.slice ap p.length cp) (some (.int .i64 (J : Int))) (some (.int .i64 (p.length : Int))) none).run Tryz.prog W = .ok (.slice A Ln (cp - J)) W :=
                ⟨_, rfl, fun W => by have h := run_cut_lh (P := Tryz.prog) (size := 1) Tryz.underlying28 (by kernel_rfl) ap p.length cp J M (by omega) (by omega) W (J : Int) (p.length : Int) rfl (by omega); rw [hLn] at h; simpa using h⟩
              have HRDC : Hid (Bytes wr (.slice A Ln (cp - J)) ((p.drop J).take Ln)) := by
                have h := (bytes_upd HP1.out hu.out HAP1.out).sub J M (by omega) (by omega)
                rw [hLn] at h
                unfold Hid; rw [hA]; exact h
              have hce : (p.drop (32 * k)).take 32 = (p.drop J).take Ln := by
                have := HJ.out
                subst this
                rcases Nat.lt_or_ge p.length (32 * k + 32) with q | q
                · rw [List.take_of_length_le (by rw [List.length_drop]; omega), List.take_of_length_le (by rw [List.length_drop]; omega)]
                · rw [show Ln = 32 by omega]
              rw [hce] at HDT HWO
              have hclen : ((p.drop J).take Ln).length = Ln := by rw [List.length_take, List.length_drop]; omega
              have HCL := Lib.hid hclen
              have HLB : Hid (Ln ≤ p.length) := by unfold Hid; omega
              clear hce hclen hA hLn hM
              obtain ⟨c, hc⟩ : ∃ c, (p.drop J).take Ln = c := ⟨_, rfl⟩
              rw [hc] at HDT HWO HRDC HCL
              clear hc
              have hu1 : Upd [] wr (wr.alloc (.cells #[] 5)) := (Upd.refl [] wr).alloc _
              have HRUN := Lib.hid (fun ty => run_app (P := Tryz.prog) (w := wr.alloc (.cells #[] 5)) (ty := ty) (base := wr.heap.size) bv_one Tryz.underlying28 infoB8 rfl (.slice (some ⟨wr.heap.size, 0, none⟩) 0 0) (.slice A Ln (cp - J)) [] c (own_emptyR wr.heap.size _ wr.heap.size (Nat.le_refl _) (Blk.new wr 5 [])) (HRDC.out.upd0 hu1) (by have := HLB.out; rw [HCL.out]; simp; omega) (by have := HLB.out; rw [HCL.out]; simp [maxLen]; omega) (by simp))
              have HU1 := Lib.hid hu1
              clear hu1
              go_wp2_with (at_builtin; go_must (refine wpList_app_of rfl _ _ rfl (.slice (some ⟨wr.heap.size, 0, none⟩) 0 0) (.slice A Ln (cp - J)) rfl rfl (HRUN.out _) ?_; rintro v2 w2 ⟨ho2, hu2, hk2⟩; have HU2 : Hid (Upd [] wr w2) := (HU1.out.trans hu2 (by simp) (fun y hy => .inr (by simp [blk] at hy; omega))); rw [List.nil_append] at ho2; obtain ⟨a2, k2, rfl, -⟩ := ho2.rd; have HO2 : Hid (Own bv wr.heap.size 5 w2 (slv ⟨a2, c.length, k2⟩) c) := ho2; clear ho2 hu2 hk2 HRUN HRDC HU1; dsimp only))
              (with_reducible refine (rPut_any nm c ⟨a2, c.length, k2⟩ hd.out HO2.out HU2.out HWO.out HLO.out).mono ?_)
              rintro e w4 ⟨rfl, G4, h4, hu4, hg4⟩
              have H4 : Hid (RD w0 w4 gr G4 (dPut nm (dDo (wMake nm) s) ((chunks p).take (k + 1)))) := by unfold Hid; rw [HDT.out]; exact h4
              have HU4 : Hid (Upd G5 w5 w4) := hu.out.trans hu4 (fun x hx => hx) hg.out
              have HG4 : Hid (∀ x ∈ G4, x ∈ G5 ∨ (w5.heap).size ≤ x) := fun x hx => by
                have := hu.out.size
                rcases hg4 x hx with r | r
                · exact hg.out x r
                · exact .inr (by omega)
              clear h4 hu4 hg4
              go_wp2_with fail
              go_roundw
              case rel => exact ⟨k + 1, J + 32, G4, by omega, by have := HJ.out; unfold Hid; omega, by go_num, H4, HU4, HG4⟩
              case measure => simp [intOf]; omega
            · obtain ⟨M, hM⟩ : ∃ M, M = J + 32 := ⟨_, rfl⟩
              have q2 : ¬ (p.length : Int) < (J : Int) + 32 := by omega
              obtain ⟨Ln, hLn⟩ : ∃ Ln, M - J = Ln := ⟨_, rfl⟩
              obtain ⟨A, hA, hcut⟩ : ∃ A : Option Addr, A = (if cp = J then ap else ap.map (·.add J)) ∧ ∀ W, (Instr.slice 28 (.slice ap p.length cp) (some (.int .i64 (J : Int))) (some (.int .i64 ((J : Int) + 32))) none).run Tryz.prog W = .ok (.slice A Ln (cp - J)) W :=
                ⟨_, rfl, fun W => by have h := run_cut_lh (P := Tryz.prog) (size := 1) Tryz.underlying28 (by kernel_rfl) ap p.length cp J M (by omega) (by omega) W (J : Int) ((J : Int) + 32) rfl (by omega); rw [hLn] at h; simpa using h⟩
              have HRDC : Hid (Bytes wr (.slice A Ln (cp - J)) ((p.drop J).take Ln)) := by
                have h := (bytes_upd HP1.out hu.out HAP1.out).sub J M (by omega) (by omega)
                rw [hLn] at h
                unfold Hid; rw [hA]; exact h
              have hce : (p.drop (32 * k)).take 32 = (p.drop J).take Ln := by
                have := HJ.out
                subst this
                rcases Nat.lt_or_ge p.length (32 * k + 32) with q | q
                · rw [List.take_of_length_le (by rw [List.length_drop]; omega), List.take_of_length_le (by rw [List.length_drop]; omega)]
                · rw [show Ln = 32 by omega]
              rw [hce] at HDT HWO
              have hclen : ((p.drop J).take Ln).length = Ln := by rw [List.length_take, List.length_drop]; omega
              have HCL := Lib.hid hclen
              have HLB : Hid (Ln ≤ p.length) := by unfold Hid; omega
              clear hce hclen hA hLn hM
              obtain ⟨c, hc⟩ : ∃ c, (p.drop J).take Ln = c := ⟨_, rfl⟩
              rw [hc] at HDT HWO HRDC HCL
              clear hc
              have hu1 : Upd [] wr (wr.alloc (.cells #[] 5)) := (Upd.refl [] wr).alloc _
              have HRUN := Lib.hid (fun ty => run_app (P := Tryz.prog) (w := wr.alloc (.cells #[] 5)) (ty := ty) (base := wr.heap.size) bv_one Tryz.underlying28 infoB8 rfl (.slice (some ⟨wr.heap.size, 0, none⟩) 0 0) (.slice A Ln (cp - J)) [] c (own_emptyR wr.heap.size _ wr.heap.size (Nat.le_refl _) (Blk.new wr 5 [])) (HRDC.out.upd0 hu1) (by have := HLB.out; rw [HCL.out]; simp; omega) (by have := HLB.out; rw [HCL.out]; simp [maxLen]; omega) (by simp))
              have HU1 := Lib.hid hu1
              clear hu1
              go_wp2_with (at_builtin; go_must (refine wpList_app_of rfl _ _ rfl (.slice (some ⟨wr.heap.size, 0, none⟩) 0 0) (.slice A Ln (cp - J)) rfl rfl (HRUN.out _) ?_; rintro v2 w2 ⟨ho2, hu2, hk2⟩; have HU2 : Hid (Upd [] wr w2) := (HU1.out.trans hu2 (by simp) (fun y hy => .inr (by simp [blk] at hy; omega))); rw [List.nil_append] at ho2; obtain ⟨a2, k2, rfl, -⟩ := ho2.rd; have HO2 : Hid (Own bv wr.heap.size 5 w2 (slv ⟨a2, c.length, k2⟩) c) := ho2; clear ho2 hu2 hk2 HRUN HRDC HU1; dsimp only))
              (with_reducible refine (rPut_any nm c ⟨a2, c.length, k2⟩ hd.out HO2.out HU2.out HWO.out HLO.out).mono ?_)
              rintro e w4 ⟨rfl, G4, h4, hu4, hg4⟩
              have H4 : Hid (RD w0 w4 gr G4 (dPut nm (dDo (wMake nm) s) ((chunks p).take (k + 1)))) := by unfold Hid; rw [HDT.out]; exact h4
              have HU4 : Hid (Upd G5 w5 w4) := hu.out.trans hu4 (fun x hx => hx) hg.out
              have HG4 : Hid (∀ x ∈ G4, x ∈ G5 ∨ (w5.heap).size ≤ x) := fun x hx => by
                have := hu.out.size
                rcases hg4 x hx with r | r
                · exact hg.out x r
                · exact .inr (by omega)
              clear h4 hu4 hg4
              go_wp2_with fail
              go_roundw
              case rel => exact ⟨k + 1, J + 32, G4, by omega, by have := HJ.out; unfold Hid; omega, by go_num, H4, HU4, HG4⟩
              case measure => simp [intOf]; omega
          · have q1 : ¬ (J : Int) < p.length := by omega
            have hke : k = (chunks p).length := by have := HJ.out; omega
            have HF : Hid (RD w0 wr gr G' (dPut nm (dDo (wMake nm) s) (chunks p))) := by have := hd.out; rwa [hke, List.take_length] at this
            clear hd hcl hke
            go_wp2_with fail
            go_ret
            exact ⟨by rw [HR.out]; rfl, by rw [HR.out]; exact ⟨G', HF.out, HU5.out.trans hu.out (fun x hx => hx) HG5.out, fun x hx => by
              rcases hg.out x hx with q | q
              · exact HG5.out x q
              · exact .inr (by have := HU5.out.size; omega)⟩⟩
end
end Go.Proofs.YtmhojaiajhdlcaaGreat
namespace Go.Proofs.YtmhojaiajhdlcaaGreat
open Go.RowKit
set_option linter.unusedSimpArgs false
set_option linter.unusedVariables false
set_option linter.unusedSectionVars false
/-- The rows from a slot on. -/
def tFrom (t : JS) (i : Nat) : JS := t.filter fun p => decide ((i : Int) ≤ p.1)
theorem tFrom_zero {t : JS} (h : JT t) : tFrom t 0 = t := List.filter_eq_self.2 (fun p hp => decide_eq_true (by have := (h.ks p hp).lo; omega))
theorem tFrom_end {t : JS} (h : JT t) : tFrom t 41 = [] := List.filter_eq_nil_iff.2 (fun p hp q => by have := (h.ks p hp).hi; have := of_decide_eq_true q; omega)
theorem tFrom_no {t : JS} (i : Nat) (h : ∀ v, ((i : Int), v) ∉ t) : tFrom t i = tFrom t (i + 1) := List.filter_congr (fun p hp => by
  have h1 : p.1 ≠ (i : Int) := fun q => h p.2 (by rw [← q]; exact hp)
  exact decide_eq_decide.2 (by omega))
theorem tFrom_in : ∀ (t : JS), Rising ltI t → ∀ (i : Nat) (v : ByteArray), ((i : Int), v) ∈ t → tFrom t i = ((i : Int), v) :: tFrom t (i + 1)
  | [], _, i, v, h => absurd h (by simp)
  | p :: u, hr, i, v, h => by
    have hd := hr.head intOrd
    rcases List.mem_cons.1 h with q | q
    · subst q
      have hall : ∀ q ∈ u, (i : Int) < q.1 := fun q hq => of_decide_eq_true (hd q hq)
      unfold tFrom
      rw [List.filter_cons, if_pos (decide_eq_true (Int.le_refl _)), List.filter_cons, if_neg (fun q => by have := of_decide_eq_true q; dsimp only at this; omega)]
      congr 1
      exact List.filter_congr (fun p hp => decide_eq_decide.2 (by have := hall p hp; omega))
    · have hlt : p.1 < (i : Int) := of_decide_eq_true (hd _ q)
      have ih := tFrom_in u hr.tail i v q
      unfold tFrom at ih ⊢
      rw [List.filter_cons, if_neg (fun q => by have := of_decide_eq_true q; omega), List.filter_cons, if_neg (fun q => by have := of_decide_eq_true q; omega)]
      exact ih
theorem tFrom_step {t : JS} (h : JT t) (hf : Full0 t) (i : Nat) : (jGet t i = s0 → tFrom t i = tFrom t (i + 1)) ∧ (jGet t i ≠ s0 → tFrom t i = ((i : Int), jGet t i) :: tFrom t (i + 1)) := by
  rcases get_cases (lt := ltI) s0 t (i : Int) with ⟨v, hv⟩ | hn
  · have hm := (get_mem intOrd s0 h.ris _ v).1 hv
    have hj : jGet t i = v := by unfold jGet; rw [hv]
    have hne := hf _ hm
    exact ⟨fun q => absurd (hj.symm.trans q) hne, fun _ => by rw [hj]; exact tFrom_in t h.ris i v hm⟩
  · have hj : jGet t i = s0 := by unfold jGet; rw [hn]
    refine ⟨fun _ => tFrom_no i (fun v hv => ?_), fun q => absurd hj q⟩
    have := (get_mem intOrd s0 h.ris _ v).2 hv
    rw [hn] at this
    injection this with _ this
    exact absurd this (by simp)
theorem dAppend_nil {s : DS} (h : DOk s) : (dAppend s nmN []).1 = 0 := by
  unfold dAppend
  rw [nmN_ok, if_pos rfl, if_neg (by have := h.tot; simp; omega)]
/-- The document's journal at gk, on the disk at gr; its slots. -/
structure RJ (w0 w : World) (gk gr : Nat) (hv : List ByteArray) : Prop where
  top : Blk w gk 78 (.pointer (some ⟨gr, 0, none⟩) :: hv.map .string)
  glb : w0.heap.size ≤ gk
  len : hv.length = 41
  old : Upd [] w0 w
section
variable {w0 w w' : World} {gk gr : Nat} {hv : List ByteArray}
theorem RJ.upd (h : RJ w0 w gk gr hv) {S : List Nat} (hu : Upd S w w') (hs : gk ∉ S) (hS : ∀ x ∈ S, w0.heap.size ≤ x) : RJ w0 w' gk gr hv :=
  ⟨h.top.upd hu hs, h.glb, h.len, h.old.trans hu (by simp) (fun x hx => .inr (hS x hx))⟩
theorem RJ.upd0 (h : RJ w0 w gk gr hv) (hu : Upd [] w w') : RJ w0 w' gk gr hv := h.upd hu (by simp) (by simp)
theorem RJ.c0 (h : RJ w0 w gk gr hv) : w.cell? ⟨gk, 0, none⟩ = some (.pointer (some ⟨gr, 0, none⟩)) := h.top.cell 0
theorem RJ.slot (h : RJ w0 w gk gr hv) (i : Nat) (hi : i < 41) : w.cell? ⟨gk, 1 + i, none⟩ = some (.string (nth hv i)) := by
  rw [Nat.add_comm 1 i]
  have h1 := h.top.cell (i + 1)
  rw [List.getElem?_cons_succ, List.getElem?_map, List.getElem?_eq_getElem (by rw [h.len]; exact hi)] at h1
  rw [nth_get _ _ (by rw [h.len]; exact hi)]
  exact h1
theorem RJ.set_ (h : RJ w0 w gk gr hv) (i : Nat) (d : ByteArray) : RJ w0 (w.setCell ⟨gk, 1 + i, none⟩ (.string d)) gk gr (hv.set i d) := by
  rw [Nat.add_comm 1 i]
  have hu : Upd [gk] w (w.setCell ⟨gk, i + 1, none⟩ (.string d)) := (Upd.refl [gk] w).setCell _ _ (.inl (by simp))
  refine ⟨?_, h.glb, by rw [List.length_set]; exact h.len, h.old.trans hu (by simp) (fun x hx => .inr (by simp at hx; subst hx; exact h.glb))⟩
  have h1 := h.top.set_ (i + 1) (.string d)
  rw [List.set_cons_succ, ← List.map_set] at h1
  exact h1
theorem RJ.rebase {W : World} (h : RJ w W gk gr hv) (hu : Upd [] w0 w) : RJ w0 W gk gr hv := ⟨h.top, Nat.le_trans hu.size h.glb, h.len, hu.seq h.old⟩
end
/-- A journal of the document and its disk: slots and files. -/
structure RJD (w0 w : World) (gr gk : Nat) (G : List Nat) (t : JS) (s : DS) : Prop where
  rj : ∃ hv, RJ w0 w gk gr hv ∧ Has t hv
  jt : JT t
  full : Full0 t
  rd : RD w0 w gr G s
  ap : gk ∉ G
def RJOut (w0 w : World) (gr gk : Nat) (S : List Nat) (t : JS) (s : DS) (w' : World) : Prop := ∃ G', RJD w0 w' gr gk G' t s ∧ Upd S w w' ∧ (gk ∈ S ∨ w.heap.size ≤ gk) ∧ (∀ x ∈ G', x ∈ S ∨ w.heap.size ≤ x)
section
variable {w0 w w' : World} {gr gk : Nat} {G : List Nat} {t t' : JS} {s s' : DS}
theorem RJD.old (h : RJD w0 w gr gk G t s) : Upd [] w0 w := h.rd.old
theorem RJD.geK (h : RJD w0 w gr gk G t s) : w0.heap.size ≤ gk ∧ gk < w.heap.size := by
  obtain ⟨hv, h1, -⟩ := h.rj
  exact ⟨h1.glb, h1.top.lt⟩
theorem RJD.upd (h : RJD w0 w gr gk G t s) {S : List Nat} (hu : Upd S w w') (h1 : gk ∉ S) (h2 : ∀ x ∈ G, x ∉ S) (hS : ∀ x ∈ S, w0.heap.size ≤ x) : RJD w0 w' gr gk G t s := by
  obtain ⟨hv, h3, h4⟩ := h.rj
  exact ⟨⟨hv, h3.upd hu h1 hS, h4⟩, h.jt, h.full, h.rd.upd hu h2 hS, h.ap⟩
theorem RJD.upd0 (h : RJD w0 w gr gk G t s) (hu : Upd [] w w') : RJD w0 w' gr gk G t s := h.upd hu (by simp) (by simp) (by simp)
theorem RJD.out0 (h : RJD w0 w gr gk G t s) (hu : Upd [] w w') : RJOut w0 w gr gk (gk :: G) t s w' :=
  ⟨G, h.upd0 hu, hu.mono (by simp), .inl (by simp), fun x hx => .inl (List.mem_cons_of_mem _ hx)⟩
/-- Behind a call on the disk alone. -/
theorem RJD.disk (h : RJD w0 w gr gk G t s) {w1 : World} (hu : Upd [] w w1) (hd : ROut w0 w1 gr G s' w') : ∃ G', RJD w0 w' gr gk G' t s' ∧ Upd G w w' ∧ (∀ x ∈ G', x ∈ G ∨ w.heap.size ≤ x) := by
  obtain ⟨G', k1, k2, k3⟩ := hd
  have h1 := h.upd0 hu
  have hs := hu.size
  have hk := h.geK
  obtain ⟨hv, h3, h4⟩ := h1.rj
  refine ⟨G', ⟨⟨hv, h3.upd k2 h.ap (fun x hx => (h.rd.ge x hx).1), h4⟩, h.jt, h.full, k1, fun hg => ?_⟩, hu.trans k2 (by simp) (fun x hx => .inl hx), fun x hx => (k3 x hx).imp id (fun q => by omega)⟩
  rcases k3 gk hg with q | q
  · exact h.ap q
  · omega
theorem RJD.out (h : RJD w0 w gr gk G t s) {G' : List Nat} (h2 : RJD w0 w' gr gk G' t' s') (hu : Upd (gk :: G) w w') (hf : ∀ x ∈ G', x ∈ gk :: G ∨ w.heap.size ≤ x) : RJOut w0 w gr gk (gk :: G) t' s' w' :=
  ⟨G', h2, hu, .inl (by simp), hf⟩
theorem RJOut.then_ {w1 : World} {G1 : List Nat} (hu : Upd (gk :: G) w w1) (hf : ∀ x ∈ G1, x ∈ gk :: G ∨ w.heap.size ≤ x) (h : RJOut w0 w1 gr gk (gk :: G1) t s w') : RJOut w0 w gr gk (gk :: G) t s w' := by
  obtain ⟨G', k1, k2, k3, k4⟩ := h
  have hs := hu.size
  have key : ∀ x ∈ gk :: G1, x ∈ gk :: G ∨ w.heap.size ≤ x := fun x hx => by
    rcases List.mem_cons.1 hx with q | q
    · exact .inl (by rw [q]; simp)
    · exact hf x q
  refine ⟨G', k1, hu.trans k2 (fun x hx => hx) key, .inl (by simp), fun x hx => ?_⟩
  rcases k4 x hx with q | q
  · exact key x q
  · exact .inr (by omega)
end
end Go.Proofs.YtmhojaiajhdlcaaGreat
namespace Go.Proofs.YtmhojaiajhdlcaaGreat
open Go.RowKit
set_option linter.unusedSimpArgs false
set_option linter.unusedVariables false
set_option linter.unusedSectionVars false
set_option maxRecDepth 20000 in
set_option maxHeartbeats 4000000 in
theorem rjTake_any {w0 w : World} {gk gr : Nat} {hv : List ByteArray} (u : Value) (l : List Ch) (h : RJ w0 w gk gr hv) (hl : RdN 2 chCells w u l) (hap : gk ∉ blk u) (hok : ∀ c ∈ l, 0 ≤ c.1 ∧ c.1 ≤ 40) :
    Calls Tryz.prog 84 #[.pointer (some ⟨gk, 0, none⟩), u] w fun e w' => e = .returned (.tuple #[]) ∧ RJ w0 w' gk gr (putAll hv l) ∧ Upd [gk] w w' := by
  have HL := Lib.hid hl
  obtain ⟨a, c, rfl, hlc, hcm, -⟩ := hl
  have hm1 : l.length ≤ 9223372036854775807 := by unfold maxLen at hcm; omega
  have HOK := Lib.hid hok
  have HAP : Hid (∀ x ∈ blk (.slice a l.length c), x ∉ [gk]) := fun x hx q => by simp at q; subst q; exact hap hx
  have H0 : Hid (RJ w0 w gk gr (putAll hv (l.take 0))) := h
  clear h hok hap hlc hcm
  go_enter Tryz.func84, Tryz.ntmps84
  go_wp2_with fail
  go_loopw [4] (fun vi wr => ∃ j : Nat, j ≤ l.length ∧ vi = .int .i64 (j : Int) ∧ Hid (RJ w0 wr gk gr (putAll hv (l.take j))) ∧ Hid (Upd [gk] w wr)) (fun vi _ => l.length - (intOf vi).toNat)
  case atStart => exact ⟨0, by omega, rfl, H0, Upd.refl _ _⟩
  case round =>
    clear H0
    obtain ⟨j, hjl, rfl, hj, hu⟩ := hrel
    by_cases hlt : j < l.length
    · have r1 : (j : Int) < l.length := by omega
      have r0 : (0 : Int) ≤ j := by omega
      have hrj : RdN 2 chCells wr (.slice a l.length c) l := RdN.upd chCells_len HL.out hu.out HAP.out
      obtain ⟨aa, kk, he3, -, -, hc3⟩ := hrj
      injection he3 with f1 f2 f3
      obtain ⟨b, o, hb, hc⟩ := hc3 (by intro h; rw [h] at hlt; simp at hlt)
      rw [← f1] at hb
      subst hb
      have hsl := HOK.out (nth l j) (by rw [nth_get _ _ hlt]; exact List.getElem_mem _)
      have hpt := putAll_take hv l j hlt
      have e0 : wr.cell? ⟨b, o + j * 2, none⟩ = some (.int .i64 (nth l j).1) := hc j hlt 0 (by omega)
      have e1 : wr.cell? ⟨b, o + j * 2 + 1, none⟩ = some (.string (nth l j).2) := hc j hlt 1 (by omega)
      obtain ⟨i, hi⟩ := Int.eq_ofNat_of_zero_le hsl.1
      obtain ⟨y, hy⟩ : ∃ y, (nth l j).2 = y := ⟨_, rfl⟩
      rw [hi] at e0 hsl hpt
      rw [hy] at e1 hpt
      have HPT : Hid (putAll hv (l.take (j + 1)) = (putAll hv (l.take j)).set i y) := hpt
      have g0 : (0 : Int) ≤ i := by omega
      have g1 : (i : Int) < 41 := by omega
      have d0 := hj.out.slot i (by omega)
      have df := hj.out.top.frozen (1 + i)
      have HJN : Hid (RJ w0 (wr.drew.setCell ⟨gk, 1 + i, none⟩ (.string y)) gk gr (putAll hv (l.take (j + 1)))) := by
        unfold Hid; rw [HPT.out]; exact (hj.out.upd0 ((Upd.refl [] wr).drew)).set_ i y
      have HUN : Hid (Upd [gk] w (wr.drew.setCell ⟨gk, 1 + i, none⟩ (.string y))) := (hu.out.trans (((Upd.refl [gk] wr).drew).setCell _ _ (.inl (by simp))) (fun x hx => hx) (fun x hx => .inl hx))
      generalize nth (putAll hv (l.take j)) i = old at d0
      clear hpt hy hi hsl hc hc3 f1 f2 f3 HPT hj hu
      go_wp2_with fail
      go_still_tail 14, (by kernel_rfl)
      change wpList _ _ _ _ _ wr.drew
      go_wp2_with fail
      go_roundw
      case rel => exact ⟨j + 1, by omega, by go_num, HJN, HUN⟩
      case measure => simp [intOf]; omega
    · obtain rfl : j = l.length := by omega
      have r1 : ¬ ((l.length : Nat) : Int) < l.length := by omega
      have HB6 := Lib.hid hj.out
      rw [List.take_length] at HB6
      have H6 := Lib.hid hu.out
      clear hj hu hlt
      go_wp2_with fail
      go_end0
      exact ⟨rfl, HB6.out, H6.out⟩
end Go.Proofs.YtmhojaiajhdlcaaGreat
namespace Go.Proofs.YtmhojaiajhdlcaaGreat
open Go.RowKit
set_option linter.unusedSimpArgs false
set_option linter.unusedVariables false
set_option maxHeartbeats 4000000 in
theorem dNumN_any (v : Value) (l : List UInt8) (m : Nat) (w : World) (h : Bytes w v l) (hz : l.length ≤ 90000000000) (hm : m < 9223372036854775808) :
    Calls Tryz.prog 47 #[v, .int .i64 (m : Int)] w fun e w' => ∃ x, e = .returned x ∧ Own bv w.heap.size 5 w' x (l ++ encNum m) ∧ Upd [] w w' := by
  have H := Lib.hid h
  have h8 := nb_le8 m (by omega)
  obtain ⟨a, cap, rfl, -, -, -⟩ := h
  go_enter Tryz.func47, Tryz.ntmps47
  go_wp2_with (at_builtin; refine wpList_app bv_one rfl (.tmp 9) (.tmp 10) rfl Tryz.underlying28 infoByte rfl (.slice (some ⟨w.heap.size, 0, none⟩) 0 0) (.slice a l.length cap) [] l rfl rfl (Own.room (base := w.heap.size) (Nat.le_refl _) rfl rfl (Nat.zero_le _)) (H.out.alloc _) (by simp; omega) (by unfold maxLen; simp; omega) (by simp) ?_; intro v1 w1 ho hu hbk; rw [List.nil_append] at ho; have HU1 : Hid (Upd [] w w1) := ((Upd.refl [] w).alloc _).trans hu (by simp) (by simp [blk]); have HO1 := Lib.hid ho; clear ho hu hbk)
  go_loop [6, 7] (fun i x => ∃ k : Nat, i = .int .i64 (k : Int) ∧ k ≤ nb m ∧ x = .int .i64 ((m / 256 ^ k : Nat) : Int)) (fun i _ => 8 - (intOf i).toNat)
  case atStart => exact ⟨0, rfl, Nat.zero_le _, by simp⟩
  case round =>
    obtain ⟨k, rfl, hk, rfl⟩ := hrel
    have hxk : m / 256 ^ k < 9223372036854775808 := Nat.lt_of_le_of_lt (Nat.div_le_self _ _) hm
    have hnx : ((m / 256 ^ k : Nat) : Int) / 256 = ((m / 256 ^ (k + 1) : Nat) : Int) := by
      rw [Nat.pow_succ, ← Nat.div_div_eq_div_mul]; omega
    by_cases hlt : k < nb m
    · have hpos : 0 < m / 256 ^ k := (nb_lt k m).1 hlt
      have hk8 : k < 8 := by omega
      obtain ⟨x, HX⟩ : ∃ x, Hid (m / 256 ^ k = x) := ⟨_, rfl⟩
      rw [HX.out] at hpos hnx hxk
      rw [HX.out]
      have HNX := Lib.hid hnx
      have hp2 : (0 : Int) < x := by omega
      clear hnx
      go_wp2_with fail
      go_round
      case rel => exact ⟨k + 1, by go_num, by omega, congrArg _ HNX.out⟩
      case measure => simp [intOf]; omega
    · have hkm : nb m = k := by omega
      have hk8 : k ≤ 8 := by omega
      have hz0 : m / 256 ^ k = 0 := Nat.eq_zero_of_not_pos (fun q => hlt ((nb_lt k m).2 q))
      rw [hz0]
      clear hnx hxk hz0
      have hkb : k < 256 := by omega
      have HLIT := Lib.hid (Rd.lit (w := w1) (c := bv) [UInt8.ofNat k] (C := #[.int .u8 (k : Int)]) (e := 5) (fr := (0, 0)) (g := w1.heap.size) (n := 1) (k := 1) rfl (by rw [List.map_singleton, byte_small k hkb]) rfl (Nat.le_refl _) (by decide))
      have HEN : Hid (l ++ encNum m = (l ++ [UInt8.ofNat k]) ++ beB k m) := by unfold Hid encNum; rw [hkm]; simp
      have hs1 := HU1.out.size
      have HKM := Lib.hid hkm
      clear hkm hlt
      go_wp2_with (at_builtin; refine wpList_app bv_one rfl (.tmp 21) (.tmp 24) rfl Tryz.underlying28 infoByte rfl v1 (.slice (some ⟨w1.heap.size, 0, none⟩) 1 1) l [UInt8.ofNat k] rfl rfl (HO1.out.upd ((Upd.refl [] w1).alloc _) (by simp)) HLIT.out (by simp; omega) (by unfold maxLen; simp; omega) (by simp; omega) ?_; intro v2 w2 ho hu hbk; have HU2 : Hid (Upd [] w w2) := (HU1.out.alloc _).trans hu (by simp) (fun x hx => .inr (HO1.out.ge x hx).1); have HO2 := Lib.hid ho; clear ho hu hbk)
      go_loopw [5, 8] (fun b i wr => ∃ (r : Nat) (c : List UInt8), i = .int .i64 ((r : Int) - 1) ∧ r ≤ k ∧ c.length + r = l.length + 1 + k ∧ Hid (Own bv w.heap.size 5 wr b c) ∧ Hid (Upd [] w wr) ∧ Hid (c ++ beB r m = l ++ encNum m)) (fun _ i _ => (intOf i + 1).toNat)
      case atStart => exact ⟨k, l ++ [UInt8.ofNat k], by go_num, Nat.le_refl _, by simp, HO2, HU2, HEN.out.symm⟩
      case round =>
        obtain ⟨r, c, rfl, hr, hcl, hob, hu, hen⟩ := hrel
        cases r with
        | zero =>
          have HR : Hid (c = l ++ encNum m) := by have := hen.out; unfold Hid; rw [beB, List.append_nil] at this; exact this
          go_wp2_with fail
          go_ret
          exact ⟨_, rfl, by rw [← HR.out]; exact hob.out, hu.out⟩
        | succ r =>
          have q1 : ((r + 1 : Nat) : Int) - 1 = (r : Int) := by omega
          rw [q1]
          clear q1
          have hr8 : r ≤ 8 := by omega
          have HEN2 : Hid ((c ++ [UInt8.ofNat (m / 256 ^ r)]) ++ beB r m = l ++ encNum m) := by have := hen.out; unfold Hid; rw [beB] at this; rw [← this]; simp
          have HLIT2 := Lib.hid (Rd.lit (w := wr) (c := bv) [UInt8.ofNat (m / 256 ^ r)] (C := #[.int .u8 ((m : Int) / 2 ^ (8 * r) % 256)]) (e := 5) (fr := (0, 0)) (g := wr.heap.size) (n := 1) (k := 1) rfl (by rw [List.map_singleton, byte_at]) rfl (Nat.le_refl _) (by decide))
          have hs2 := hu.out.size
          generalize UInt8.ofNat (m / 256 ^ r) = y at *
          obtain ⟨ab, cb, rfl, -⟩ := hob.out.rd
          go_wp2_with (at_builtin; refine wpList_app bv_one rfl (.tmp 32) (.tmp 38) rfl Tryz.underlying28 infoByte rfl (.slice ab c.length cb) (.slice (some ⟨wr.heap.size, 0, none⟩) 1 1) c [y] rfl rfl (hob.out.upd ((Upd.refl [] wr).alloc _) (by simp)) HLIT2.out (by simp; omega) (by unfold maxLen; simp; omega) (by simp; omega) ?_; intro v4 w4 ho hu4 hbk; have HU4 : Hid (Upd [] w w4) := (hu.out.alloc _).trans hu4 (by simp) (fun x hx => .inr (hob.out.ge x hx).1); have HO4 := Lib.hid ho; clear ho hu4 hbk)
          go_roundw
          case rel => exact ⟨r, c ++ [y], by go_num, by omega, by simp; omega, HO4, HU4, HEN2⟩
          case measure => simp [intOf]; try omega
set_option maxHeartbeats 4000000 in
theorem dNumNeg_any (v : Value) (l : List UInt8) (M : Int) (w : World) (h : Bytes w v l) (hz : l.length ≤ 90000000000) (hM : M < 0) (hM1 : -9223372036854775808 ≤ M) :
    Calls Tryz.prog 47 #[v, .int .i64 M] w fun e w' => ∃ x, e = .returned x ∧ Own bv w.heap.size 5 w' x (l ++ encNum 0) ∧ Upd [] w w' := by
  have H := Lib.hid h
  obtain ⟨a, cap, rfl, -, -, -⟩ := h
  go_enter Tryz.func47, Tryz.ntmps47
  go_wp2_with (at_builtin; refine wpList_app bv_one rfl (.tmp 9) (.tmp 10) rfl Tryz.underlying28 infoByte rfl (.slice (some ⟨w.heap.size, 0, none⟩) 0 0) (.slice a l.length cap) [] l rfl rfl (Own.room (base := w.heap.size) (Nat.le_refl _) rfl rfl (Nat.zero_le _)) (H.out.alloc _) (by simp; omega) (by unfold maxLen; simp; omega) (by simp) ?_; intro v1 w1 ho hu hbk; rw [List.nil_append] at ho; have HU1 : Hid (Upd [] w w1) := ((Upd.refl [] w).alloc _).trans hu (by simp) (by simp [blk]); have HO1 := Lib.hid ho; clear ho hu hbk)
  have hs1 := HU1.out.size
  go_loop [6, 7] (fun i x => i = .int .i64 0 ∧ x = .int .i64 0) (fun _ _ => 0)
  case atStart => exact ⟨rfl, rfl⟩
  case round =>
    obtain ⟨rfl, rfl⟩ := hrel
    have HLIT := Lib.hid (Rd.lit (w := w1) (c := bv) [(0 : UInt8)] (C := #[.int .u8 0]) (e := 5) (fr := (0, 0)) (g := w1.heap.size) (n := 1) (k := 1) rfl rfl rfl (Nat.le_refl _) (by decide))
    go_wp2_with (at_builtin; refine wpList_app bv_one rfl (.tmp 21) (.tmp 24) rfl Tryz.underlying28 infoByte rfl v1 (.slice (some ⟨w1.heap.size, 0, none⟩) 1 1) l [(0 : UInt8)] rfl rfl (HO1.out.upd ((Upd.refl [] w1).alloc _) (by simp)) HLIT.out (by simp; omega) (by unfold maxLen; simp; omega) (by simp; omega) ?_; intro v2 w2 ho hu hbk; have HU2 : Hid (Upd [] w w2) := (HU1.out.alloc _).trans hu (by simp) (fun x hx => .inr (HO1.out.ge x hx).1); have HO2 := Lib.hid ho; clear ho hu hbk)
    go_loop [5, 8] (fun b i => b = v2 ∧ i = .int .i64 (-1)) (fun _ _ => 0)
    case atStart => exact ⟨rfl, rfl⟩
    case round =>
      obtain ⟨rfl, rfl⟩ := hrel
      go_wp2_with fail
      go_ret
      exact ⟨_, rfl, by rw [enc_zero]; exact HO2.out, HU2.out⟩
theorem dNumW_any (v : Value) (l : List UInt8) (M : Int) (w : World) (h : Bytes w v l) (hz : l.length ≤ 90000000000) (hM : I64 M) :
    Calls Tryz.prog 47 #[v, .int .i64 M] w fun e w' => ∃ x, e = .returned x ∧ Own bv w.heap.size 5 w' x (l ++ encNum M.toNat) ∧ Upd [] w w' := by
  obtain ⟨h1, h2⟩ := hM
  by_cases hn : M < 0
  · have : M.toNat = 0 := by omega
    rw [this]; exact dNumNeg_any v l M w h hz hn h1
  · obtain ⟨m, rfl⟩ := Int.eq_ofNat_of_zero_le (show 0 ≤ M by omega)
    exact dNumN_any v l m w h hz (by omega)
set_option maxHeartbeats 1000000 in
theorem dTextW_any (v : Value) (l : List UInt8) (S : ByteArray) (w : World) (h : Bytes w v l) (hz : l.length ≤ 80000000000) (hs : S.size ≤ 10000000000) :
    Calls Tryz.prog 48 #[v, .string S] w fun e w' => ∃ x, e = .returned x ∧ Own bv w.heap.size 5 w' x (l ++ encText S) ∧ Upd [] w w' := by
  have H := Lib.hid h
  have h8 := nb_le8 S.size (by omega)
  have hel := encNum_len S.size
  have HE : Hid (l ++ encText S = (l ++ encNum S.size) ++ S.data.toList) := by unfold Hid encText; rw [List.append_assoc]
  go_enter Tryz.func48, Tryz.ntmps48
  go_wp2_with fail
  with_reducible refine (dNumW_any _ l (S.size : Int) _ H.out (by omega) (i64_mk (by omega) (by omega))).mono ?_
  rintro e w2 ⟨v2, rfl, ho2, hu2⟩
  have HO2 := Lib.hid ho2
  have HU2 := Lib.hid hu2
  have hs2 := HU2.out.size
  clear ho2 hu2
  rw [Int.toNat_natCast] at HO2
  have hl2 : (l ++ encNum S.size).length = l.length + (1 + nb S.size) := by rw [List.length_append, hel]
  generalize l ++ encNum S.size = l2 at *
  go_wp2_with (at_builtin; refine wpList_app_str rfl (.tmp 8) (.tmp 9) rfl Tryz.underlying28 Tryz.underlying9 infoByte v2 S l2 rfl rfl HO2.out (by omega) (by unfold maxLen; omega) hs2 ?_; intro v3 w3 ho hu; have HU3 : Hid (Upd [] w w3) := HU2.out.trans hu (by simp) (fun x hx => .inr (HO2.out.ge x hx).1); have HO3 := Lib.hid ho; clear ho hu)
  go_ret
  exact ⟨_, rfl, by rw [HE.out]; exact HO3.out, HU3.out⟩
end Go.Proofs.YtmhojaiajhdlcaaGreat
namespace Go.Proofs.YtmhojaiajhdlcaaGreat
open Go.RowKit
set_option linter.unusedSimpArgs false
set_option linter.unusedVariables false
theorem encs_le (l : List Ch) (hn : ∀ c ∈ l, I64 c.1 ∧ c.2.size ≤ 1000000) : (l.flatMap encCh).length ≤ 1000018 * l.length := by
  induction l with
  | nil => simp
  | cons c l ih =>
    have h1 := ih (fun x hx => hn x (by simp [hx]))
    have h2 := hn c (by simp)
    have h3 := encCh_le c.1 c.2 h2.1 h2.2
    have h4 : (encCh c).length ≤ 18 + c.2.size := h3
    rw [List.flatMap_cons, List.length_append, List.length_cons]
    omega
set_option maxRecDepth 20000 in
set_option maxHeartbeats 8000000 in
theorem rjPut_any (u : Value) (l : List Ch) (w : World) (h2 : RdN 2 chCells w u l) (hn : ∀ c ∈ l, I64 c.1 ∧ c.2.size ≤ 1000000) (hz : l.length ≤ 1000) :
    Calls Tryz.prog 83 #[u] w fun e w' => ∃ a n k, e = .returned (.slice a n k) ∧ Hid (Own bv w.heap.size 5 w' (.slice a n k) (encChs l)) ∧ Upd [] w w' := by
  obtain ⟨ao, co, rfl, -, hcm, hcell⟩ := h2
  have HC := Lib.hid hcell
  have HN := Lib.hid hn
  have HLE : Hid (∀ i, (encNum l.length ++ (l.take i).flatMap encCh).length ≤ 2000000000) := fun i => by
    have h1 := encs_le (l.take i) (fun c hc => hn c (List.mem_of_mem_take hc))
    have h3 := nb_le8 l.length (by omega)
    have h4 := encNum_len l.length
    have h5 : (l.take i).length ≤ 1000 := by rw [List.length_take]; omega
    rw [List.length_append]
    omega
  have hm1 : l.length ≤ 9223372036854775807 := by omega
  clear hcell hn hcm
  go_enter Tryz.func83, Tryz.ntmps83
  go_wp2_with fail
  (with_reducible refine (dNumW_any (.slice none 0 0) [] (l.length : Int) w (Rd.nil w) (by simp) (i64_mk (by omega) (by omega))).mono ?_)
  rintro e w1 ⟨x, rfl, h, hu⟩
  obtain ⟨a1, k1, rfl, -⟩ := h.rd
  have HO : Hid (Own bv w.heap.size 5 w1 (.slice a1 ([] ++ encNum (l.length : Int).toNat).length k1) (encNum l.length ++ (l.take 0).flatMap encCh)) := by
    unfold Hid
    rw [List.take_zero, List.flatMap_nil, List.append_nil]
    exact h
  have HU := Lib.hid hu
  clear h hu
  obtain ⟨n1, hn1⟩ : ∃ n, ([] ++ encNum (l.length : Int).toNat).length = n := ⟨_, rfl⟩
  rw [hn1] at HO ⊢
  clear hn1
  go_wp2_with fail
  go_loopw [3, 4] (fun vb vi wr => ∃ (i : Nat) (a : Option Addr) (n k : Nat), i ≤ l.length ∧ vb = .slice a n k ∧ vi = .int .i64 (i : Int) ∧ Hid (Own bv w.heap.size 5 wr (.slice a n k) (encNum l.length ++ (l.take i).flatMap encCh)) ∧ Hid (Upd [] w wr)) (fun _ vi _ => l.length - (intOf vi).toNat)
  case atStart => exact ⟨0, a1, n1, k1, by omega, rfl, rfl, HO, HU⟩
  case round =>
    clear HO HU
    obtain ⟨i, a, n, k, hil, rfl, rfl, ho, hu⟩ := hrel
    by_cases hlt : i < l.length
    · obtain ⟨b, off, rfl, hc⟩ := HC.out (by intro h; simp [h] at hlt)
      have q1 : (i : Int) < l.length := by omega
      have q2 : (0 : Int) ≤ i := by omega
      have hc0 := hc i hlt
      have hgx := HN.out (nth l i) (by rw [nth_get _ _ hlt]; exact List.getElem_mem _)
      have hfm : (l.take (i + 1)).flatMap encCh = (l.take i).flatMap encCh ++ (encNum (nth l i).1.toNat ++ encText (nth l i).2) := by
        rw [nth_get _ _ hlt, List.take_add_one, List.getElem?_eq_getElem hlt, List.flatMap_append]; simp [encCh]
      generalize nth l i = c at *
      obtain ⟨c1, d⟩ := c
      dsimp only at hgx hfm
      have HGX := Lib.hid hgx
      have d0 : wr.cell? ⟨b, off + i * 2, none⟩ = some (.int .i64 c1) := hu.out.cell (hc0 0 (by omega)) (by simp)
      have d1 : wr.cell? ⟨b, off + i * 2 + 1, none⟩ = some (.string d) := hu.out.cell (hc0 1 (by omega)) (by simp)
      have hB := HLE.out i
      obtain ⟨B, hBB⟩ : ∃ B, encNum l.length ++ (l.take i).flatMap encCh = B := ⟨_, rfl⟩
      rw [hBB] at ho hB
      have HFM : Hid (encNum l.length ++ (l.take (i + 1)).flatMap encCh = B ++ encNum c1.toNat ++ encText d) := by
        unfold Hid; rw [hfm, ← hBB]; simp only [List.append_assoc]
      have h9 := nb_le8 c1.toNat (by have := hgx.1.2; omega)
      have h10 := encNum_len c1.toNat
      have HN1 : Hid (∀ W, Upd [] wr W → Calls Tryz.prog 47 #[.slice a n k, .int .i64 c1] W fun e w' => ∃ a' n' k', e = .returned (.slice a' n' k') ∧ Hid (Own bv w.heap.size 5 w' (.slice a' n' k') (B ++ encNum c1.toNat)) ∧ Upd [] wr w') := fun W hW => by
        refine (dNumW_any _ B c1 W (ho.out.upd hW (by simp)).rd (by omega) HGX.out.1).mono ?_
        rintro e w' ⟨x, rfl, h, hu2⟩
        obtain ⟨a', k', rfl, -⟩ := h.rd
        exact ⟨a', _, k', rfl, h.base_le (Nat.le_trans hu.out.size hW.size), hW.seq hu2⟩
      have HT1 : Hid (∀ (a' : Option Addr) (n' k' : Nat) (W1 W : World), Hid (Own bv w.heap.size 5 W1 (.slice a' n' k') (B ++ encNum c1.toNat)) → Upd [] wr W1 → Upd [] W1 W → Calls Tryz.prog 48 #[.slice a' n' k', .string d] W fun e w' => ∃ a'' n'' k'', e = .returned (.slice a'' n'' k'') ∧ Hid (Own bv w.heap.size 5 w' (.slice a'' n'' k'') (B ++ encNum c1.toNat ++ encText d)) ∧ Upd [] wr w') := fun a' n' k' W1 W h1 hW1 hW => by
        refine (dTextW_any _ (B ++ encNum c1.toNat) d W (h1.out.upd hW (by simp)).rd (by rw [List.length_append]; omega) (by have := HGX.out.2; omega)).mono ?_
        rintro e w' ⟨x, rfl, h, hu2⟩
        obtain ⟨a'', k'', rfl, -⟩ := h.rd
        exact ⟨a'', _, k'', rfl, h.base_le (Nat.le_trans (Nat.le_trans hu.out.size hW1.size) hW.size), (hW1.seq hW).seq hu2⟩
      have D0 := Lib.hid d0
      have D1 := Lib.hid d1
      clear hc hc0 hgx hfm hBB hB h9 h10 ho
      go_wp2_with fail
      go_region_held3 (fun w' => w'.cell? ⟨b, off + i * 2, none⟩ = some (.int .i64 c1) ∧ w'.cell? ⟨b, off + i * 2 + 1, none⟩ = some (.string d)) (first | go_keep | exact ⟨ru.cell D0.out (by simp), ru.cell D1.out (by simp)⟩) (first
        | (go_at_call 47; (with_reducible refine (HN1.out _ ?_).mono ?_); (repeat (first | exact Upd.refl _ _ | apply Upd.drew | apply Upd.drewN | apply Upd.alloc)); (rintro e w1 ⟨a1, n1, k1, rfl, ho1, ru⟩; dsimp only))
        | (go_at_call 48; (with_reducible refine (HT1.out _ _ _ _ _ ho1 ru ?_).mono ?_); (repeat (first | exact Upd.refl _ _ | apply Upd.drew | apply Upd.drewN | apply Upd.alloc)); (rintro e w2 ⟨a2, n2, k2, rfl, ho2, ru⟩; dsimp only)))
      all_goals
        have HO2 : Hid (Own bv w.heap.size 5 w2 (.slice a2 n2 k2) (encNum l.length ++ (l.take (i + 1)).flatMap encCh)) := by
          unfold Hid; rw [HFM.out]; exact ho2.out
        have HU2 := Lib.hid (hu.out.seq ru)
        clear ho1 ho2 ru
        go_wp2_with fail
        go_roundw
        case rel => exact ⟨i + 1, a2, n2, k2, by omega, rfl, by go_num, HO2, HU2⟩
        case measure => simp [intOf]; omega
    · obtain rfl : i = l.length := by omega
      have q1 : ¬ ((l.length : Nat) : Int) < l.length := by omega
      have hoo := ho.out
      rw [List.take_length] at hoo
      have HOO : Hid (Own bv w.heap.size 5 wr (.slice a n k) (encChs l)) := hoo
      clear hoo ho hlt
      go_wp2_with fail
      go_ret
      exact ⟨a, n, k, rfl, HOO, hu.out⟩
end Go.Proofs.YtmhojaiajhdlcaaGreat
