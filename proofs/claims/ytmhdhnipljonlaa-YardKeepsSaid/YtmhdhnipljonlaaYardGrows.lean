/- The walk of YardGrows. -/
import Derived.Test.YtmhdhnipljonlaaYardFull
import Derived.Test.YtmhdhnipljonlaaRoomed
namespace Go.Proofs.Ytmhdhnipljonlaa
open Go.RowKit
set_option linter.unusedSimpArgs false
set_option linter.unusedVariables false
theorem tGet_set {l : List (Int × Int)} (h : Rising ltY l) (k v : Int) : tGet ltY 0 (tSet ltY l k v) k = (v, true) := by
  have hm : (k, v) ∈ tSet ltY l k v := by unfold tSet; simp
  obtain ⟨i, hi, he⟩ := List.mem_iff_getElem.1 hm
  have := tGet_at intOrd 0 (h.set_ intOrd k v) i hi
  rwa [nth_get _ i hi, he] at this
theorem YD.tkris {w0 w : World} {gy : Nat} {G : List Nat} {fl : FL} {tk : List (Int × Int)} (h : YD w0 w gy G fl tk) : Rising ltY tk := by
  obtain ⟨gf, gt, F, T, cs, hc, -⟩ := h.ex
  exact hc.taken.ris
theorem one_read (aa : List UInt8) (tk : List (Int × Int)) (a n : Nat) (s : ByteArray) : yRead [(1, (s, aa))] tk 1 (a : Int) (n : Int) = ((((aa.drop a).take n), 0), tSet ltY tk 1 ((tGet ltY 0 tk 1).1 + (((aa.drop a).take n).length : Int))) := by
  have hb : below ltY [((1 : Int), (s, aa))] 1 = 0 := by unfold below; rw [List.takeWhile_cons]; simp
  have hi : isIn ltY [((1 : Int), (s, aa))] 1 = true := by unfold isIn; rw [hb]; simp [nth_cons_zero]
  unfold yRead
  rw [hi, hb, if_pos rfl, if_neg (by omega), nth_cons_zero]
  simp only [Int.toNat_natCast]
def TK (tk : List (Int × Int)) (A : Nat) : Prop := (tk = [] ∧ A = 0) ∨ tk = [((1 : Int), (A : Int))]
theorem below1 {ν : Type} (v : ν) : below ltY [((1 : Int), v)] 1 = 0 := by unfold below; rw [List.takeWhile_cons]; simp
theorem isIn1 {ν : Type} [Inhabited ν] (v : ν) : isIn ltY [((1 : Int), v)] 1 = true := by unfold isIn; rw [below1]; simp [nth_cons_zero]
theorem TK.get {tk : List (Int × Int)} {A : Nat} (h : TK tk A) : (tGet ltY 0 tk 1).1 = (A : Int) := by
  rcases h with ⟨rfl, rfl⟩ | rfl
  · rfl
  · unfold tGet; rw [isIn1, below1]; rfl
theorem TK.set {tk : List (Int × Int)} {A : Nat} (h : TK tk A) (x : Int) : tSet ltY tk 1 x = [((1 : Int), x)] := by
  rcases h with ⟨rfl, rfl⟩ | rfl
  · rfl
  · unfold tSet; rw [isIn1, below1]; rfl
theorem TK.len {tk : List (Int × Int)} {A : Nat} (h : TK tk A) : tk.length ≤ 1 := by
  rcases h with ⟨rfl, rfl⟩ | rfl <;> simp
theorem TK.bd {tk : List (Int × Int)} {A : Nat} (h : TK tk A) (hA : A ≤ 1000000000000) : ∀ p ∈ tk, 0 ≤ p.2 ∧ p.2 ≤ 1000000000000 := by
  rcases h with ⟨rfl, rfl⟩ | rfl
  · intro p hp; simp at hp
  · intro p hp; simp at hp; subst hp; exact ⟨by omega, by show (A : Int) ≤ _; omega⟩
theorem TK.read {aa : List UInt8} {tk : List (Int × Int)} {A : Nat} (h : TK tk A) (n M : Nat) (s : ByteArray) (hA : A ≤ aa.length) (hM : (M = n ∧ A + n ≤ aa.length) ∨ (M = aa.length - A ∧ aa.length < A + n)) : yRead [(1, (s, aa))] tk 1 (A : Int) (n : Int) = ((((aa.drop A).take M), 0), [((1 : Int), ((A + M : Nat) : Int))]) ∧ ((aa.drop A).take M).length = M := by
  have hl : ((aa.drop A).take M).length = M := by rw [List.length_take, List.length_drop]; omega
  have hq : (aa.drop A).take n = (aa.drop A).take M := by
    rcases hM with ⟨rfl, -⟩ | ⟨rfl, h2⟩
    · rfl
    · rw [List.take_of_length_le (by rw [List.length_drop]; omega), List.take_of_length_le (by rw [List.length_drop]; omega)]
  refine ⟨?_, hl⟩
  rw [one_read, hq, h.set, h.get, hl]
  rfl
set_option maxRecDepth 20000 in
set_option maxHeartbeats 8000000 in
theorem yardGrows_any (w : World) (vp : Value) (ls : List (List UInt8)) (hparts : ∃ vs : List Value, vs.length = ls.length ∧ Rd id w vp vs ∧ ∀ j, j < ls.length → Bytes w (nth vs j) (nth ls j)) (vr : Value) (reads : List Int) (hr : Rd iv w vr reads) (hri : ∀ x ∈ reads, I64 x) (_ : reads.length * 8 ≤ 140737488351232) :
    Calls Try.prog 5 #[vp, vr] w fun e w' => e = .returned (.bool true) ∧ Upd [] w w' := by
  obtain ⟨vs, hvl, ⟨a, cap, rfl, hlc, hcm, hcell⟩, hby⟩ := hparts
  obtain ⟨a2, cap2, rfl, hlc2, hcm2, hcell2⟩ := hr
  have hm' : vs.length ≤ 9223372036854775807 := by unfold maxLen at hcm; omega
  have hm2' : reads.length ≤ 9223372036854775807 := by unfold maxLen at hcm2; omega
  have HC := Lib.hid hcell
  have HC2 := Lib.hid hcell2
  have HBY := Lib.hid hby
  have HRI := Lib.hid hri
  have HVL := Lib.hid hvl
  clear hlc hcm hcell hby hvl hlc2 hcm2 hcell2 hri
  go_enter Try.func5, Try.ntmps5
  go_wp2_with fail
  (with_reducible refine (yNew_any w _ (Upd.refl [] w)).mono ?_)
  rintro e w1 ⟨gy, rfl, ⟨G1, h1, -⟩, -⟩
  have H1 := Lib.hid h1
  clear h1
  go_wp2_with fail
  (with_reducible refine (yCreate_any sF H1.out).mono ?_)
  rintro e w2 ⟨rfl, G2, h2, -, -⟩
  have H2 : Hid (YD w w2 gy G2 [(1, (sF, []))] []) := h2
  rw [show (yCreate [] sF).1 = 0 by kernel_rfl]
  clear h2 H1
  go_wp2_with fail
  go_loopw [6, 7] (fun va i wr => ∃ (k : Nat) (G : List Nat) (aa : List UInt8), k ≤ 15 ∧ k ≤ vs.length ∧ i = .int .i64 k ∧ aa.length ≤ 300 * k ∧ Hid (YD w wr gy G [(1, (sF, aa))] []) ∧ Hid (Own bv w.heap.size 5 wr va aa) ∧ Hid (Ap (blk va) G)) (fun _ i _ => 15 - (intOf i).toNat)
  case atStart => exact ⟨0, G2, [], by omega, by omega, rfl, by simp, H2, World.ownsRow_nil _ _ _ _, Ap.nil⟩
  case round =>
    obtain ⟨k, G, aa, hk, hkl, rfl, hal, hs, hva, hap⟩ := hrel
    clear H2
    have hend : (k < vs.length ∧ k < 15) ∨ (k = vs.length ∧ Hid (k ≤ 15)) ∨ (k = 15 ∧ k < vs.length) := by unfold Hid; omega
    rcases hend with ⟨hlt, h2⟩ | hend
    · obtain ⟨b, off, rfl, hc⟩ := HC.out (by intro h; simp [h] at hlt)
      have c0 : wr.cell? ⟨b, off + k, none⟩ = some (nth vs k) := hs.out.old.cell (hc k hlt) (by simp)
      have HPW := Lib.hid (HBY.out k (by rw [← HVL.out]; exact hlt))
      generalize nth vs k = pv at *
      generalize nth ls k = l at *
      obtain ⟨pa, pc, rfl, hplc, hpcm, -⟩ := HPW.out
      have hplm : l.length ≤ 9223372036854775807 := by unfold maxLen at hpcm; omega
      have hpcm' : pc ≤ 9223372036854775807 := by unfold maxLen at hpcm; omega
      have q1 : (k : Int) < vs.length := by omega
      have q2 : (k : Int) < 15 := by omega
      clear hc hpcm
      obtain ⟨ao, co, rfl, -⟩ := hva.out.rd
      by_cases hbig : 300 < l.length
      · have hq3 : (300 : Int) < l.length := by omega
        have hq4 : 300 ≤ pc := by omega
        have hcutp : ∀ W, (Instr.slice 27 (.slice pa l.length pc) none (some (.int .i64 300)) none).run Try.prog W = .ok (.slice pa 300 pc) W := fun W => run_cut_h (P := Try.prog) (size := 1) Try.underlying27 (by kernel_rfl) pa l.length pc 300 hq4 W
        have HPQ : Hid (Bytes w (.slice pa 300 pc) (l.take 300)) := HPW.out.take 300 (by omega)
        have hql : (l.take 300).length = 300 := by rw [List.length_take]; omega
        generalize l.take 300 = q at *
        have HQL := Lib.hid hql
        clear hql
        have hcutf : ∀ g W, (Instr.slice 27 (.slice (some ⟨g, 0, none⟩) (300 + 80) (300 + 80)) none (some (.int .i64 (300 : Int))) none).run Try.prog W = .ok (.slice (some ⟨g, 0, none⟩) 300 (300 + 80)) W := fun g W => run_cut_h (P := Try.prog) (size := 1) Try.underlying27 (by kernel_rfl) (some ⟨g, 0, none⟩) (300 + 80) (300 + 80) 300 (by omega) W
        have HYA : Hid (yAppend [(1, (sF, aa))] sF q = (0, [(1, (sF, aa ++ q))])) := by
          unfold Hid
          rw [one_append, if_neg (by have := HQL.out; omega)]
        go_wp2_with fail
        (refine (roomyByte_any _ q 17 _ (HPQ.out.upd0 hs.out.old) (by have := HQL.out; omega)).mono ?_)
        rintro e w3 ⟨u3, rfl, hroom⟩
        have HPRE := Lib.hid (hroom.pre (by have := HQL.out; unfold maxLen; omega))
        have HFUL := Lib.hid (hroom.rd (by have := HQL.out; unfold maxLen; omega))
        obtain ⟨rfl, hbf, hu3⟩ := hroom
        have HBF := Lib.hid hbf
        have HS3 := Lib.hid (hs.out.upd0 hu3)
        have HVA3 := Lib.hid (hva.out.upd hu3 (by simp))
        have HGF : Hid (wr.heap.size ∉ G ∧ wr.heap.size ∉ blk (.slice ao aa.length co)) := ⟨fun hx => by have := (hs.out.ge _ hx).2; omega, fun hx => by have := (hva.out.ge _ hx).2; omega⟩
        have hszr := hs.out.old.size
        rw [HQL.out] at HPRE HFUL ⊢
        clear hbf hu3 hs hva c0
        go_wp2_with fail
        (with_reducible refine (yAppend_any sF _ q HPRE.out (by have := HQL.out; omega) HS3.out).mono ?_)
        rw [HYA.out]
        rintro e w4 ⟨rfl, G4, h4, hu4, hf4⟩
        have HS4 : Hid (YD w w4 gy G4 [(1, (sF, aa ++ q))] []) := h4
        have HVA4 := Lib.hid (HVA3.out.upd hu4 hap.out)
        have HFUL4 := Lib.hid (HFUL.out.upd hu4 (fun x hx h => by simp [blk] at hx; rw [hx] at h; exact HGF.out.1 h))
        have HBF4 := Lib.hid (HBF.out.upd hu4 HGF.out.1)
        have hsz4 := HBF.out.lt
        have HGF4 : Hid (wr.heap.size ∉ G4) := fun hx => by
          rcases hf4 _ hx with r | r
          · exact HGF.out.1 r
          · omega
        have HAP4 : Hid (Ap (blk (.slice ao aa.length co)) G4) := fun x hx hG => by
          rcases hf4 _ hG with r | r
          · exact hap.out x hx r
          · have := (HVA3.out.ge x hx).2; omega
        clear h4 hu4 hf4 HS3 HVA3 HFUL HBF HPRE hap
        go_wp2_with fail
        (refine (intactByte_ok _ _ q 17 _ HFUL4.out (HPQ.out.upd0 HS4.out.old) (by have := HQL.out; omega)).mono ?_)
        rintro e w5 ⟨rfl, n5, rfl⟩
        have hu5 := (Upd.refl [] w4).drewN n5
        have HS5 := Lib.hid (HS4.out.upd0 hu5)
        have HVA5 := Lib.hid (HVA4.out.upd hu5 (by simp))
        have HBF5 := Lib.hid (HBF4.out.upd hu5 (by simp))
        generalize w4.drewN n5 = w5 at *
        clear hu5 HS4 HVA4 HBF4 HFUL4
        go_wp2_with fail
        generalize hgF : wr.heap.size = gF at *
        clear hgF
        go_loopw [10] (fun i wr => ∃ j : Nat, j ≤ 300 + 80 ∧ i = .int .i64 j ∧ Hid (∀ t, j ≤ t → t < 300 + 80 → ∃ x : UInt8, wr.cell? ⟨gF, t, none⟩ = some (bv x)) ∧ Hid (∀ t, wr.frozen? ⟨gF, t, none⟩ = false) ∧ Hid (Upd [gF] w5 wr)) (fun i _ => 300 + 80 - (intOf i).toNat)
        case atStart =>
          refine ⟨0, Nat.zero_le _, rfl, fun t _ ht => ?_, fun t => HBF5.out.frozen t, Upd.refl _ _⟩
          have hl : t < (q ++ List.replicate 80 17).length := by rw [List.length_append, HQL.out]; simp; omega
          exact ⟨_, by rw [HBF5.out.cell, List.getElem?_map, List.getElem?_eq_getElem hl]; rfl⟩
        case round =>
          obtain ⟨j, hj, rfl, hcl, hfz, hu6⟩ := hrel
          by_cases hjl : j < 300 + 80
          · obtain ⟨x, hx⟩ := hcl.out j (Nat.le_refl _) hjl
            have f0 := hfz.out j
            have q5 : (0 : Int) ≤ j := by omega
            have q6 : (j : Int) < 300 + 80 := by omega
            have HCL : Hid (∀ V, ∀ t, j + 1 ≤ t → t < 300 + 80 → ∃ x : UInt8, (wr.setCell ⟨gF, j, none⟩ V).cell? ⟨gF, t, none⟩ = some (bv x)) := fun V t h1 h2 => by
              obtain ⟨y, hy⟩ := hcl.out t (by omega) h2
              exact ⟨y, by rw [World.cell?_setCell_other _ _ _ _ (by intro h; injection h with h1 h2 h3; omega)]; exact hy⟩
            have HFZ : Hid (∀ V, ∀ t, (wr.setCell ⟨gF, j, none⟩ V).frozen? ⟨gF, t, none⟩ = false) := fun V t => by rw [World.frozen?_setCell]; exact hfz.out t
            have HU7 : Hid (∀ V, Upd [gF] w5 (wr.setCell ⟨gF, j, none⟩ V)) := fun V => hu6.out.setCell _ _ (.inl (by simp))
            clear hcl hfz hu6
            go_wp2_with fail
            go_roundw
            case rel => exact ⟨j + 1, by omega, by go_num, HCL.out _, HFZ.out _, HU7.out _⟩
            case measure => simp [intOf]; omega
          · obtain rfl : j = 300 + 80 := by omega
            have HS6 := Lib.hid (HS5.out.upd hu6.out (fun x hx h => HGF4.out (by simp at h; rw [← h]; exact hx)) (by simpa using hszr))
            have HVA6 := Lib.hid (HVA5.out.upd hu6.out (fun x hx h => HGF.out.2 (by simp at h; rw [← h]; exact hx)))
            have HRUN := Lib.hid (fun ty => run_app (P := Try.prog) (ty := ty) bv_one Try.underlying27 infoByte rfl (.slice ao aa.length co) (.slice pa 300 pc) aa q HVA6.out (HPQ.out.upd0 HS6.out.old) (by have := HQL.out; omega) (by have := HQL.out; unfold maxLen; omega) HS6.out.old.size)
            clear hcl hfz hu6
            go_wp2_with (at_builtin; go_must (refine wpList_app_of rfl _ _ rfl (.slice ao aa.length co) (.slice pa 300 pc) rfl rfl (HRUN.out _) ?_; rintro v8 w8 ⟨ho8, hu8, hk8⟩; have HO8 := Lib.hid ho8; have HU8 := Lib.hid hu8; have HK8 := Lib.hid hk8; obtain ⟨a8, c8, rfl, -⟩ := ho8.rd; clear ho8 hu8 hk8))
            have HS8 := Lib.hid (HS6.out.upd HU8.out (fun x hx h => HAP4.out x h hx) (fun x hx => (HVA6.out.ge x hx).1))
            have HAP8 : Hid (Ap (blk (.slice a8 (aa ++ q).length c8)) G4) := fun x hx hG => by
              rcases HK8.out x hx with r | r
              · exact HAP4.out x r hG
              · have := (HS6.out.ge x hG).2; omega
            have hlen8 : (aa ++ q).length ≤ 300 * (k + 1) := by rw [List.length_append]; have := HQL.out; omega
            have HL8 : Hid (aa.length + q.length = (aa ++ q).length) := by unfold Hid; rw [List.length_append]
            clear HS6 HVA6 HRUN HU8 HK8
            go_roundw
            case rel => exact ⟨k + 1, G4, aa ++ q, by omega, by omega, by go_num, hlen8, HS8, by rw [HL8.out]; exact HO8, by rw [HL8.out]; exact HAP8⟩
            case measure => simp [intOf]; omega
      · have hq3 : ¬ (300 : Int) < l.length := by omega
        have HPQ : Hid (Bytes w (.slice pa l.length pc) l) := HPW.out
        obtain ⟨q, hq⟩ : ∃ q, l = q := ⟨_, rfl⟩
        subst hq
        have HQL : Hid (l.length = l.length) := rfl
        have hl300 : l.length ≤ 300 := by omega
        have hcutf : ∀ g W, (Instr.slice 27 (.slice (some ⟨g, 0, none⟩) (l.length + 80) (l.length + 80)) none (some (.int .i64 (l.length : Int))) none).run Try.prog W = .ok (.slice (some ⟨g, 0, none⟩) l.length (l.length + 80)) W := fun g W => run_cut_h (P := Try.prog) (size := 1) Try.underlying27 (by kernel_rfl) (some ⟨g, 0, none⟩) (l.length + 80) (l.length + 80) l.length (by omega) W
        have HYA : Hid (yAppend [(1, (sF, aa))] sF l = (0, [(1, (sF, aa ++ l))])) := by
          unfold Hid
          rw [one_append, if_neg (by have := HQL.out; omega)]
        go_wp2_with fail
        (refine (roomyByte_any _ l 17 _ (HPQ.out.upd0 hs.out.old) (by have := HQL.out; omega)).mono ?_)
        rintro e w3 ⟨u3, rfl, hroom⟩
        have HPRE := Lib.hid (hroom.pre (by have := HQL.out; unfold maxLen; omega))
        have HFUL := Lib.hid (hroom.rd (by have := HQL.out; unfold maxLen; omega))
        obtain ⟨rfl, hbf, hu3⟩ := hroom
        have HBF := Lib.hid hbf
        have HS3 := Lib.hid (hs.out.upd0 hu3)
        have HVA3 := Lib.hid (hva.out.upd hu3 (by simp))
        have HGF : Hid (wr.heap.size ∉ G ∧ wr.heap.size ∉ blk (.slice ao aa.length co)) := ⟨fun hx => by have := (hs.out.ge _ hx).2; omega, fun hx => by have := (hva.out.ge _ hx).2; omega⟩
        have hszr := hs.out.old.size
        clear hbf hu3 hs hva c0
        go_wp2_with fail
        (with_reducible refine (yAppend_any sF _ l HPRE.out (by have := HQL.out; omega) HS3.out).mono ?_)
        rw [HYA.out]
        rintro e w4 ⟨rfl, G4, h4, hu4, hf4⟩
        have HS4 : Hid (YD w w4 gy G4 [(1, (sF, aa ++ l))] []) := h4
        have HVA4 := Lib.hid (HVA3.out.upd hu4 hap.out)
        have HFUL4 := Lib.hid (HFUL.out.upd hu4 (fun x hx h => by simp [blk] at hx; rw [hx] at h; exact HGF.out.1 h))
        have HBF4 := Lib.hid (HBF.out.upd hu4 HGF.out.1)
        have hsz4 := HBF.out.lt
        have HGF4 : Hid (wr.heap.size ∉ G4) := fun hx => by
          rcases hf4 _ hx with r | r
          · exact HGF.out.1 r
          · omega
        have HAP4 : Hid (Ap (blk (.slice ao aa.length co)) G4) := fun x hx hG => by
          rcases hf4 _ hG with r | r
          · exact hap.out x hx r
          · have := (HVA3.out.ge x hx).2; omega
        clear h4 hu4 hf4 HS3 HVA3 HFUL HBF HPRE hap
        go_wp2_with fail
        (refine (intactByte_ok _ _ l 17 _ HFUL4.out (HPQ.out.upd0 HS4.out.old) (by have := HQL.out; omega)).mono ?_)
        rintro e w5 ⟨rfl, n5, rfl⟩
        have hu5 := (Upd.refl [] w4).drewN n5
        have HS5 := Lib.hid (HS4.out.upd0 hu5)
        have HVA5 := Lib.hid (HVA4.out.upd hu5 (by simp))
        have HBF5 := Lib.hid (HBF4.out.upd hu5 (by simp))
        generalize w4.drewN n5 = w5 at *
        clear hu5 HS4 HVA4 HBF4 HFUL4
        go_wp2_with fail
        generalize hgF : wr.heap.size = gF at *
        clear hgF
        go_loopw [10] (fun i wr => ∃ j : Nat, j ≤ l.length + 80 ∧ i = .int .i64 j ∧ Hid (∀ t, j ≤ t → t < l.length + 80 → ∃ x : UInt8, wr.cell? ⟨gF, t, none⟩ = some (bv x)) ∧ Hid (∀ t, wr.frozen? ⟨gF, t, none⟩ = false) ∧ Hid (Upd [gF] w5 wr)) (fun i _ => l.length + 80 - (intOf i).toNat)
        case atStart =>
          refine ⟨0, Nat.zero_le _, rfl, fun t _ ht => ?_, fun t => HBF5.out.frozen t, Upd.refl _ _⟩
          have hl : t < (l ++ List.replicate 80 17).length := by rw [List.length_append]; simp; omega
          exact ⟨_, by rw [HBF5.out.cell, List.getElem?_map, List.getElem?_eq_getElem hl]; rfl⟩
        case round =>
          obtain ⟨j, hj, rfl, hcl, hfz, hu6⟩ := hrel
          by_cases hjl : j < l.length + 80
          · obtain ⟨x, hx⟩ := hcl.out j (Nat.le_refl _) hjl
            have f0 := hfz.out j
            have q5 : (0 : Int) ≤ j := by omega
            have q6 : (j : Int) < l.length + 80 := by omega
            have HCL : Hid (∀ V, ∀ t, j + 1 ≤ t → t < l.length + 80 → ∃ x : UInt8, (wr.setCell ⟨gF, j, none⟩ V).cell? ⟨gF, t, none⟩ = some (bv x)) := fun V t h1 h2 => by
              obtain ⟨y, hy⟩ := hcl.out t (by omega) h2
              exact ⟨y, by rw [World.cell?_setCell_other _ _ _ _ (by intro h; injection h with h1 h2 h3; omega)]; exact hy⟩
            have HFZ : Hid (∀ V, ∀ t, (wr.setCell ⟨gF, j, none⟩ V).frozen? ⟨gF, t, none⟩ = false) := fun V t => by rw [World.frozen?_setCell]; exact hfz.out t
            have HU7 : Hid (∀ V, Upd [gF] w5 (wr.setCell ⟨gF, j, none⟩ V)) := fun V => hu6.out.setCell _ _ (.inl (by simp))
            clear hcl hfz hu6
            go_wp2_with fail
            go_roundw
            case rel => exact ⟨j + 1, by omega, by go_num, HCL.out _, HFZ.out _, HU7.out _⟩
            case measure => simp [intOf]; omega
          · obtain rfl : j = l.length + 80 := by omega
            have HS6 := Lib.hid (HS5.out.upd hu6.out (fun x hx h => HGF4.out (by simp at h; rw [← h]; exact hx)) (by simpa using hszr))
            have HVA6 := Lib.hid (HVA5.out.upd hu6.out (fun x hx h => HGF.out.2 (by simp at h; rw [← h]; exact hx)))
            have HRUN := Lib.hid (fun ty => run_app (P := Try.prog) (ty := ty) bv_one Try.underlying27 infoByte rfl (.slice ao aa.length co) (.slice pa l.length pc) aa l HVA6.out (HPQ.out.upd0 HS6.out.old) (by have := HQL.out; omega) (by have := HQL.out; unfold maxLen; omega) HS6.out.old.size)
            clear hcl hfz hu6
            go_wp2_with (at_builtin; go_must (refine wpList_app_of rfl _ _ rfl (.slice ao aa.length co) (.slice pa l.length pc) rfl rfl (HRUN.out _) ?_; rintro v8 w8 ⟨ho8, hu8, hk8⟩; have HO8 := Lib.hid ho8; have HU8 := Lib.hid hu8; have HK8 := Lib.hid hk8; obtain ⟨a8, c8, rfl, -⟩ := ho8.rd; clear ho8 hu8 hk8))
            have HS8 := Lib.hid (HS6.out.upd HU8.out (fun x hx h => HAP4.out x h hx) (fun x hx => (HVA6.out.ge x hx).1))
            have HAP8 : Hid (Ap (blk (.slice a8 (aa ++ l).length c8)) G4) := fun x hx hG => by
              rcases HK8.out x hx with r | r
              · exact HAP4.out x r hG
              · have := (HS6.out.ge x hG).2; omega
            have hlen8 : (aa ++ l).length ≤ 300 * (k + 1) := by rw [List.length_append]; have := HQL.out; omega
            have HL8 : Hid (aa.length + l.length = (aa ++ l).length) := by unfold Hid; rw [List.length_append]
            clear HS6 HVA6 HRUN HU8 HK8
            go_roundw
            case rel => exact ⟨k + 1, G4, aa ++ l, by omega, by omega, by go_num, hlen8, HS8, by rw [HL8.out]; exact HO8, by rw [HL8.out]; exact HAP8⟩
            case measure => simp [intOf]; omega
    · clear HC HBY HVL
      rcases hend with ⟨hke, h15⟩ | ⟨hke, hlt⟩
      · have q1 : ¬ (k : Int) < vs.length := by omega
        have hk15 := h15.out
        clear h15
        obtain ⟨ao, co, rfl, hco, hcom, -⟩ := hva.out.rd
        have hcom' : co ≤ 9223372036854775807 := by unfold maxLen at hcom; omega
        have hal' : aa.length ≤ 4500 := by omega
        clear hcom
        go_wp2_with fail
        go_loopw [11, 12, 13] (fun vt vk i wr => ∃ (j A : Nat) (G : List Nat) (tk : List (Int × Int)), j ≤ 30 ∧ j ≤ reads.length ∧ vt = .int .i64 A ∧ vk = .int .i64 A ∧ i = .int .i64 j ∧ A ≤ aa.length ∧ TK tk A ∧ Hid (YD w wr gy G [(1, (sF, aa))] tk) ∧ Hid (Own bv w.heap.size 5 wr (.slice ao aa.length co) aa) ∧ Hid (Ap (blk (.slice ao aa.length co)) G)) (fun _ _ i _ => 30 - (intOf i).toNat)
        case atStart => exact ⟨0, 0, G, [], by omega, by omega, rfl, rfl, rfl, by omega, .inl ⟨rfl, rfl⟩, hs, hva, hap⟩
        case round =>
          clear hs hva hap
          obtain ⟨j, A, G, tk, hj, hjl, rfl, rfl, rfl, hA, htk, hs, hva, hap⟩ := hrel
          have HIA : Hid (I64 (A : Int)) := ⟨by omega, by omega⟩
          have HTL : Hid (tk.length ≤ 50000) := by have := htk.len; unfold Hid; omega
          have HTB := Lib.hid (htk.bd (by omega))
          have hend2 : (j < reads.length ∧ j < 30) ∨ (j = reads.length ∧ Hid (j ≤ 30)) ∨ (j = 30 ∧ j < reads.length) := by unfold Hid; omega
          rcases hend2 with ⟨hlt2, h30⟩ | hend2
          · obtain ⟨b2, off2, rfl, hc2⟩ := HC2.out (by intro h; simp [h] at hlt2)
            have c0 : wr.cell? ⟨b2, off2 + j, none⟩ = some (.int .i64 (nth reads j)) := hs.out.old.cell (hc2 j hlt2) (by simp)
            have HX : Hid (-9223372036854775808 ≤ nth reads j ∧ nth reads j ≤ 9223372036854775807) := HRI.out _ (by rw [nth_get _ _ hlt2]; exact List.getElem_mem _)
            generalize nth reads j = x at *
            obtain ⟨n1, n2⟩ := within_in x 0 200 (by omega)
            obtain ⟨n, hn⟩ := Int.eq_ofNat_of_zero_le n1
            rw [hn] at n2
            have HWN := Lib.hid hn
            have HIN : Hid (I64 (n : Int)) := ⟨by omega, by omega⟩
            have r1 : (j : Int) < reads.length := by omega
            have r2 : (j : Int) < 30 := by omega
            clear hc2 hn n1
            go_wp2_with fail
            (with_reducible refine (within_any _ _ _ _ HX.out (by omega) (by omega) (by omega)).mono ?_)
            rintro e w' ⟨rfl, rfl⟩
            rw [HWN.out]
            obtain ⟨M, hM⟩ : ∃ M, (M = n ∧ A + n ≤ aa.length) ∨ (M = aa.length - A ∧ aa.length < A + n) := by
              by_cases hq : A + n ≤ aa.length
              · exact ⟨n, .inl ⟨rfl, hq⟩⟩
              · exact ⟨aa.length - A, .inr ⟨rfl, by omega⟩⟩
            have HRQ := Lib.hid (htk.read n M sF hA hM)
            rcases hM with hM | hM
            · obtain ⟨hM, hMl⟩ := hM
              have hM := hM.symm
              subst hM
              have HYR := Lib.hid HRQ.out.1
              have HQL := Lib.hid HRQ.out.2
              have m1 : (A : Int) + n ≤ aa.length := by omega
              obtain ⟨D, hD, hcut⟩ : ∃ D : Option Addr, D = (if co = A then ao else ao.map (·.add A)) ∧ ∀ W, (Instr.slice 27 (.slice ao aa.length co) (some (.int .i64 (A : Int))) (some (.int .i64 ((A : Int) + n))) none).run Try.prog W = .ok (.slice D n (co - A)) W :=
                ⟨_, rfl, fun W => by have h := run_cut_lh (P := Try.prog) (size := 1) Try.underlying27 (by kernel_rfl) ao aa.length co A (A + n) (by omega) (by omega) W (A : Int) ((A : Int) + n) rfl (by omega); rw [show A + n - A = n by omega, Nat.mul_one] at h; exact h⟩
              have HPA : Hid (∀ W, Own bv w.heap.size 5 W (.slice ao aa.length co) aa → Bytes W (.slice D n (co - A)) ((aa.drop A).take n)) := fun W hW => by rw [hD]; exact (hW.rd.drop A hA).take _ (by rw [List.length_drop]; omega)
              generalize (aa.drop A).take n = q at *
              clear hD hMl HRQ
              go_wp2_with fail
              (with_reducible refine (yRead_any 1 (A : Int) (n : Int) (i64_s 1 (by omega) (by omega)) HIA.out HIN.out hs.out HTL.out HTB.out).mono ?_)
              rw [HYR.out]
              rintro e w3 ⟨v3, rfl, ho3, G3, h3, hu3, hf3, hap3⟩
              obtain ⟨a3, c3, rfl, h3c, h3m, -⟩ := ho3.rd
              have h3m' : c3 ≤ 9223372036854775807 := by unfold maxLen at h3m; omega
              have HO3 := Lib.hid (show Own bv wr.heap.size 5 w3 (.slice a3 q.length c3) q from ho3)
              have HS3 : Hid (YD w w3 gy G3 [(1, (sF, aa))] [((1 : Int), ((A + n : Nat) : Int))]) := h3
              have HVA3 := Lib.hid (hva.out.upd hu3 hap.out)
              have HAP3 := Lib.hid hap3
              have hszr := hs.out.old.size
              have HGE3 : Hid (∀ x ∈ blk (.slice a3 q.length c3), w.heap.size ≤ x) := fun x hx => by have := (ho3.ge x hx).1; omega
              have HAPV : Hid (Ap (blk (.slice ao aa.length co)) (blk (.slice a3 q.length c3))) := fun x hx hx3 => by
                have h1 := (ho3.ge x hx3).1
                have h2 := (hva.out.ge x hx).2
                omega
              have HAPG : Hid (Ap (blk (.slice ao aa.length co)) G3) := fun x hx hG => by
                rcases hf3 _ hG with r | r
                · exact hap.out x hx r
                · have := (hva.out.ge x hx).2; omega
              rw [HQL.out] at HO3 HAP3 HGE3 HAPV h3c
              have HA3 : Hid (n = 0 ∨ ∃ g3, a3 = some ⟨g3, 0, none⟩) := by
                by_cases hn0 : q = []
                · exact .inl (by have := HQL.out; rw [hn0] at this; simpa using this.symm)
                · obtain ⟨g3, cc, he, -⟩ := ho3.form0 hn0
                  injection he with e1 e2 e3
                  exact .inr ⟨g3, e1⟩
              clear h3 hu3 hf3 hap3 ho3 hs hva hap c0 HYR h3m
              rw [HQL.out]
              go_wp2_with fail
              (with_reducible refine (sameByte_ok _ _ q _ HO3.out.rd (HPA.out _ HVA3.out)).mono ?_)
              rintro e w5 ⟨rfl, n5, rfl⟩
              have hu5 := (Upd.refl [] w3).drewN n5
              have HS5 := Lib.hid (HS3.out.upd0 hu5)
              have HVA5 := Lib.hid (HVA3.out.upd hu5 (by simp))
              have HO5 := Lib.hid (HO3.out.upd hu5 (by simp))
              generalize w3.drewN n5 = w5 at *
              clear hu5 HS3 HVA3 HO3 HPA hcut
              go_wp2_with fail
              go_loopw [18] (fun i wr => ∃ t : Nat, t ≤ n ∧ i = .int .i64 t ∧ Hid (∀ g, a3 = some ⟨g, 0, none⟩ → (∀ u, t ≤ u → u < n → ∃ x : UInt8, wr.cell? ⟨g, u, none⟩ = some (bv x)) ∧ ∀ u, wr.frozen? ⟨g, u, none⟩ = false) ∧ Hid (Upd (blk (.slice a3 n c3)) w5 wr)) (fun i _ => n - (intOf i).toNat)
              case atStart =>
                refine ⟨0, Nat.zero_le _, rfl, fun g hg => ?_, Upd.refl _ _⟩
                subst hg
                exact ⟨fun u _ hu => ⟨_, HO5.out.cell u (by rw [HQL.out]; exact hu)⟩, fun u => HO5.out.frozen u⟩
              case round =>
                obtain ⟨t, ht, rfl, hcl, hu6⟩ := hrel
                by_cases htl : t < n
                · obtain ⟨g3, rfl⟩ : ∃ g3, a3 = some ⟨g3, 0, none⟩ := HA3.out.resolve_left (by omega)
                  obtain ⟨hcl1, hfz⟩ := hcl.out g3 rfl
                  obtain ⟨x, hx⟩ := hcl1 t (Nat.le_refl _) htl
                  have f0 := hfz t
                  have p5 : (0 : Int) ≤ t := by omega
                  have p6 : (t : Int) < n := by omega
                  have HCL : Hid (∀ V, ∀ g, (some (⟨g3, 0, none⟩ : Addr)) = some ⟨g, 0, none⟩ → (∀ u, t + 1 ≤ u → u < n → ∃ x : UInt8, (wr.setCell ⟨g3, t, none⟩ V).cell? ⟨g, u, none⟩ = some (bv x)) ∧ ∀ u, (wr.setCell ⟨g3, t, none⟩ V).frozen? ⟨g, u, none⟩ = false) := fun V g hg => by
                    injection hg with hg; injection hg with hg
                    subst hg
                    refine ⟨fun u h1 h2 => ?_, fun u => by rw [World.frozen?_setCell]; exact hfz u⟩
                    obtain ⟨y, hy⟩ := hcl1 u (by omega) h2
                    exact ⟨y, by rw [World.cell?_setCell_other _ _ _ _ (by intro h; injection h with h1 h2 h3; omega)]; exact hy⟩
                  have HU7 : Hid (∀ V, Upd (blk (.slice (some ⟨g3, 0, none⟩) n c3)) w5 (wr.setCell ⟨g3, t, none⟩ V)) := fun V => hu6.out.setCell _ _ (.inl (by simp [blk]))
                  clear hcl hcl1 hfz hu6
                  go_wp2_with fail
                  go_roundw
                  case rel => exact ⟨t + 1, by omega, by go_num, HCL.out _, HU7.out _⟩
                  case measure => simp [intOf]; omega
                · obtain rfl : n = t := by omega
                  have HS6 := Lib.hid (HS5.out.upd hu6.out (fun x hx h => HAP3.out x h hx) HGE3.out)
                  have HVA6 := Lib.hid (HVA5.out.upd hu6.out HAPV.out)
                  clear hcl hu6 HS5 HVA5 HO5
                  go_wp2_with fail
                  go_roundw
                  case rel => exact ⟨j + 1, A + n, G3, [((1 : Int), ((A + n : Nat) : Int))], by omega, by omega, by go_num, by go_num, by go_num, by omega, .inr rfl, HS6, HVA6, HAPG⟩
                  case measure => simp [intOf]; omega
            · obtain ⟨hM, hMl⟩ := hM
              subst hM
              have HYR := Lib.hid HRQ.out.1
              have HQL := Lib.hid HRQ.out.2
              have m1 : (aa.length : Int) < (A : Int) + n := by omega
              obtain ⟨D, hD, hcut⟩ : ∃ D : Option Addr, D = (if co = A then ao else ao.map (·.add A)) ∧ ∀ W, (Instr.slice 27 (.slice ao aa.length co) (some (.int .i64 (A : Int))) (some (.int .i64 (aa.length : Int))) none).run Try.prog W = .ok (.slice D (aa.length - A) (co - A)) W :=
                ⟨_, rfl, fun W => by have h := run_cut_lh (P := Try.prog) (size := 1) Try.underlying27 (by kernel_rfl) ao aa.length co A aa.length (by omega) (by omega) W (A : Int) (aa.length : Int) rfl rfl; rw [Nat.mul_one] at h; exact h⟩
              have HPA : Hid (∀ W, Own bv w.heap.size 5 W (.slice ao aa.length co) aa → Bytes W (.slice D (aa.length - A) (co - A)) ((aa.drop A).take (aa.length - A))) := fun W hW => by rw [hD]; exact (hW.rd.drop A hA).take _ (by rw [List.length_drop]; omega)
              generalize (aa.drop A).take (aa.length - A) = q at *
              clear hD hMl HRQ
              go_wp2_with fail
              (with_reducible refine (yRead_any 1 (A : Int) (n : Int) (i64_s 1 (by omega) (by omega)) HIA.out HIN.out hs.out HTL.out HTB.out).mono ?_)
              rw [HYR.out]
              rintro e w3 ⟨v3, rfl, ho3, G3, h3, hu3, hf3, hap3⟩
              obtain ⟨a3, c3, rfl, h3c, h3m, -⟩ := ho3.rd
              have h3m' : c3 ≤ 9223372036854775807 := by unfold maxLen at h3m; omega
              have HO3 := Lib.hid (show Own bv wr.heap.size 5 w3 (.slice a3 q.length c3) q from ho3)
              have HS3 : Hid (YD w w3 gy G3 [(1, (sF, aa))] [((1 : Int), ((A + (aa.length - A) : Nat) : Int))]) := h3
              have HVA3 := Lib.hid (hva.out.upd hu3 hap.out)
              have HAP3 := Lib.hid hap3
              have hszr := hs.out.old.size
              have HGE3 : Hid (∀ x ∈ blk (.slice a3 q.length c3), w.heap.size ≤ x) := fun x hx => by have := (ho3.ge x hx).1; omega
              have HAPV : Hid (Ap (blk (.slice ao aa.length co)) (blk (.slice a3 q.length c3))) := fun x hx hx3 => by
                have h1 := (ho3.ge x hx3).1
                have h2 := (hva.out.ge x hx).2
                omega
              have HAPG : Hid (Ap (blk (.slice ao aa.length co)) G3) := fun x hx hG => by
                rcases hf3 _ hG with r | r
                · exact hap.out x hx r
                · have := (hva.out.ge x hx).2; omega
              rw [HQL.out] at HO3 HAP3 HGE3 HAPV h3c
              have HA3 : Hid ((aa.length - A) = 0 ∨ ∃ g3, a3 = some ⟨g3, 0, none⟩) := by
                by_cases hn0 : q = []
                · exact .inl (by have := HQL.out; rw [hn0] at this; simpa using this.symm)
                · obtain ⟨g3, cc, he, -⟩ := ho3.form0 hn0
                  injection he with e1 e2 e3
                  exact .inr ⟨g3, e1⟩
              clear h3 hu3 hf3 hap3 ho3 hs hva hap c0 HYR h3m
              rw [HQL.out]
              go_wp2_with fail
              (with_reducible refine (sameByte_ok _ _ q _ HO3.out.rd (HPA.out _ HVA3.out)).mono ?_)
              rintro e w5 ⟨rfl, n5, rfl⟩
              have hu5 := (Upd.refl [] w3).drewN n5
              have HS5 := Lib.hid (HS3.out.upd0 hu5)
              have HVA5 := Lib.hid (HVA3.out.upd hu5 (by simp))
              have HO5 := Lib.hid (HO3.out.upd hu5 (by simp))
              generalize w3.drewN n5 = w5 at *
              clear hu5 HS3 HVA3 HO3 HPA hcut
              go_wp2_with fail
              go_loopw [18] (fun i wr => ∃ t : Nat, t ≤ (aa.length - A) ∧ i = .int .i64 t ∧ Hid (∀ g, a3 = some ⟨g, 0, none⟩ → (∀ u, t ≤ u → u < (aa.length - A) → ∃ x : UInt8, wr.cell? ⟨g, u, none⟩ = some (bv x)) ∧ ∀ u, wr.frozen? ⟨g, u, none⟩ = false) ∧ Hid (Upd (blk (.slice a3 (aa.length - A) c3)) w5 wr)) (fun i _ => (aa.length - A) - (intOf i).toNat)
              case atStart =>
                refine ⟨0, Nat.zero_le _, rfl, fun g hg => ?_, Upd.refl _ _⟩
                subst hg
                exact ⟨fun u _ hu => ⟨_, HO5.out.cell u (by rw [HQL.out]; exact hu)⟩, fun u => HO5.out.frozen u⟩
              case round =>
                obtain ⟨t, ht, rfl, hcl, hu6⟩ := hrel
                by_cases htl : t < (aa.length - A)
                · obtain ⟨g3, rfl⟩ : ∃ g3, a3 = some ⟨g3, 0, none⟩ := HA3.out.resolve_left (by omega)
                  obtain ⟨hcl1, hfz⟩ := hcl.out g3 rfl
                  obtain ⟨x, hx⟩ := hcl1 t (Nat.le_refl _) htl
                  have f0 := hfz t
                  have p5 : (0 : Int) ≤ t := by omega
                  have p6 : (t : Int) < ((aa.length - A : Nat) : Int) := by omega
                  have HCL : Hid (∀ V, ∀ g, (some (⟨g3, 0, none⟩ : Addr)) = some ⟨g, 0, none⟩ → (∀ u, t + 1 ≤ u → u < (aa.length - A) → ∃ x : UInt8, (wr.setCell ⟨g3, t, none⟩ V).cell? ⟨g, u, none⟩ = some (bv x)) ∧ ∀ u, (wr.setCell ⟨g3, t, none⟩ V).frozen? ⟨g, u, none⟩ = false) := fun V g hg => by
                    injection hg with hg; injection hg with hg
                    subst hg
                    refine ⟨fun u h1 h2 => ?_, fun u => by rw [World.frozen?_setCell]; exact hfz u⟩
                    obtain ⟨y, hy⟩ := hcl1 u (by omega) h2
                    exact ⟨y, by rw [World.cell?_setCell_other _ _ _ _ (by intro h; injection h with h1 h2 h3; omega)]; exact hy⟩
                  have HU7 : Hid (∀ V, Upd (blk (.slice (some ⟨g3, 0, none⟩) (aa.length - A) c3)) w5 (wr.setCell ⟨g3, t, none⟩ V)) := fun V => hu6.out.setCell _ _ (.inl (by simp [blk]))
                  clear hcl hcl1 hfz hu6
                  go_wp2_with fail
                  go_roundw
                  case rel => exact ⟨t + 1, by omega, by go_num, HCL.out _, HU7.out _⟩
                  case measure => simp [intOf]; omega
                · obtain rfl : (aa.length - A) = t := by omega
                  have HS6 := Lib.hid (HS5.out.upd hu6.out (fun x hx h => HAP3.out x h hx) HGE3.out)
                  have HVA6 := Lib.hid (HVA5.out.upd hu6.out HAPV.out)
                  clear hcl hu6 HS5 HVA5 HO5
                  go_wp2_with fail
                  go_roundw
                  case rel => exact ⟨j + 1, A + (aa.length - A), G3, [((1 : Int), ((A + (aa.length - A) : Nat) : Int))], by omega, by omega, by go_num, by go_num, by go_num, by omega, .inr rfl, HS6, HVA6, HAPG⟩
                  case measure => simp [intOf]; omega
          · have HV1 := Lib.hid htk.get
            clear htk
            rcases hend2 with ⟨hje, h30⟩ | ⟨hje, hjl2⟩
            · have r1 : ¬ (j : Int) < reads.length := by omega
              clear h30
              go_wp2_with fail
              (with_reducible refine (yTakenD 1 (A : Int) (i64_s 1 (by omega) (by omega)) hs.out HTL.out HV1.out).mono ?_)
              rintro e w3 ⟨rfl, hu3⟩
              have HU3 := Lib.hid (hs.out.old.trans hu3 (fun _ hx => hx) (by simp))
              clear hu3 hs hva hap
              go_wp2_with fail
              (with_reducible refine (yardRuns_any _).mono ?_)
              rintro e w4 ⟨rfl, hu4⟩
              have HU4 := Lib.hid (HU3.out.trans hu4 (fun _ hx => hx) (by simp))
              clear hu4
              go_wp2_with fail
              go_ret
              exact ⟨rfl, HU4.out⟩
            · have r1 : (j : Int) < reads.length := by omega
              have r2 : ¬ (j : Int) < 30 := by omega
              go_wp2_with fail
              (with_reducible refine (yTakenD 1 (A : Int) (i64_s 1 (by omega) (by omega)) hs.out HTL.out HV1.out).mono ?_)
              rintro e w3 ⟨rfl, hu3⟩
              have HU3 := Lib.hid (hs.out.old.trans hu3 (fun _ hx => hx) (by simp))
              clear hu3 hs hva hap
              go_wp2_with fail
              (with_reducible refine (yardRuns_any _).mono ?_)
              rintro e w4 ⟨rfl, hu4⟩
              have HU4 := Lib.hid (HU3.out.trans hu4 (fun _ hx => hx) (by simp))
              clear hu4
              go_wp2_with fail
              go_ret
              exact ⟨rfl, HU4.out⟩
      · have q1 : (k : Int) < vs.length := by omega
        have q2 : ¬ (k : Int) < 15 := by omega
        obtain ⟨ao, co, rfl, hco, hcom, -⟩ := hva.out.rd
        have hcom' : co ≤ 9223372036854775807 := by unfold maxLen at hcom; omega
        have hal' : aa.length ≤ 4500 := by omega
        clear hcom
        go_wp2_with fail
        go_loopw [11, 12, 13] (fun vt vk i wr => ∃ (j A : Nat) (G : List Nat) (tk : List (Int × Int)), j ≤ 30 ∧ j ≤ reads.length ∧ vt = .int .i64 A ∧ vk = .int .i64 A ∧ i = .int .i64 j ∧ A ≤ aa.length ∧ TK tk A ∧ Hid (YD w wr gy G [(1, (sF, aa))] tk) ∧ Hid (Own bv w.heap.size 5 wr (.slice ao aa.length co) aa) ∧ Hid (Ap (blk (.slice ao aa.length co)) G)) (fun _ _ i _ => 30 - (intOf i).toNat)
        case atStart => exact ⟨0, 0, G, [], by omega, by omega, rfl, rfl, rfl, by omega, .inl ⟨rfl, rfl⟩, hs, hva, hap⟩
        case round =>
          clear hs hva hap
          obtain ⟨j, A, G, tk, hj, hjl, rfl, rfl, rfl, hA, htk, hs, hva, hap⟩ := hrel
          have HIA : Hid (I64 (A : Int)) := ⟨by omega, by omega⟩
          have HTL : Hid (tk.length ≤ 50000) := by have := htk.len; unfold Hid; omega
          have HTB := Lib.hid (htk.bd (by omega))
          have hend2 : (j < reads.length ∧ j < 30) ∨ (j = reads.length ∧ Hid (j ≤ 30)) ∨ (j = 30 ∧ j < reads.length) := by unfold Hid; omega
          rcases hend2 with ⟨hlt2, h30⟩ | hend2
          · obtain ⟨b2, off2, rfl, hc2⟩ := HC2.out (by intro h; simp [h] at hlt2)
            have c0 : wr.cell? ⟨b2, off2 + j, none⟩ = some (.int .i64 (nth reads j)) := hs.out.old.cell (hc2 j hlt2) (by simp)
            have HX : Hid (-9223372036854775808 ≤ nth reads j ∧ nth reads j ≤ 9223372036854775807) := HRI.out _ (by rw [nth_get _ _ hlt2]; exact List.getElem_mem _)
            generalize nth reads j = x at *
            obtain ⟨n1, n2⟩ := within_in x 0 200 (by omega)
            obtain ⟨n, hn⟩ := Int.eq_ofNat_of_zero_le n1
            rw [hn] at n2
            have HWN := Lib.hid hn
            have HIN : Hid (I64 (n : Int)) := ⟨by omega, by omega⟩
            have r1 : (j : Int) < reads.length := by omega
            have r2 : (j : Int) < 30 := by omega
            clear hc2 hn n1
            go_wp2_with fail
            (with_reducible refine (within_any _ _ _ _ HX.out (by omega) (by omega) (by omega)).mono ?_)
            rintro e w' ⟨rfl, rfl⟩
            rw [HWN.out]
            obtain ⟨M, hM⟩ : ∃ M, (M = n ∧ A + n ≤ aa.length) ∨ (M = aa.length - A ∧ aa.length < A + n) := by
              by_cases hq : A + n ≤ aa.length
              · exact ⟨n, .inl ⟨rfl, hq⟩⟩
              · exact ⟨aa.length - A, .inr ⟨rfl, by omega⟩⟩
            have HRQ := Lib.hid (htk.read n M sF hA hM)
            rcases hM with hM | hM
            · obtain ⟨hM, hMl⟩ := hM
              have hM := hM.symm
              subst hM
              have HYR := Lib.hid HRQ.out.1
              have HQL := Lib.hid HRQ.out.2
              have m1 : (A : Int) + n ≤ aa.length := by omega
              obtain ⟨D, hD, hcut⟩ : ∃ D : Option Addr, D = (if co = A then ao else ao.map (·.add A)) ∧ ∀ W, (Instr.slice 27 (.slice ao aa.length co) (some (.int .i64 (A : Int))) (some (.int .i64 ((A : Int) + n))) none).run Try.prog W = .ok (.slice D n (co - A)) W :=
                ⟨_, rfl, fun W => by have h := run_cut_lh (P := Try.prog) (size := 1) Try.underlying27 (by kernel_rfl) ao aa.length co A (A + n) (by omega) (by omega) W (A : Int) ((A : Int) + n) rfl (by omega); rw [show A + n - A = n by omega, Nat.mul_one] at h; exact h⟩
              have HPA : Hid (∀ W, Own bv w.heap.size 5 W (.slice ao aa.length co) aa → Bytes W (.slice D n (co - A)) ((aa.drop A).take n)) := fun W hW => by rw [hD]; exact (hW.rd.drop A hA).take _ (by rw [List.length_drop]; omega)
              generalize (aa.drop A).take n = q at *
              clear hD hMl HRQ
              go_wp2_with fail
              (with_reducible refine (yRead_any 1 (A : Int) (n : Int) (i64_s 1 (by omega) (by omega)) HIA.out HIN.out hs.out HTL.out HTB.out).mono ?_)
              rw [HYR.out]
              rintro e w3 ⟨v3, rfl, ho3, G3, h3, hu3, hf3, hap3⟩
              obtain ⟨a3, c3, rfl, h3c, h3m, -⟩ := ho3.rd
              have h3m' : c3 ≤ 9223372036854775807 := by unfold maxLen at h3m; omega
              have HO3 := Lib.hid (show Own bv wr.heap.size 5 w3 (.slice a3 q.length c3) q from ho3)
              have HS3 : Hid (YD w w3 gy G3 [(1, (sF, aa))] [((1 : Int), ((A + n : Nat) : Int))]) := h3
              have HVA3 := Lib.hid (hva.out.upd hu3 hap.out)
              have HAP3 := Lib.hid hap3
              have hszr := hs.out.old.size
              have HGE3 : Hid (∀ x ∈ blk (.slice a3 q.length c3), w.heap.size ≤ x) := fun x hx => by have := (ho3.ge x hx).1; omega
              have HAPV : Hid (Ap (blk (.slice ao aa.length co)) (blk (.slice a3 q.length c3))) := fun x hx hx3 => by
                have h1 := (ho3.ge x hx3).1
                have h2 := (hva.out.ge x hx).2
                omega
              have HAPG : Hid (Ap (blk (.slice ao aa.length co)) G3) := fun x hx hG => by
                rcases hf3 _ hG with r | r
                · exact hap.out x hx r
                · have := (hva.out.ge x hx).2; omega
              rw [HQL.out] at HO3 HAP3 HGE3 HAPV h3c
              have HA3 : Hid (n = 0 ∨ ∃ g3, a3 = some ⟨g3, 0, none⟩) := by
                by_cases hn0 : q = []
                · exact .inl (by have := HQL.out; rw [hn0] at this; simpa using this.symm)
                · obtain ⟨g3, cc, he, -⟩ := ho3.form0 hn0
                  injection he with e1 e2 e3
                  exact .inr ⟨g3, e1⟩
              clear h3 hu3 hf3 hap3 ho3 hs hva hap c0 HYR h3m
              rw [HQL.out]
              go_wp2_with fail
              (with_reducible refine (sameByte_ok _ _ q _ HO3.out.rd (HPA.out _ HVA3.out)).mono ?_)
              rintro e w5 ⟨rfl, n5, rfl⟩
              have hu5 := (Upd.refl [] w3).drewN n5
              have HS5 := Lib.hid (HS3.out.upd0 hu5)
              have HVA5 := Lib.hid (HVA3.out.upd hu5 (by simp))
              have HO5 := Lib.hid (HO3.out.upd hu5 (by simp))
              generalize w3.drewN n5 = w5 at *
              clear hu5 HS3 HVA3 HO3 HPA hcut
              go_wp2_with fail
              go_loopw [18] (fun i wr => ∃ t : Nat, t ≤ n ∧ i = .int .i64 t ∧ Hid (∀ g, a3 = some ⟨g, 0, none⟩ → (∀ u, t ≤ u → u < n → ∃ x : UInt8, wr.cell? ⟨g, u, none⟩ = some (bv x)) ∧ ∀ u, wr.frozen? ⟨g, u, none⟩ = false) ∧ Hid (Upd (blk (.slice a3 n c3)) w5 wr)) (fun i _ => n - (intOf i).toNat)
              case atStart =>
                refine ⟨0, Nat.zero_le _, rfl, fun g hg => ?_, Upd.refl _ _⟩
                subst hg
                exact ⟨fun u _ hu => ⟨_, HO5.out.cell u (by rw [HQL.out]; exact hu)⟩, fun u => HO5.out.frozen u⟩
              case round =>
                obtain ⟨t, ht, rfl, hcl, hu6⟩ := hrel
                by_cases htl : t < n
                · obtain ⟨g3, rfl⟩ : ∃ g3, a3 = some ⟨g3, 0, none⟩ := HA3.out.resolve_left (by omega)
                  obtain ⟨hcl1, hfz⟩ := hcl.out g3 rfl
                  obtain ⟨x, hx⟩ := hcl1 t (Nat.le_refl _) htl
                  have f0 := hfz t
                  have p5 : (0 : Int) ≤ t := by omega
                  have p6 : (t : Int) < n := by omega
                  have HCL : Hid (∀ V, ∀ g, (some (⟨g3, 0, none⟩ : Addr)) = some ⟨g, 0, none⟩ → (∀ u, t + 1 ≤ u → u < n → ∃ x : UInt8, (wr.setCell ⟨g3, t, none⟩ V).cell? ⟨g, u, none⟩ = some (bv x)) ∧ ∀ u, (wr.setCell ⟨g3, t, none⟩ V).frozen? ⟨g, u, none⟩ = false) := fun V g hg => by
                    injection hg with hg; injection hg with hg
                    subst hg
                    refine ⟨fun u h1 h2 => ?_, fun u => by rw [World.frozen?_setCell]; exact hfz u⟩
                    obtain ⟨y, hy⟩ := hcl1 u (by omega) h2
                    exact ⟨y, by rw [World.cell?_setCell_other _ _ _ _ (by intro h; injection h with h1 h2 h3; omega)]; exact hy⟩
                  have HU7 : Hid (∀ V, Upd (blk (.slice (some ⟨g3, 0, none⟩) n c3)) w5 (wr.setCell ⟨g3, t, none⟩ V)) := fun V => hu6.out.setCell _ _ (.inl (by simp [blk]))
                  clear hcl hcl1 hfz hu6
                  go_wp2_with fail
                  go_roundw
                  case rel => exact ⟨t + 1, by omega, by go_num, HCL.out _, HU7.out _⟩
                  case measure => simp [intOf]; omega
                · obtain rfl : n = t := by omega
                  have HS6 := Lib.hid (HS5.out.upd hu6.out (fun x hx h => HAP3.out x h hx) HGE3.out)
                  have HVA6 := Lib.hid (HVA5.out.upd hu6.out HAPV.out)
                  clear hcl hu6 HS5 HVA5 HO5
                  go_wp2_with fail
                  go_roundw
                  case rel => exact ⟨j + 1, A + n, G3, [((1 : Int), ((A + n : Nat) : Int))], by omega, by omega, by go_num, by go_num, by go_num, by omega, .inr rfl, HS6, HVA6, HAPG⟩
                  case measure => simp [intOf]; omega
            · obtain ⟨hM, hMl⟩ := hM
              subst hM
              have HYR := Lib.hid HRQ.out.1
              have HQL := Lib.hid HRQ.out.2
              have m1 : (aa.length : Int) < (A : Int) + n := by omega
              obtain ⟨D, hD, hcut⟩ : ∃ D : Option Addr, D = (if co = A then ao else ao.map (·.add A)) ∧ ∀ W, (Instr.slice 27 (.slice ao aa.length co) (some (.int .i64 (A : Int))) (some (.int .i64 (aa.length : Int))) none).run Try.prog W = .ok (.slice D (aa.length - A) (co - A)) W :=
                ⟨_, rfl, fun W => by have h := run_cut_lh (P := Try.prog) (size := 1) Try.underlying27 (by kernel_rfl) ao aa.length co A aa.length (by omega) (by omega) W (A : Int) (aa.length : Int) rfl rfl; rw [Nat.mul_one] at h; exact h⟩
              have HPA : Hid (∀ W, Own bv w.heap.size 5 W (.slice ao aa.length co) aa → Bytes W (.slice D (aa.length - A) (co - A)) ((aa.drop A).take (aa.length - A))) := fun W hW => by rw [hD]; exact (hW.rd.drop A hA).take _ (by rw [List.length_drop]; omega)
              generalize (aa.drop A).take (aa.length - A) = q at *
              clear hD hMl HRQ
              go_wp2_with fail
              (with_reducible refine (yRead_any 1 (A : Int) (n : Int) (i64_s 1 (by omega) (by omega)) HIA.out HIN.out hs.out HTL.out HTB.out).mono ?_)
              rw [HYR.out]
              rintro e w3 ⟨v3, rfl, ho3, G3, h3, hu3, hf3, hap3⟩
              obtain ⟨a3, c3, rfl, h3c, h3m, -⟩ := ho3.rd
              have h3m' : c3 ≤ 9223372036854775807 := by unfold maxLen at h3m; omega
              have HO3 := Lib.hid (show Own bv wr.heap.size 5 w3 (.slice a3 q.length c3) q from ho3)
              have HS3 : Hid (YD w w3 gy G3 [(1, (sF, aa))] [((1 : Int), ((A + (aa.length - A) : Nat) : Int))]) := h3
              have HVA3 := Lib.hid (hva.out.upd hu3 hap.out)
              have HAP3 := Lib.hid hap3
              have hszr := hs.out.old.size
              have HGE3 : Hid (∀ x ∈ blk (.slice a3 q.length c3), w.heap.size ≤ x) := fun x hx => by have := (ho3.ge x hx).1; omega
              have HAPV : Hid (Ap (blk (.slice ao aa.length co)) (blk (.slice a3 q.length c3))) := fun x hx hx3 => by
                have h1 := (ho3.ge x hx3).1
                have h2 := (hva.out.ge x hx).2
                omega
              have HAPG : Hid (Ap (blk (.slice ao aa.length co)) G3) := fun x hx hG => by
                rcases hf3 _ hG with r | r
                · exact hap.out x hx r
                · have := (hva.out.ge x hx).2; omega
              rw [HQL.out] at HO3 HAP3 HGE3 HAPV h3c
              have HA3 : Hid ((aa.length - A) = 0 ∨ ∃ g3, a3 = some ⟨g3, 0, none⟩) := by
                by_cases hn0 : q = []
                · exact .inl (by have := HQL.out; rw [hn0] at this; simpa using this.symm)
                · obtain ⟨g3, cc, he, -⟩ := ho3.form0 hn0
                  injection he with e1 e2 e3
                  exact .inr ⟨g3, e1⟩
              clear h3 hu3 hf3 hap3 ho3 hs hva hap c0 HYR h3m
              rw [HQL.out]
              go_wp2_with fail
              (with_reducible refine (sameByte_ok _ _ q _ HO3.out.rd (HPA.out _ HVA3.out)).mono ?_)
              rintro e w5 ⟨rfl, n5, rfl⟩
              have hu5 := (Upd.refl [] w3).drewN n5
              have HS5 := Lib.hid (HS3.out.upd0 hu5)
              have HVA5 := Lib.hid (HVA3.out.upd hu5 (by simp))
              have HO5 := Lib.hid (HO3.out.upd hu5 (by simp))
              generalize w3.drewN n5 = w5 at *
              clear hu5 HS3 HVA3 HO3 HPA hcut
              go_wp2_with fail
              go_loopw [18] (fun i wr => ∃ t : Nat, t ≤ (aa.length - A) ∧ i = .int .i64 t ∧ Hid (∀ g, a3 = some ⟨g, 0, none⟩ → (∀ u, t ≤ u → u < (aa.length - A) → ∃ x : UInt8, wr.cell? ⟨g, u, none⟩ = some (bv x)) ∧ ∀ u, wr.frozen? ⟨g, u, none⟩ = false) ∧ Hid (Upd (blk (.slice a3 (aa.length - A) c3)) w5 wr)) (fun i _ => (aa.length - A) - (intOf i).toNat)
              case atStart =>
                refine ⟨0, Nat.zero_le _, rfl, fun g hg => ?_, Upd.refl _ _⟩
                subst hg
                exact ⟨fun u _ hu => ⟨_, HO5.out.cell u (by rw [HQL.out]; exact hu)⟩, fun u => HO5.out.frozen u⟩
              case round =>
                obtain ⟨t, ht, rfl, hcl, hu6⟩ := hrel
                by_cases htl : t < (aa.length - A)
                · obtain ⟨g3, rfl⟩ : ∃ g3, a3 = some ⟨g3, 0, none⟩ := HA3.out.resolve_left (by omega)
                  obtain ⟨hcl1, hfz⟩ := hcl.out g3 rfl
                  obtain ⟨x, hx⟩ := hcl1 t (Nat.le_refl _) htl
                  have f0 := hfz t
                  have p5 : (0 : Int) ≤ t := by omega
                  have p6 : (t : Int) < ((aa.length - A : Nat) : Int) := by omega
                  have HCL : Hid (∀ V, ∀ g, (some (⟨g3, 0, none⟩ : Addr)) = some ⟨g, 0, none⟩ → (∀ u, t + 1 ≤ u → u < (aa.length - A) → ∃ x : UInt8, (wr.setCell ⟨g3, t, none⟩ V).cell? ⟨g, u, none⟩ = some (bv x)) ∧ ∀ u, (wr.setCell ⟨g3, t, none⟩ V).frozen? ⟨g, u, none⟩ = false) := fun V g hg => by
                    injection hg with hg; injection hg with hg
                    subst hg
                    refine ⟨fun u h1 h2 => ?_, fun u => by rw [World.frozen?_setCell]; exact hfz u⟩
                    obtain ⟨y, hy⟩ := hcl1 u (by omega) h2
                    exact ⟨y, by rw [World.cell?_setCell_other _ _ _ _ (by intro h; injection h with h1 h2 h3; omega)]; exact hy⟩
                  have HU7 : Hid (∀ V, Upd (blk (.slice (some ⟨g3, 0, none⟩) (aa.length - A) c3)) w5 (wr.setCell ⟨g3, t, none⟩ V)) := fun V => hu6.out.setCell _ _ (.inl (by simp [blk]))
                  clear hcl hcl1 hfz hu6
                  go_wp2_with fail
                  go_roundw
                  case rel => exact ⟨t + 1, by omega, by go_num, HCL.out _, HU7.out _⟩
                  case measure => simp [intOf]; omega
                · obtain rfl : (aa.length - A) = t := by omega
                  have HS6 := Lib.hid (HS5.out.upd hu6.out (fun x hx h => HAP3.out x h hx) HGE3.out)
                  have HVA6 := Lib.hid (HVA5.out.upd hu6.out HAPV.out)
                  clear hcl hu6 HS5 HVA5 HO5
                  go_wp2_with fail
                  go_roundw
                  case rel => exact ⟨j + 1, A + (aa.length - A), G3, [((1 : Int), ((A + (aa.length - A) : Nat) : Int))], by omega, by omega, by go_num, by go_num, by go_num, by omega, .inr rfl, HS6, HVA6, HAPG⟩
                  case measure => simp [intOf]; omega
          · have HV1 := Lib.hid htk.get
            clear htk
            rcases hend2 with ⟨hje, h30⟩ | ⟨hje, hjl2⟩
            · have r1 : ¬ (j : Int) < reads.length := by omega
              clear h30
              go_wp2_with fail
              (with_reducible refine (yTakenD 1 (A : Int) (i64_s 1 (by omega) (by omega)) hs.out HTL.out HV1.out).mono ?_)
              rintro e w3 ⟨rfl, hu3⟩
              have HU3 := Lib.hid (hs.out.old.trans hu3 (fun _ hx => hx) (by simp))
              clear hu3 hs hva hap
              go_wp2_with fail
              (with_reducible refine (yardRuns_any _).mono ?_)
              rintro e w4 ⟨rfl, hu4⟩
              have HU4 := Lib.hid (HU3.out.trans hu4 (fun _ hx => hx) (by simp))
              clear hu4
              go_wp2_with fail
              go_ret
              exact ⟨rfl, HU4.out⟩
            · have r1 : (j : Int) < reads.length := by omega
              have r2 : ¬ (j : Int) < 30 := by omega
              go_wp2_with fail
              (with_reducible refine (yTakenD 1 (A : Int) (i64_s 1 (by omega) (by omega)) hs.out HTL.out HV1.out).mono ?_)
              rintro e w3 ⟨rfl, hu3⟩
              have HU3 := Lib.hid (hs.out.old.trans hu3 (fun _ hx => hx) (by simp))
              clear hu3 hs hva hap
              go_wp2_with fail
              (with_reducible refine (yardRuns_any _).mono ?_)
              rintro e w4 ⟨rfl, hu4⟩
              have HU4 := Lib.hid (HU3.out.trans hu4 (fun _ hx => hx) (by simp))
              clear hu4
              go_wp2_with fail
              go_ret
              exact ⟨rfl, HU4.out⟩
end Go.Proofs.Ytmhdhnipljonlaa
