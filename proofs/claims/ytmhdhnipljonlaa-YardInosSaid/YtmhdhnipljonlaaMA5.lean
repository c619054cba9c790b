/- Texts of the proof, joined: The walk of YardGrows. Chapter 21 as plain law: the file with the least ino stands first, whatever is done to the others. Chapter 21 as plain law: no two files have one name; the least free ino, counted. Arguments that are slices of structs. Arguments that are asks of chapter 21. A region that draws its order and whose calls give plain values and turn nothing that was there: one walk in the text's order. -/
import Derived.Test.YtmhdhnipljonlaaMA4
import Derived.Test.YtmhdhnipljonlaaMA1
import Derived.Deep.Fields
import Derived.ChangeSame
import Derived.Test.YtmhdhnipljonlaaMA2
namespace Go.Proofs.Ytmhdhnipljonlaa
open Go.RowKit
set_option linter.unusedSimpArgs false
set_option linter.unusedVariables false
theorem tGet_set {l : List (Int × Int)} (h : Rising ltY l) (k v : Int) : tGet ltY 0 (tSet ltY l k v) k = (v, true) := by
  have hm : (k, v) ∈ tSet ltY l k v := by unfold tSet; simp
  obtain ⟨i, hi, he⟩ := List.mem_iff_getElem.1 hm
  have := tGet_at intOrd 0 (h.set_ intOrd k v) i hi
  rwa [nth_get _ i hi, he] at this
theorem YD.tkris {w0 w : World} {gy : Nat} {G : List Nat} {fl : FL} {tk : List (Int × Int)} (h : YD w0 w gy G fl tk) : Rising ltY tk := by
  obtain ⟨gf, gt, F, T, cs, hc, -⟩ := h.ex
  exact hc.taken.ris
theorem one_read (aa : List UInt8) (tk : List (Int × Int)) (a n : Nat) (s : ByteArray) : yRead [(1, (s, aa))] tk 1 (a : Int) (n : Int) = ((((aa.drop a).take n), 0), tSet ltY tk 1 ((tGet ltY 0 tk 1).1 + (((aa.drop a).take n).length : Int))) := by
  have hb : below ltY [((1 : Int), (s, aa))] 1 = 0 := by unfold below; rw [List.takeWhile_cons]; simp
  have hi : isIn ltY [((1 : Int), (s, aa))] 1 = true := by unfold isIn; rw [hb]; simp [nth_cons_zero]
  unfold yRead
  rw [hi, hb, if_pos rfl, if_neg (by omega), nth_cons_zero]
  simp only [Int.toNat_natCast]
def TK (tk : List (Int × Int)) (A : Nat) : Prop := (tk = [] ∧ A = 0) ∨ tk = [((1 : Int), (A : Int))]
theorem below1 {ν : Type} (v : ν) : below ltY [((1 : Int), v)] 1 = 0 := by unfold below; rw [List.takeWhile_cons]; simp
theorem isIn1 {ν : Type} [Inhabited ν] (v : ν) : isIn ltY [((1 : Int), v)] 1 = true := by unfold isIn; rw [below1]; simp [nth_cons_zero]
theorem TK.get {tk : List (Int × Int)} {A : Nat} (h : TK tk A) : (tGet ltY 0 tk 1).1 = (A : Int) := by
  rcases h with ⟨rfl, rfl⟩ | rfl
  · rfl
  · unfold tGet; rw [isIn1, below1]; rfl
theorem TK.set {tk : List (Int × Int)} {A : Nat} (h : TK tk A) (x : Int) : tSet ltY tk 1 x = [((1 : Int), x)] := by
  rcases h with ⟨rfl, rfl⟩ | rfl
  · rfl
  · unfold tSet; rw [isIn1, below1]; rfl
theorem TK.len {tk : List (Int × Int)} {A : Nat} (h : TK tk A) : tk.length ≤ 1 := by
  rcases h with ⟨rfl, rfl⟩ | rfl <;> simp
theorem TK.bd {tk : List (Int × Int)} {A : Nat} (h : TK tk A) (hA : A ≤ 1000000000000) : ∀ p ∈ tk, 0 ≤ p.2 ∧ p.2 ≤ 1000000000000 := by
  rcases h with ⟨rfl, rfl⟩ | rfl
  · intro p hp; simp at hp
  · intro p hp; simp at hp; subst hp; exact ⟨by omega, by show (A : Int) ≤ _; omega⟩
theorem TK.read {aa : List UInt8} {tk : List (Int × Int)} {A : Nat} (h : TK tk A) (n M : Nat) (s : ByteArray) (hA : A ≤ aa.length) (hM : (M = n ∧ A + n ≤ aa.length) ∨ (M = aa.length - A ∧ aa.length < A + n)) : yRead [(1, (s, aa))] tk 1 (A : Int) (n : Int) = ((((aa.drop A).take M), 0), [((1 : Int), ((A + M : Nat) : Int))]) ∧ ((aa.drop A).take M).length = M := by
  have hl : ((aa.drop A).take M).length = M := by rw [List.length_take, List.length_drop]; omega
  have hq : (aa.drop A).take n = (aa.drop A).take M := by
    rcases hM with ⟨rfl, -⟩ | ⟨rfl, h2⟩
    · rfl
    · rw [List.take_of_length_le (by rw [List.length_drop]; omega), List.take_of_length_le (by rw [List.length_drop]; omega)]
  refine ⟨?_, hl⟩
  rw [one_read, hq, h.set, h.get, hl]
  rfl
set_option maxRecDepth 20000 in
set_option maxHeartbeats 8000000 in
theorem yardGrows_any (w : World) (vp : Value) (ls : List (List UInt8)) (hparts : ∃ vs : List Value, vs.length = ls.length ∧ Rd id w vp vs ∧ ∀ j, j < ls.length → Bytes w (nth vs j) (nth ls j)) (vr : Value) (reads : List Int) (hr : Rd iv w vr reads) (hri : ∀ x ∈ reads, I64 x) (_ : reads.length * 8 ≤ 140737488351232) :
    Calls Try.prog 5 #[vp, vr] w fun e w' => e = .returned (.bool true) ∧ Upd [] w w' := by
  obtain ⟨vs, hvl, ⟨a, cap, rfl, hlc, hcm, hcell⟩, hby⟩ := hparts
  obtain ⟨a2, cap2, rfl, hlc2, hcm2, hcell2⟩ := hr
  have hm' : vs.length ≤ 9223372036854775807 := by unfold maxLen at hcm; omega
  have hm2' : reads.length ≤ 9223372036854775807 := by unfold maxLen at hcm2; omega
  have HC := Lib.hid hcell
  have HC2 := Lib.hid hcell2
  have HBY := Lib.hid hby
  have HRI := Lib.hid hri
  have HVL := Lib.hid hvl
  clear hlc hcm hcell hby hvl hlc2 hcm2 hcell2 hri
  go_enter Try.func5, Try.ntmps5
  go_wp2_with fail
  (with_reducible refine (yNew_any w _ (Upd.refl [] w)).mono ?_)
  rintro e w1 ⟨gy, rfl, ⟨G1, h1, -⟩, -⟩
  have H1 := Lib.hid h1
  clear h1
  go_wp2_with fail
  (with_reducible refine (yCreate_any sF H1.out).mono ?_)
  rintro e w2 ⟨rfl, G2, h2, -, -⟩
  have H2 : Hid (YD w w2 gy G2 [(1, (sF, []))] []) := h2
  rw [show (yCreate [] sF).1 = 0 by kernel_rfl]
  clear h2 H1
  go_wp2_with fail
  go_loopw [6, 7] (fun va i wr => ∃ (k : Nat) (G : List Nat) (aa : List UInt8), k ≤ 15 ∧ k ≤ vs.length ∧ i = .int .i64 k ∧ aa.length ≤ 300 * k ∧ Hid (YD w wr gy G [(1, (sF, aa))] []) ∧ Hid (Own bv w.heap.size 5 wr va aa) ∧ Hid (Ap (blk va) G)) (fun _ i _ => 15 - (intOf i).toNat)
  case atStart => exact ⟨0, G2, [], by omega, by omega, rfl, by simp, H2, World.ownsRow_nil _ _ _ _, Ap.nil⟩
  case round =>
    obtain ⟨k, G, aa, hk, hkl, rfl, hal, hs, hva, hap⟩ := hrel
    clear H2
    have hend : (k < vs.length ∧ k < 15) ∨ (k = vs.length ∧ Hid (k ≤ 15)) ∨ (k = 15 ∧ k < vs.length) := by unfold Hid; omega
    rcases hend with ⟨hlt, h2⟩ | hend
    · obtain ⟨b, off, rfl, hc⟩ := HC.out (by intro h; simp [h] at hlt)
      have c0 : wr.cell? ⟨b, off + k, none⟩ = some (nth vs k) := hs.out.old.cell (hc k hlt) (by simp)
      have HPW := Lib.hid (HBY.out k (by rw [← HVL.out]; exact hlt))
      generalize nth vs k = pv at *
      generalize nth ls k = l at *
      obtain ⟨pa, pc, rfl, hplc, hpcm, -⟩ := HPW.out
      have hplm : l.length ≤ 9223372036854775807 := by unfold maxLen at hpcm; omega
      have hpcm' : pc ≤ 9223372036854775807 := by unfold maxLen at hpcm; omega
      have q1 : (k : Int) < vs.length := by omega
      have q2 : (k : Int) < 15 := by omega
      clear hc hpcm
      obtain ⟨ao, co, rfl, -⟩ := hva.out.rd
      by_cases hbig : 300 < l.length
      · have hq3 : (300 : Int) < l.length := by omega
        have hq4 : 300 ≤ pc := by omega
        have hcutp : ∀ W, (Instr.slice 27 (.slice pa l.length pc) none (some (.int .i64 300)) none).run Try.prog W = .ok (.slice pa 300 pc) W := fun W => run_cut_h (P := Try.prog) (size := 1) Try.underlying27 (by kernel_rfl) pa l.length pc 300 hq4 W
        have HPQ : Hid (Bytes w (.slice pa 300 pc) (l.take 300)) := HPW.out.take 300 (by omega)
        have hql : (l.take 300).length = 300 := by rw [List.length_take]; omega
        generalize l.take 300 = q at *
        have HQL := Lib.hid hql
        clear hql
        have hcutf : ∀ g W, (Instr.slice 27 (.slice (some ⟨g, 0, none⟩) (300 + 80) (300 + 80)) none (some (.int .i64 (300 : Int))) none).run Try.prog W = .ok (.slice (some ⟨g, 0, none⟩) 300 (300 + 80)) W := fun g W => run_cut_h (P := Try.prog) (size := 1) Try.underlying27 (by kernel_rfl) (some ⟨g, 0, none⟩) (300 + 80) (300 + 80) 300 (by omega) W
        have HYA : Hid (yAppend [(1, (sF, aa))] sF q = (0, [(1, (sF, aa ++ q))])) := by
          unfold Hid
          rw [one_append, if_neg (by have := HQL.out; omega)]
        go_wp2_with fail
        (refine (roomyByte_any _ q 17 _ (HPQ.out.upd0 hs.out.old) (by have := HQL.out; omega)).mono ?_)
        rintro e w3 ⟨u3, rfl, hroom⟩
        have HPRE := Lib.hid (hroom.pre (by have := HQL.out; unfold maxLen; omega))
        have HFUL := Lib.hid (hroom.rd (by have := HQL.out; unfold maxLen; omega))
        obtain ⟨rfl, hbf, hu3⟩ := hroom
        have HBF := Lib.hid hbf
        have HS3 := Lib.hid (hs.out.upd0 hu3)
        have HVA3 := Lib.hid (hva.out.upd hu3 (by simp))
        have HGF : Hid (wr.heap.size ∉ G ∧ wr.heap.size ∉ blk (.slice ao aa.length co)) := ⟨fun hx => by have := (hs.out.ge _ hx).2; omega, fun hx => by have := (hva.out.ge _ hx).2; omega⟩
        have hszr := hs.out.old.size
        rw [HQL.out] at HPRE HFUL ⊢
        clear hbf hu3 hs hva c0
        go_wp2_with fail
        (with_reducible refine (yAppend_any sF _ q HPRE.out (by have := HQL.out; omega) HS3.out).mono ?_)
        rw [HYA.out]
        rintro e w4 ⟨rfl, G4, h4, hu4, hf4⟩
        have HS4 : Hid (YD w w4 gy G4 [(1, (sF, aa ++ q))] []) := h4
        have HVA4 := Lib.hid (HVA3.out.upd hu4 hap.out)
        have HFUL4 := Lib.hid (HFUL.out.upd hu4 (fun x hx h => by simp [blk] at hx; rw [hx] at h; exact HGF.out.1 h))
        have HBF4 := Lib.hid (HBF.out.upd hu4 HGF.out.1)
        have hsz4 := HBF.out.lt
        have HGF4 : Hid (wr.heap.size ∉ G4) := fun hx => by
          rcases hf4 _ hx with r | r
          · exact HGF.out.1 r
          · omega
        have HAP4 : Hid (Ap (blk (.slice ao aa.length co)) G4) := fun x hx hG => by
          rcases hf4 _ hG with r | r
          · exact hap.out x hx r
          · have := (HVA3.out.ge x hx).2; omega
        clear h4 hu4 hf4 HS3 HVA3 HFUL HBF HPRE hap
        go_wp2_with fail
        (refine (intactByte_ok _ _ q 17 _ HFUL4.out (HPQ.out.upd0 HS4.out.old) (by have := HQL.out; omega)).mono ?_)
        rintro e w5 ⟨rfl, n5, rfl⟩
        have hu5 := (Upd.refl [] w4).drewN n5
        have HS5 := Lib.hid (HS4.out.upd0 hu5)
        have HVA5 := Lib.hid (HVA4.out.upd hu5 (by simp))
        have HBF5 := Lib.hid (HBF4.out.upd hu5 (by simp))
        generalize w4.drewN n5 = w5 at *
        clear hu5 HS4 HVA4 HBF4 HFUL4
        go_wp2_with fail
        generalize hgF : wr.heap.size = gF at *
        clear hgF
        go_loopw [10] (fun i wr => ∃ j : Nat, j ≤ 300 + 80 ∧ i = .int .i64 j ∧ Hid (∀ t, j ≤ t → t < 300 + 80 → ∃ x : UInt8, wr.cell? ⟨gF, t, none⟩ = some (bv x)) ∧ Hid (∀ t, wr.frozen? ⟨gF, t, none⟩ = false) ∧ Hid (Upd [gF] w5 wr)) (fun i _ => 300 + 80 - (intOf i).toNat)
        case atStart =>
          refine ⟨0, Nat.zero_le _, rfl, fun t _ ht => ?_, fun t => HBF5.out.frozen t, Upd.refl _ _⟩
          have hl : t < (q ++ List.replicate 80 17).length := by rw [List.length_append, HQL.out]; simp; omega
          exact ⟨_, by rw [HBF5.out.cell, List.getElem?_map, List.getElem?_eq_getElem hl]; rfl⟩
        case round =>
          obtain ⟨j, hj, rfl, hcl, hfz, hu6⟩ := hrel
          by_cases hjl : j < 300 + 80
          · obtain ⟨x, hx⟩ := hcl.out j (Nat.le_refl _) hjl
            have f0 := hfz.out j
            have q5 : (0 : Int) ≤ j := by omega
            have q6 : (j : Int) < 300 + 80 := by omega
            have HCL : Hid (∀ V, ∀ t, j + 1 ≤ t → t < 300 + 80 → ∃ x : UInt8, (wr.setCell ⟨gF, j, none⟩ V).cell? ⟨gF, t, none⟩ = some (bv x)) := fun V t h1 h2 => by
              obtain ⟨y, hy⟩ := hcl.out t (by omega) h2
              exact ⟨y, by rw [World.cell?_setCell_other _ _ _ _ (by intro h; injection h with h1 h2 h3; omega)]; exact hy⟩
            have HFZ : Hid (∀ V, ∀ t, (wr.setCell ⟨gF, j, none⟩ V).frozen? ⟨gF, t, none⟩ = false) := fun V t => by rw [World.frozen?_setCell]; exact hfz.out t
            have HU7 : Hid (∀ V, Upd [gF] w5 (wr.setCell ⟨gF, j, none⟩ V)) := fun V => hu6.out.setCell _ _ (.inl (by simp))
            clear hcl hfz hu6
            go_wp2_with fail
            go_roundw
            case rel => exact ⟨j + 1, by omega, by go_num, HCL.out _, HFZ.out _, HU7.out _⟩
            case measure => simp [intOf]; omega
          · obtain rfl : j = 300 + 80 := by omega
            have HS6 := Lib.hid (HS5.out.upd hu6.out (fun x hx h => HGF4.out (by simp at h; rw [← h]; exact hx)) (by simpa using hszr))
            have HVA6 := Lib.hid (HVA5.out.upd hu6.out (fun x hx h => HGF.out.2 (by simp at h; rw [← h]; exact hx)))
            have HRUN := Lib.hid (fun ty => run_app (P := Try.prog) (ty := ty) bv_one Try.underlying27 infoByte rfl (.slice ao aa.length co) (.slice pa 300 pc) aa q HVA6.out (HPQ.out.upd0 HS6.out.old) (by have := HQL.out; omega) (by have := HQL.out; unfold maxLen; omega) HS6.out.old.size)
            clear hcl hfz hu6
            go_wp2_with (at_builtin; go_must (refine wpList_app_of rfl _ _ rfl (.slice ao aa.length co) (.slice pa 300 pc) rfl rfl (HRUN.out _) ?_; rintro v8 w8 ⟨ho8, hu8, hk8⟩; have HO8 := Lib.hid ho8; have HU8 := Lib.hid hu8; have HK8 := Lib.hid hk8; obtain ⟨a8, c8, rfl, -⟩ := ho8.rd; clear ho8 hu8 hk8))
            have HS8 := Lib.hid (HS6.out.upd HU8.out (fun x hx h => HAP4.out x h hx) (fun x hx => (HVA6.out.ge x hx).1))
            have HAP8 : Hid (Ap (blk (.slice a8 (aa ++ q).length c8)) G4) := fun x hx hG => by
              rcases HK8.out x hx with r | r
              · exact HAP4.out x r hG
              · have := (HS6.out.ge x hG).2; omega
            have hlen8 : (aa ++ q).length ≤ 300 * (k + 1) := by rw [List.length_append]; have := HQL.out; omega
            have HL8 : Hid (aa.length + q.length = (aa ++ q).length) := by unfold Hid; rw [List.length_append]
            clear HS6 HVA6 HRUN HU8 HK8
            go_roundw
            case rel => exact ⟨k + 1, G4, aa ++ q, by omega, by omega, by go_num, hlen8, HS8, by rw [HL8.out]; exact HO8, by rw [HL8.out]; exact HAP8⟩
            case measure => simp [intOf]; omega
      · have hq3 : ¬ (300 : Int) < l.length := by omega
        have HPQ : Hid (Bytes w (.slice pa l.length pc) l) := HPW.out
        obtain ⟨q, hq⟩ : ∃ q, l = q := ⟨_, rfl⟩
        subst hq
        have HQL : Hid (l.length = l.length) := rfl
        have hl300 : l.length ≤ 300 := by omega
        have hcutf : ∀ g W, (Instr.slice 27 (.slice (some ⟨g, 0, none⟩) (l.length + 80) (l.length + 80)) none (some (.int .i64 (l.length : Int))) none).run Try.prog W = .ok (.slice (some ⟨g, 0, none⟩) l.length (l.length + 80)) W := fun g W => run_cut_h (P := Try.prog) (size := 1) Try.underlying27 (by kernel_rfl) (some ⟨g, 0, none⟩) (l.length + 80) (l.length + 80) l.length (by omega) W
        have HYA : Hid (yAppend [(1, (sF, aa))] sF l = (0, [(1, (sF, aa ++ l))])) := by
          unfold Hid
          rw [one_append, if_neg (by have := HQL.out; omega)]
        go_wp2_with fail
        (refine (roomyByte_any _ l 17 _ (HPQ.out.upd0 hs.out.old) (by have := HQL.out; omega)).mono ?_)
        rintro e w3 ⟨u3, rfl, hroom⟩
        have HPRE := Lib.hid (hroom.pre (by have := HQL.out; unfold maxLen; omega))
        have HFUL := Lib.hid (hroom.rd (by have := HQL.out; unfold maxLen; omega))
        obtain ⟨rfl, hbf, hu3⟩ := hroom
        have HBF := Lib.hid hbf
        have HS3 := Lib.hid (hs.out.upd0 hu3)
        have HVA3 := Lib.hid (hva.out.upd hu3 (by simp))
        have HGF : Hid (wr.heap.size ∉ G ∧ wr.heap.size ∉ blk (.slice ao aa.length co)) := ⟨fun hx => by have := (hs.out.ge _ hx).2; omega, fun hx => by have := (hva.out.ge _ hx).2; omega⟩
        have hszr := hs.out.old.size
        clear hbf hu3 hs hva c0
        go_wp2_with fail
        (with_reducible refine (yAppend_any sF _ l HPRE.out (by have := HQL.out; omega) HS3.out).mono ?_)
        rw [HYA.out]
        rintro e w4 ⟨rfl, G4, h4, hu4, hf4⟩
        have HS4 : Hid (YD w w4 gy G4 [(1, (sF, aa ++ l))] []) := h4
        have HVA4 := Lib.hid (HVA3.out.upd hu4 hap.out)
        have HFUL4 := Lib.hid (HFUL.out.upd hu4 (fun x hx h => by simp [blk] at hx; rw [hx] at h; exact HGF.out.1 h))
        have HBF4 := Lib.hid (HBF.out.upd hu4 HGF.out.1)
        have hsz4 := HBF.out.lt
        have HGF4 : Hid (wr.heap.size ∉ G4) := fun hx => by
          rcases hf4 _ hx with r | r
          · exact HGF.out.1 r
          · omega
        have HAP4 : Hid (Ap (blk (.slice ao aa.length co)) G4) := fun x hx hG => by
          rcases hf4 _ hG with r | r
          · exact hap.out x hx r
          · have := (HVA3.out.ge x hx).2; omega
        clear h4 hu4 hf4 HS3 HVA3 HFUL HBF HPRE hap
        go_wp2_with fail
        (refine (intactByte_ok _ _ l 17 _ HFUL4.out (HPQ.out.upd0 HS4.out.old) (by have := HQL.out; omega)).mono ?_)
        rintro e w5 ⟨rfl, n5, rfl⟩
        have hu5 := (Upd.refl [] w4).drewN n5
        have HS5 := Lib.hid (HS4.out.upd0 hu5)
        have HVA5 := Lib.hid (HVA4.out.upd hu5 (by simp))
        have HBF5 := Lib.hid (HBF4.out.upd hu5 (by simp))
        generalize w4.drewN n5 = w5 at *
        clear hu5 HS4 HVA4 HBF4 HFUL4
        go_wp2_with fail
        generalize hgF : wr.heap.size = gF at *
        clear hgF
        go_loopw [10] (fun i wr => ∃ j : Nat, j ≤ l.length + 80 ∧ i = .int .i64 j ∧ Hid (∀ t, j ≤ t → t < l.length + 80 → ∃ x : UInt8, wr.cell? ⟨gF, t, none⟩ = some (bv x)) ∧ Hid (∀ t, wr.frozen? ⟨gF, t, none⟩ = false) ∧ Hid (Upd [gF] w5 wr)) (fun i _ => l.length + 80 - (intOf i).toNat)
        case atStart =>
          refine ⟨0, Nat.zero_le _, rfl, fun t _ ht => ?_, fun t => HBF5.out.frozen t, Upd.refl _ _⟩
          have hl : t < (l ++ List.replicate 80 17).length := by rw [List.length_append]; simp; omega
          exact ⟨_, by rw [HBF5.out.cell, List.getElem?_map, List.getElem?_eq_getElem hl]; rfl⟩
        case round =>
          obtain ⟨j, hj, rfl, hcl, hfz, hu6⟩ := hrel
          by_cases hjl : j < l.length + 80
          · obtain ⟨x, hx⟩ := hcl.out j (Nat.le_refl _) hjl
            have f0 := hfz.out j
            have q5 : (0 : Int) ≤ j := by omega
            have q6 : (j : Int) < l.length + 80 := by omega
            have HCL : Hid (∀ V, ∀ t, j + 1 ≤ t → t < l.length + 80 → ∃ x : UInt8, (wr.setCell ⟨gF, j, none⟩ V).cell? ⟨gF, t, none⟩ = some (bv x)) := fun V t h1 h2 => by
              obtain ⟨y, hy⟩ := hcl.out t (by omega) h2
              exact ⟨y, by rw [World.cell?_setCell_other _ _ _ _ (by intro h; injection h with h1 h2 h3; omega)]; exact hy⟩
            have HFZ : Hid (∀ V, ∀ t, (wr.setCell ⟨gF, j, none⟩ V).frozen? ⟨gF, t, none⟩ = false) := fun V t => by rw [World.frozen?_setCell]; exact hfz.out t
            have HU7 : Hid (∀ V, Upd [gF] w5 (wr.setCell ⟨gF, j, none⟩ V)) := fun V => hu6.out.setCell _ _ (.inl (by simp))
            clear hcl hfz hu6
            go_wp2_with fail
            go_roundw
            case rel => exact ⟨j + 1, by omega, by go_num, HCL.out _, HFZ.out _, HU7.out _⟩
            case measure => simp [intOf]; omega
          · obtain rfl : j = l.length + 80 := by omega
            have HS6 := Lib.hid (HS5.out.upd hu6.out (fun x hx h => HGF4.out (by simp at h; rw [← h]; exact hx)) (by simpa using hszr))
            have HVA6 := Lib.hid (HVA5.out.upd hu6.out (fun x hx h => HGF.out.2 (by simp at h; rw [← h]; exact hx)))
            have HRUN := Lib.hid (fun ty => run_app (P := Try.prog) (ty := ty) bv_one Try.underlying27 infoByte rfl (.slice ao aa.length co) (.slice pa l.length pc) aa l HVA6.out (HPQ.out.upd0 HS6.out.old) (by have := HQL.out; omega) (by have := HQL.out; unfold maxLen; omega) HS6.out.old.size)
            clear hcl hfz hu6
            go_wp2_with (at_builtin; go_must (refine wpList_app_of rfl _ _ rfl (.slice ao aa.length co) (.slice pa l.length pc) rfl rfl (HRUN.out _) ?_; rintro v8 w8 ⟨ho8, hu8, hk8⟩; have HO8 := Lib.hid ho8; have HU8 := Lib.hid hu8; have HK8 := Lib.hid hk8; obtain ⟨a8, c8, rfl, -⟩ := ho8.rd; clear ho8 hu8 hk8))
            have HS8 := Lib.hid (HS6.out.upd HU8.out (fun x hx h => HAP4.out x h hx) (fun x hx => (HVA6.out.ge x hx).1))
            have HAP8 : Hid (Ap (blk (.slice a8 (aa ++ l).length c8)) G4) := fun x hx hG => by
              rcases HK8.out x hx with r | r
              · exact HAP4.out x r hG
              · have := (HS6.out.ge x hG).2; omega
            have hlen8 : (aa ++ l).length ≤ 300 * (k + 1) := by rw [List.length_append]; have := HQL.out; omega
            have HL8 : Hid (aa.length + l.length = (aa ++ l).length) := by unfold Hid; rw [List.length_append]
            clear HS6 HVA6 HRUN HU8 HK8
            go_roundw
            case rel => exact ⟨k + 1, G4, aa ++ l, by omega, by omega, by go_num, hlen8, HS8, by rw [HL8.out]; exact HO8, by rw [HL8.out]; exact HAP8⟩
            case measure => simp [intOf]; omega
    · clear HC HBY HVL
      rcases hend with ⟨hke, h15⟩ | ⟨hke, hlt⟩
      · have q1 : ¬ (k : Int) < vs.length := by omega
        have hk15 := h15.out
        clear h15
        obtain ⟨ao, co, rfl, hco, hcom, -⟩ := hva.out.rd
        have hcom' : co ≤ 9223372036854775807 := by unfold maxLen at hcom; omega
        have hal' : aa.length ≤ 4500 := by omega
        clear hcom
        go_wp2_with fail
        go_loopw [11, 12, 13] (fun vt vk i wr => ∃ (j A : Nat) (G : List Nat) (tk : List (Int × Int)), j ≤ 30 ∧ j ≤ reads.length ∧ vt = .int .i64 A ∧ vk = .int .i64 A ∧ i = .int .i64 j ∧ A ≤ aa.length ∧ TK tk A ∧ Hid (YD w wr gy G [(1, (sF, aa))] tk) ∧ Hid (Own bv w.heap.size 5 wr (.slice ao aa.length co) aa) ∧ Hid (Ap (blk (.slice ao aa.length co)) G)) (fun _ _ i _ => 30 - (intOf i).toNat)
        case atStart => exact ⟨0, 0, G, [], by omega, by omega, rfl, rfl, rfl, by omega, .inl ⟨rfl, rfl⟩, hs, hva, hap⟩
        case round =>
          clear hs hva hap
          obtain ⟨j, A, G, tk, hj, hjl, rfl, rfl, rfl, hA, htk, hs, hva, hap⟩ := hrel
          have HIA : Hid (I64 (A : Int)) := ⟨by omega, by omega⟩
          have HTL : Hid (tk.length ≤ 50000) := by have := htk.len; unfold Hid; omega
          have HTB := Lib.hid (htk.bd (by omega))
          have hend2 : (j < reads.length ∧ j < 30) ∨ (j = reads.length ∧ Hid (j ≤ 30)) ∨ (j = 30 ∧ j < reads.length) := by unfold Hid; omega
          rcases hend2 with ⟨hlt2, h30⟩ | hend2
          · obtain ⟨b2, off2, rfl, hc2⟩ := HC2.out (by intro h; simp [h] at hlt2)
            have c0 : wr.cell? ⟨b2, off2 + j, none⟩ = some (.int .i64 (nth reads j)) := hs.out.old.cell (hc2 j hlt2) (by simp)
            have HX : Hid (-9223372036854775808 ≤ nth reads j ∧ nth reads j ≤ 9223372036854775807) := HRI.out _ (by rw [nth_get _ _ hlt2]; exact List.getElem_mem _)
            generalize nth reads j = x at *
            obtain ⟨n1, n2⟩ := within_in x 0 200 (by omega)
            obtain ⟨n, hn⟩ := Int.eq_ofNat_of_zero_le n1
            rw [hn] at n2
            have HWN := Lib.hid hn
            have HIN : Hid (I64 (n : Int)) := ⟨by omega, by omega⟩
            have r1 : (j : Int) < reads.length := by omega
            have r2 : (j : Int) < 30 := by omega
            clear hc2 hn n1
            go_wp2_with fail
            (with_reducible refine (within_any _ _ _ _ HX.out (by omega) (by omega) (by omega)).mono ?_)
            rintro e w' ⟨rfl, rfl⟩
            rw [HWN.out]
            obtain ⟨M, hM⟩ : ∃ M, (M = n ∧ A + n ≤ aa.length) ∨ (M = aa.length - A ∧ aa.length < A + n) := by
              by_cases hq : A + n ≤ aa.length
              · exact ⟨n, .inl ⟨rfl, hq⟩⟩
              · exact ⟨aa.length - A, .inr ⟨rfl, by omega⟩⟩
            have HRQ := Lib.hid (htk.read n M sF hA hM)
            rcases hM with hM | hM
            · obtain ⟨hM, hMl⟩ := hM
              have hM := hM.symm
              subst hM
              have HYR := Lib.hid HRQ.out.1
              have HQL := Lib.hid HRQ.out.2
              have m1 : (A : Int) + n ≤ aa.length := by omega
              obtain ⟨D, hD, hcut⟩ : ∃ D : Option Addr, D = (if co = A then ao else ao.map (·.add A)) ∧ ∀ W, (Instr.slice 27 (.slice ao aa.length co) (some (.int .i64 (A : Int))) (some (.int .i64 ((A : Int) + n))) none).run Try.prog W = .ok (.slice D n (co - A)) W :=
                ⟨_, rfl, fun W => by have h := run_cut_lh (P := Try.prog) (size := 1) Try.underlying27 (by kernel_rfl) ao aa.length co A (A + n) (by omega) (by omega) W (A : Int) ((A : Int) + n) rfl (by omega); rw [show A + n - A = n by omega, Nat.mul_one] at h; exact h⟩
              have HPA : Hid (∀ W, Own bv w.heap.size 5 W (.slice ao aa.length co) aa → Bytes W (.slice D n (co - A)) ((aa.drop A).take n)) := fun W hW => by rw [hD]; exact (hW.rd.drop A hA).take _ (by rw [List.length_drop]; omega)
              generalize (aa.drop A).take n = q at *
              clear hD hMl HRQ
              go_wp2_with fail
              (with_reducible refine (yRead_any 1 (A : Int) (n : Int) (i64_s 1 (by omega) (by omega)) HIA.out HIN.out hs.out HTL.out HTB.out).mono ?_)
              rw [HYR.out]
              rintro e w3 ⟨v3, rfl, ho3, G3, h3, hu3, hf3, hap3⟩
              obtain ⟨a3, c3, rfl, h3c, h3m, -⟩ := ho3.rd
              have h3m' : c3 ≤ 9223372036854775807 := by unfold maxLen at h3m; omega
              have HO3 := Lib.hid (show Own bv wr.heap.size 5 w3 (.slice a3 q.length c3) q from ho3)
              have HS3 : Hid (YD w w3 gy G3 [(1, (sF, aa))] [((1 : Int), ((A + n : Nat) : Int))]) := h3
              have HVA3 := Lib.hid (hva.out.upd hu3 hap.out)
              have HAP3 := Lib.hid hap3
              have hszr := hs.out.old.size
              have HGE3 : Hid (∀ x ∈ blk (.slice a3 q.length c3), w.heap.size ≤ x) := fun x hx => by have := (ho3.ge x hx).1; omega
              have HAPV : Hid (Ap (blk (.slice ao aa.length co)) (blk (.slice a3 q.length c3))) := fun x hx hx3 => by
                have h1 := (ho3.ge x hx3).1
                have h2 := (hva.out.ge x hx).2
                omega
              have HAPG : Hid (Ap (blk (.slice ao aa.length co)) G3) := fun x hx hG => by
                rcases hf3 _ hG with r | r
                · exact hap.out x hx r
                · have := (hva.out.ge x hx).2; omega
              rw [HQL.out] at HO3 HAP3 HGE3 HAPV h3c
              have HA3 : Hid (n = 0 ∨ ∃ g3, a3 = some ⟨g3, 0, none⟩) := by
                by_cases hn0 : q = []
                · exact .inl (by have := HQL.out; rw [hn0] at this; simpa using this.symm)
                · obtain ⟨g3, cc, he, -⟩ := ho3.form0 hn0
                  injection he with e1 e2 e3
                  exact .inr ⟨g3, e1⟩
              clear h3 hu3 hf3 hap3 ho3 hs hva hap c0 HYR h3m
              rw [HQL.out]
              go_wp2_with fail
              (with_reducible refine (sameByte_ok _ _ q _ HO3.out.rd (HPA.out _ HVA3.out)).mono ?_)
              rintro e w5 ⟨rfl, n5, rfl⟩
              have hu5 := (Upd.refl [] w3).drewN n5
              have HS5 := Lib.hid (HS3.out.upd0 hu5)
              have HVA5 := Lib.hid (HVA3.out.upd hu5 (by simp))
              have HO5 := Lib.hid (HO3.out.upd hu5 (by simp))
              generalize w3.drewN n5 = w5 at *
              clear hu5 HS3 HVA3 HO3 HPA hcut
              go_wp2_with fail
              go_loopw [18] (fun i wr => ∃ t : Nat, t ≤ n ∧ i = .int .i64 t ∧ Hid (∀ g, a3 = some ⟨g, 0, none⟩ → (∀ u, t ≤ u → u < n → ∃ x : UInt8, wr.cell? ⟨g, u, none⟩ = some (bv x)) ∧ ∀ u, wr.frozen? ⟨g, u, none⟩ = false) ∧ Hid (Upd (blk (.slice a3 n c3)) w5 wr)) (fun i _ => n - (intOf i).toNat)
              case atStart =>
                refine ⟨0, Nat.zero_le _, rfl, fun g hg => ?_, Upd.refl _ _⟩
                subst hg
                exact ⟨fun u _ hu => ⟨_, HO5.out.cell u (by rw [HQL.out]; exact hu)⟩, fun u => HO5.out.frozen u⟩
              case round =>
                obtain ⟨t, ht, rfl, hcl, hu6⟩ := hrel
                by_cases htl : t < n
                · obtain ⟨g3, rfl⟩ : ∃ g3, a3 = some ⟨g3, 0, none⟩ := HA3.out.resolve_left (by omega)
                  obtain ⟨hcl1, hfz⟩ := hcl.out g3 rfl
                  obtain ⟨x, hx⟩ := hcl1 t (Nat.le_refl _) htl
                  have f0 := hfz t
                  have p5 : (0 : Int) ≤ t := by omega
                  have p6 : (t : Int) < n := by omega
                  have HCL : Hid (∀ V, ∀ g, (some (⟨g3, 0, none⟩ : Addr)) = some ⟨g, 0, none⟩ → (∀ u, t + 1 ≤ u → u < n → ∃ x : UInt8, (wr.setCell ⟨g3, t, none⟩ V).cell? ⟨g, u, none⟩ = some (bv x)) ∧ ∀ u, (wr.setCell ⟨g3, t, none⟩ V).frozen? ⟨g, u, none⟩ = false) := fun V g hg => by
                    injection hg with hg; injection hg with hg
                    subst hg
                    refine ⟨fun u h1 h2 => ?_, fun u => by rw [World.frozen?_setCell]; exact hfz u⟩
                    obtain ⟨y, hy⟩ := hcl1 u (by omega) h2
                    exact ⟨y, by rw [World.cell?_setCell_other _ _ _ _ (by intro h; injection h with h1 h2 h3; omega)]; exact hy⟩
                  have HU7 : Hid (∀ V, Upd (blk (.slice (some ⟨g3, 0, none⟩) n c3)) w5 (wr.setCell ⟨g3, t, none⟩ V)) := fun V => hu6.out.setCell _ _ (.inl (by simp [blk]))
                  clear hcl hcl1 hfz hu6
                  go_wp2_with fail
                  go_roundw
                  case rel => exact ⟨t + 1, by omega, by go_num, HCL.out _, HU7.out _⟩
                  case measure => simp [intOf]; omega
                · obtain rfl : n = t := by omega
                  have HS6 := Lib.hid (HS5.out.upd hu6.out (fun x hx h => HAP3.out x h hx) HGE3.out)
                  have HVA6 := Lib.hid (HVA5.out.upd hu6.out HAPV.out)
                  clear hcl hu6 HS5 HVA5 HO5
                  go_wp2_with fail
                  go_roundw
                  case rel => exact ⟨j + 1, A + n, G3, [((1 : Int), ((A + n : Nat) : Int))], by omega, by omega, by go_num, by go_num, by go_num, by omega, .inr rfl, HS6, HVA6, HAPG⟩
                  case measure => simp [intOf]; omega
            · obtain ⟨hM, hMl⟩ := hM
              subst hM
              have HYR := Lib.hid HRQ.out.1
              have HQL := Lib.hid HRQ.out.2
              have m1 : (aa.length : Int) < (A : Int) + n := by omega
              obtain ⟨D, hD, hcut⟩ : ∃ D : Option Addr, D = (if co = A then ao else ao.map (·.add A)) ∧ ∀ W, (Instr.slice 27 (.slice ao aa.length co) (some (.int .i64 (A : Int))) (some (.int .i64 (aa.length : Int))) none).run Try.prog W = .ok (.slice D (aa.length - A) (co - A)) W :=
                ⟨_, rfl, fun W => by have h := run_cut_lh (P := Try.prog) (size := 1) Try.underlying27 (by kernel_rfl) ao aa.length co A aa.length (by omega) (by omega) W (A : Int) (aa.length : Int) rfl rfl; rw [Nat.mul_one] at h; exact h⟩
              have HPA : Hid (∀ W, Own bv w.heap.size 5 W (.slice ao aa.length co) aa → Bytes W (.slice D (aa.length - A) (co - A)) ((aa.drop A).take (aa.length - A))) := fun W hW => by rw [hD]; exact (hW.rd.drop A hA).take _ (by rw [List.length_drop]; omega)
              generalize (aa.drop A).take (aa.length - A) = q at *
              clear hD hMl HRQ
              go_wp2_with fail
              (with_reducible refine (yRead_any 1 (A : Int) (n : Int) (i64_s 1 (by omega) (by omega)) HIA.out HIN.out hs.out HTL.out HTB.out).mono ?_)
              rw [HYR.out]
              rintro e w3 ⟨v3, rfl, ho3, G3, h3, hu3, hf3, hap3⟩
              obtain ⟨a3, c3, rfl, h3c, h3m, -⟩ := ho3.rd
              have h3m' : c3 ≤ 9223372036854775807 := by unfold maxLen at h3m; omega
              have HO3 := Lib.hid (show Own bv wr.heap.size 5 w3 (.slice a3 q.length c3) q from ho3)
              have HS3 : Hid (YD w w3 gy G3 [(1, (sF, aa))] [((1 : Int), ((A + (aa.length - A) : Nat) : Int))]) := h3
              have HVA3 := Lib.hid (hva.out.upd hu3 hap.out)
              have HAP3 := Lib.hid hap3
              have hszr := hs.out.old.size
              have HGE3 : Hid (∀ x ∈ blk (.slice a3 q.length c3), w.heap.size ≤ x) := fun x hx => by have := (ho3.ge x hx).1; omega
              have HAPV : Hid (Ap (blk (.slice ao aa.length co)) (blk (.slice a3 q.length c3))) := fun x hx hx3 => by
                have h1 := (ho3.ge x hx3).1
                have h2 := (hva.out.ge x hx).2
                omega
              have HAPG : Hid (Ap (blk (.slice ao aa.length co)) G3) := fun x hx hG => by
                rcases hf3 _ hG with r | r
                · exact hap.out x hx r
                · have := (hva.out.ge x hx).2; omega
              rw [HQL.out] at HO3 HAP3 HGE3 HAPV h3c
              have HA3 : Hid ((aa.length - A) = 0 ∨ ∃ g3, a3 = some ⟨g3, 0, none⟩) := by
                by_cases hn0 : q = []
                · exact .inl (by have := HQL.out; rw [hn0] at this; simpa using this.symm)
                · obtain ⟨g3, cc, he, -⟩ := ho3.form0 hn0
                  injection he with e1 e2 e3
                  exact .inr ⟨g3, e1⟩
              clear h3 hu3 hf3 hap3 ho3 hs hva hap c0 HYR h3m
              rw [HQL.out]
              go_wp2_with fail
              (with_reducible refine (sameByte_ok _ _ q _ HO3.out.rd (HPA.out _ HVA3.out)).mono ?_)
              rintro e w5 ⟨rfl, n5, rfl⟩
              have hu5 := (Upd.refl [] w3).drewN n5
              have HS5 := Lib.hid (HS3.out.upd0 hu5)
              have HVA5 := Lib.hid (HVA3.out.upd hu5 (by simp))
              have HO5 := Lib.hid (HO3.out.upd hu5 (by simp))
              generalize w3.drewN n5 = w5 at *
              clear hu5 HS3 HVA3 HO3 HPA hcut
              go_wp2_with fail
              go_loopw [18] (fun i wr => ∃ t : Nat, t ≤ (aa.length - A) ∧ i = .int .i64 t ∧ Hid (∀ g, a3 = some ⟨g, 0, none⟩ → (∀ u, t ≤ u → u < (aa.length - A) → ∃ x : UInt8, wr.cell? ⟨g, u, none⟩ = some (bv x)) ∧ ∀ u, wr.frozen? ⟨g, u, none⟩ = false) ∧ Hid (Upd (blk (.slice a3 (aa.length - A) c3)) w5 wr)) (fun i _ => (aa.length - A) - (intOf i).toNat)
              case atStart =>
                refine ⟨0, Nat.zero_le _, rfl, fun g hg => ?_, Upd.refl _ _⟩
                subst hg
                exact ⟨fun u _ hu => ⟨_, HO5.out.cell u (by rw [HQL.out]; exact hu)⟩, fun u => HO5.out.frozen u⟩
              case round =>
                obtain ⟨t, ht, rfl, hcl, hu6⟩ := hrel
                by_cases htl : t < (aa.length - A)
                · obtain ⟨g3, rfl⟩ : ∃ g3, a3 = some ⟨g3, 0, none⟩ := HA3.out.resolve_left (by omega)
                  obtain ⟨hcl1, hfz⟩ := hcl.out g3 rfl
                  obtain ⟨x, hx⟩ := hcl1 t (Nat.le_refl _) htl
                  have f0 := hfz t
                  have p5 : (0 : Int) ≤ t := by omega
                  have p6 : (t : Int) < ((aa.length - A : Nat) : Int) := by omega
                  have HCL : Hid (∀ V, ∀ g, (some (⟨g3, 0, none⟩ : Addr)) = some ⟨g, 0, none⟩ → (∀ u, t + 1 ≤ u → u < (aa.length - A) → ∃ x : UInt8, (wr.setCell ⟨g3, t, none⟩ V).cell? ⟨g, u, none⟩ = some (bv x)) ∧ ∀ u, (wr.setCell ⟨g3, t, none⟩ V).frozen? ⟨g, u, none⟩ = false) := fun V g hg => by
                    injection hg with hg; injection hg with hg
                    subst hg
                    refine ⟨fun u h1 h2 => ?_, fun u => by rw [World.frozen?_setCell]; exact hfz u⟩
                    obtain ⟨y, hy⟩ := hcl1 u (by omega) h2
                    exact ⟨y, by rw [World.cell?_setCell_other _ _ _ _ (by intro h; injection h with h1 h2 h3; omega)]; exact hy⟩
                  have HU7 : Hid (∀ V, Upd (blk (.slice (some ⟨g3, 0, none⟩) (aa.length - A) c3)) w5 (wr.setCell ⟨g3, t, none⟩ V)) := fun V => hu6.out.setCell _ _ (.inl (by simp [blk]))
                  clear hcl hcl1 hfz hu6
                  go_wp2_with fail
                  go_roundw
                  case rel => exact ⟨t + 1, by omega, by go_num, HCL.out _, HU7.out _⟩
                  case measure => simp [intOf]; omega
                · obtain rfl : (aa.length - A) = t := by omega
                  have HS6 := Lib.hid (HS5.out.upd hu6.out (fun x hx h => HAP3.out x h hx) HGE3.out)
                  have HVA6 := Lib.hid (HVA5.out.upd hu6.out HAPV.out)
                  clear hcl hu6 HS5 HVA5 HO5
                  go_wp2_with fail
                  go_roundw
                  case rel => exact ⟨j + 1, A + (aa.length - A), G3, [((1 : Int), ((A + (aa.length - A) : Nat) : Int))], by omega, by omega, by go_num, by go_num, by go_num, by omega, .inr rfl, HS6, HVA6, HAPG⟩
                  case measure => simp [intOf]; omega
          · have HV1 := Lib.hid htk.get
            clear htk
            rcases hend2 with ⟨hje, h30⟩ | ⟨hje, hjl2⟩
            · have r1 : ¬ (j : Int) < reads.length := by omega
              clear h30
              go_wp2_with fail
              (with_reducible refine (yTakenD 1 (A : Int) (i64_s 1 (by omega) (by omega)) hs.out HTL.out HV1.out).mono ?_)
              rintro e w3 ⟨rfl, hu3⟩
              have HU3 := Lib.hid (hs.out.old.trans hu3 (fun _ hx => hx) (by simp))
              clear hu3 hs hva hap
              go_wp2_with fail
              (with_reducible refine (yardRuns_any _).mono ?_)
              rintro e w4 ⟨rfl, hu4⟩
              have HU4 := Lib.hid (HU3.out.trans hu4 (fun _ hx => hx) (by simp))
              clear hu4
              go_wp2_with fail
              go_ret
              exact ⟨rfl, HU4.out⟩
            · have r1 : (j : Int) < reads.length := by omega
              have r2 : ¬ (j : Int) < 30 := by omega
              go_wp2_with fail
              (with_reducible refine (yTakenD 1 (A : Int) (i64_s 1 (by omega) (by omega)) hs.out HTL.out HV1.out).mono ?_)
              rintro e w3 ⟨rfl, hu3⟩
              have HU3 := Lib.hid (hs.out.old.trans hu3 (fun _ hx => hx) (by simp))
              clear hu3 hs hva hap
              go_wp2_with fail
              (with_reducible refine (yardRuns_any _).mono ?_)
              rintro e w4 ⟨rfl, hu4⟩
              have HU4 := Lib.hid (HU3.out.trans hu4 (fun _ hx => hx) (by simp))
              clear hu4
              go_wp2_with fail
              go_ret
              exact ⟨rfl, HU4.out⟩
      · have q1 : (k : Int) < vs.length := by omega
        have q2 : ¬ (k : Int) < 15 := by omega
        obtain ⟨ao, co, rfl, hco, hcom, -⟩ := hva.out.rd
        have hcom' : co ≤ 9223372036854775807 := by unfold maxLen at hcom; omega
        have hal' : aa.length ≤ 4500 := by omega
        clear hcom
        go_wp2_with fail
        go_loopw [11, 12, 13] (fun vt vk i wr => ∃ (j A : Nat) (G : List Nat) (tk : List (Int × Int)), j ≤ 30 ∧ j ≤ reads.length ∧ vt = .int .i64 A ∧ vk = .int .i64 A ∧ i = .int .i64 j ∧ A ≤ aa.length ∧ TK tk A ∧ Hid (YD w wr gy G [(1, (sF, aa))] tk) ∧ Hid (Own bv w.heap.size 5 wr (.slice ao aa.length co) aa) ∧ Hid (Ap (blk (.slice ao aa.length co)) G)) (fun _ _ i _ => 30 - (intOf i).toNat)
        case atStart => exact ⟨0, 0, G, [], by omega, by omega, rfl, rfl, rfl, by omega, .inl ⟨rfl, rfl⟩, hs, hva, hap⟩
        case round =>
          clear hs hva hap
          obtain ⟨j, A, G, tk, hj, hjl, rfl, rfl, rfl, hA, htk, hs, hva, hap⟩ := hrel
          have HIA : Hid (I64 (A : Int)) := ⟨by omega, by omega⟩
          have HTL : Hid (tk.length ≤ 50000) := by have := htk.len; unfold Hid; omega
          have HTB := Lib.hid (htk.bd (by omega))
          have hend2 : (j < reads.length ∧ j < 30) ∨ (j = reads.length ∧ Hid (j ≤ 30)) ∨ (j = 30 ∧ j < reads.length) := by unfold Hid; omega
          rcases hend2 with ⟨hlt2, h30⟩ | hend2
          · obtain ⟨b2, off2, rfl, hc2⟩ := HC2.out (by intro h; simp [h] at hlt2)
            have c0 : wr.cell? ⟨b2, off2 + j, none⟩ = some (.int .i64 (nth reads j)) := hs.out.old.cell (hc2 j hlt2) (by simp)
            have HX : Hid (-9223372036854775808 ≤ nth reads j ∧ nth reads j ≤ 9223372036854775807) := HRI.out _ (by rw [nth_get _ _ hlt2]; exact List.getElem_mem _)
            generalize nth reads j = x at *
            obtain ⟨n1, n2⟩ := within_in x 0 200 (by omega)
            obtain ⟨n, hn⟩ := Int.eq_ofNat_of_zero_le n1
            rw [hn] at n2
            have HWN := Lib.hid hn
            have HIN : Hid (I64 (n : Int)) := ⟨by omega, by omega⟩
            have r1 : (j : Int) < reads.length := by omega
            have r2 : (j : Int) < 30 := by omega
            clear hc2 hn n1
            go_wp2_with fail
            (with_reducible refine (within_any _ _ _ _ HX.out (by omega) (by omega) (by omega)).mono ?_)
            rintro e w' ⟨rfl, rfl⟩
            rw [HWN.out]
            obtain ⟨M, hM⟩ : ∃ M, (M = n ∧ A + n ≤ aa.length) ∨ (M = aa.length - A ∧ aa.length < A + n) := by
              by_cases hq : A + n ≤ aa.length
              · exact ⟨n, .inl ⟨rfl, hq⟩⟩
              · exact ⟨aa.length - A, .inr ⟨rfl, by omega⟩⟩
            have HRQ := Lib.hid (htk.read n M sF hA hM)
            rcases hM with hM | hM
            · obtain ⟨hM, hMl⟩ := hM
              have hM := hM.symm
              subst hM
              have HYR := Lib.hid HRQ.out.1
              have HQL := Lib.hid HRQ.out.2
              have m1 : (A : Int) + n ≤ aa.length := by omega
              obtain ⟨D, hD, hcut⟩ : ∃ D : Option Addr, D = (if co = A then ao else ao.map (·.add A)) ∧ ∀ W, (Instr.slice 27 (.slice ao aa.length co) (some (.int .i64 (A : Int))) (some (.int .i64 ((A : Int) + n))) none).run Try.prog W = .ok (.slice D n (co - A)) W :=
                ⟨_, rfl, fun W => by have h := run_cut_lh (P := Try.prog) (size := 1) Try.underlying27 (by kernel_rfl) ao aa.length co A (A + n) (by omega) (by omega) W (A : Int) ((A : Int) + n) rfl (by omega); rw [show A + n - A = n by omega, Nat.mul_one] at h; exact h⟩
              have HPA : Hid (∀ W, Own bv w.heap.size 5 W (.slice ao aa.length co) aa → Bytes W (.slice D n (co - A)) ((aa.drop A).take n)) := fun W hW => by rw [hD]; exact (hW.rd.drop A hA).take _ (by rw [List.length_drop]; omega)
              generalize (aa.drop A).take n = q at *
              clear hD hMl HRQ
              go_wp2_with fail
              (with_reducible refine (yRead_any 1 (A : Int) (n : Int) (i64_s 1 (by omega) (by omega)) HIA.out HIN.out hs.out HTL.out HTB.out).mono ?_)
              rw [HYR.out]
              rintro e w3 ⟨v3, rfl, ho3, G3, h3, hu3, hf3, hap3⟩
              obtain ⟨a3, c3, rfl, h3c, h3m, -⟩ := ho3.rd
              have h3m' : c3 ≤ 9223372036854775807 := by unfold maxLen at h3m; omega
              have HO3 := Lib.hid (show Own bv wr.heap.size 5 w3 (.slice a3 q.length c3) q from ho3)
              have HS3 : Hid (YD w w3 gy G3 [(1, (sF, aa))] [((1 : Int), ((A + n : Nat) : Int))]) := h3
              have HVA3 := Lib.hid (hva.out.upd hu3 hap.out)
              have HAP3 := Lib.hid hap3
              have hszr := hs.out.old.size
              have HGE3 : Hid (∀ x ∈ blk (.slice a3 q.length c3), w.heap.size ≤ x) := fun x hx => by have := (ho3.ge x hx).1; omega
              have HAPV : Hid (Ap (blk (.slice ao aa.length co)) (blk (.slice a3 q.length c3))) := fun x hx hx3 => by
                have h1 := (ho3.ge x hx3).1
                have h2 := (hva.out.ge x hx).2
                omega
              have HAPG : Hid (Ap (blk (.slice ao aa.length co)) G3) := fun x hx hG => by
                rcases hf3 _ hG with r | r
                · exact hap.out x hx r
                · have := (hva.out.ge x hx).2; omega
              rw [HQL.out] at HO3 HAP3 HGE3 HAPV h3c
              have HA3 : Hid (n = 0 ∨ ∃ g3, a3 = some ⟨g3, 0, none⟩) := by
                by_cases hn0 : q = []
                · exact .inl (by have := HQL.out; rw [hn0] at this; simpa using this.symm)
                · obtain ⟨g3, cc, he, -⟩ := ho3.form0 hn0
                  injection he with e1 e2 e3
                  exact .inr ⟨g3, e1⟩
              clear h3 hu3 hf3 hap3 ho3 hs hva hap c0 HYR h3m
              rw [HQL.out]
              go_wp2_with fail
              (with_reducible refine (sameByte_ok _ _ q _ HO3.out.rd (HPA.out _ HVA3.out)).mono ?_)
              rintro e w5 ⟨rfl, n5, rfl⟩
              have hu5 := (Upd.refl [] w3).drewN n5
              have HS5 := Lib.hid (HS3.out.upd0 hu5)
              have HVA5 := Lib.hid (HVA3.out.upd hu5 (by simp))
              have HO5 := Lib.hid (HO3.out.upd hu5 (by simp))
              generalize w3.drewN n5 = w5 at *
              clear hu5 HS3 HVA3 HO3 HPA hcut
              go_wp2_with fail
              go_loopw [18] (fun i wr => ∃ t : Nat, t ≤ n ∧ i = .int .i64 t ∧ Hid (∀ g, a3 = some ⟨g, 0, none⟩ → (∀ u, t ≤ u → u < n → ∃ x : UInt8, wr.cell? ⟨g, u, none⟩ = some (bv x)) ∧ ∀ u, wr.frozen? ⟨g, u, none⟩ = false) ∧ Hid (Upd (blk (.slice a3 n c3)) w5 wr)) (fun i _ => n - (intOf i).toNat)
              case atStart =>
                refine ⟨0, Nat.zero_le _, rfl, fun g hg => ?_, Upd.refl _ _⟩
                subst hg
                exact ⟨fun u _ hu => ⟨_, HO5.out.cell u (by rw [HQL.out]; exact hu)⟩, fun u => HO5.out.frozen u⟩
              case round =>
                obtain ⟨t, ht, rfl, hcl, hu6⟩ := hrel
                by_cases htl : t < n
                · obtain ⟨g3, rfl⟩ : ∃ g3, a3 = some ⟨g3, 0, none⟩ := HA3.out.resolve_left (by omega)
                  obtain ⟨hcl1, hfz⟩ := hcl.out g3 rfl
                  obtain ⟨x, hx⟩ := hcl1 t (Nat.le_refl _) htl
                  have f0 := hfz t
                  have p5 : (0 : Int) ≤ t := by omega
                  have p6 : (t : Int) < n := by omega
                  have HCL : Hid (∀ V, ∀ g, (some (⟨g3, 0, none⟩ : Addr)) = some ⟨g, 0, none⟩ → (∀ u, t + 1 ≤ u → u < n → ∃ x : UInt8, (wr.setCell ⟨g3, t, none⟩ V).cell? ⟨g, u, none⟩ = some (bv x)) ∧ ∀ u, (wr.setCell ⟨g3, t, none⟩ V).frozen? ⟨g, u, none⟩ = false) := fun V g hg => by
                    injection hg with hg; injection hg with hg
                    subst hg
                    refine ⟨fun u h1 h2 => ?_, fun u => by rw [World.frozen?_setCell]; exact hfz u⟩
                    obtain ⟨y, hy⟩ := hcl1 u (by omega) h2
                    exact ⟨y, by rw [World.cell?_setCell_other _ _ _ _ (by intro h; injection h with h1 h2 h3; omega)]; exact hy⟩
                  have HU7 : Hid (∀ V, Upd (blk (.slice (some ⟨g3, 0, none⟩) n c3)) w5 (wr.setCell ⟨g3, t, none⟩ V)) := fun V => hu6.out.setCell _ _ (.inl (by simp [blk]))
                  clear hcl hcl1 hfz hu6
                  go_wp2_with fail
                  go_roundw
                  case rel => exact ⟨t + 1, by omega, by go_num, HCL.out _, HU7.out _⟩
                  case measure => simp [intOf]; omega
                · obtain rfl : n = t := by omega
                  have HS6 := Lib.hid (HS5.out.upd hu6.out (fun x hx h => HAP3.out x h hx) HGE3.out)
                  have HVA6 := Lib.hid (HVA5.out.upd hu6.out HAPV.out)
                  clear hcl hu6 HS5 HVA5 HO5
                  go_wp2_with fail
                  go_roundw
                  case rel => exact ⟨j + 1, A + n, G3, [((1 : Int), ((A + n : Nat) : Int))], by omega, by omega, by go_num, by go_num, by go_num, by omega, .inr rfl, HS6, HVA6, HAPG⟩
                  case measure => simp [intOf]; omega
            · obtain ⟨hM, hMl⟩ := hM
              subst hM
              have HYR := Lib.hid HRQ.out.1
              have HQL := Lib.hid HRQ.out.2
              have m1 : (aa.length : Int) < (A : Int) + n := by omega
              obtain ⟨D, hD, hcut⟩ : ∃ D : Option Addr, D = (if co = A then ao else ao.map (·.add A)) ∧ ∀ W, (Instr.slice 27 (.slice ao aa.length co) (some (.int .i64 (A : Int))) (some (.int .i64 (aa.length : Int))) none).run Try.prog W = .ok (.slice D (aa.length - A) (co - A)) W :=
                ⟨_, rfl, fun W => by have h := run_cut_lh (P := Try.prog) (size := 1) Try.underlying27 (by kernel_rfl) ao aa.length co A aa.length (by omega) (by omega) W (A : Int) (aa.length : Int) rfl rfl; rw [Nat.mul_one] at h; exact h⟩
              have HPA : Hid (∀ W, Own bv w.heap.size 5 W (.slice ao aa.length co) aa → Bytes W (.slice D (aa.length - A) (co - A)) ((aa.drop A).take (aa.length - A))) := fun W hW => by rw [hD]; exact (hW.rd.drop A hA).take _ (by rw [List.length_drop]; omega)
              generalize (aa.drop A).take (aa.length - A) = q at *
              clear hD hMl HRQ
              go_wp2_with fail
              (with_reducible refine (yRead_any 1 (A : Int) (n : Int) (i64_s 1 (by omega) (by omega)) HIA.out HIN.out hs.out HTL.out HTB.out).mono ?_)
              rw [HYR.out]
              rintro e w3 ⟨v3, rfl, ho3, G3, h3, hu3, hf3, hap3⟩
              obtain ⟨a3, c3, rfl, h3c, h3m, -⟩ := ho3.rd
              have h3m' : c3 ≤ 9223372036854775807 := by unfold maxLen at h3m; omega
              have HO3 := Lib.hid (show Own bv wr.heap.size 5 w3 (.slice a3 q.length c3) q from ho3)
              have HS3 : Hid (YD w w3 gy G3 [(1, (sF, aa))] [((1 : Int), ((A + (aa.length - A) : Nat) : Int))]) := h3
              have HVA3 := Lib.hid (hva.out.upd hu3 hap.out)
              have HAP3 := Lib.hid hap3
              have hszr := hs.out.old.size
              have HGE3 : Hid (∀ x ∈ blk (.slice a3 q.length c3), w.heap.size ≤ x) := fun x hx => by have := (ho3.ge x hx).1; omega
              have HAPV : Hid (Ap (blk (.slice ao aa.length co)) (blk (.slice a3 q.length c3))) := fun x hx hx3 => by
                have h1 := (ho3.ge x hx3).1
                have h2 := (hva.out.ge x hx).2
                omega
              have HAPG : Hid (Ap (blk (.slice ao aa.length co)) G3) := fun x hx hG => by
                rcases hf3 _ hG with r | r
                · exact hap.out x hx r
                · have := (hva.out.ge x hx).2; omega
              rw [HQL.out] at HO3 HAP3 HGE3 HAPV h3c
              have HA3 : Hid ((aa.length - A) = 0 ∨ ∃ g3, a3 = some ⟨g3, 0, none⟩) := by
                by_cases hn0 : q = []
                · exact .inl (by have := HQL.out; rw [hn0] at this; simpa using this.symm)
                · obtain ⟨g3, cc, he, -⟩ := ho3.form0 hn0
                  injection he with e1 e2 e3
                  exact .inr ⟨g3, e1⟩
              clear h3 hu3 hf3 hap3 ho3 hs hva hap c0 HYR h3m
              rw [HQL.out]
              go_wp2_with fail
              (with_reducible refine (sameByte_ok _ _ q _ HO3.out.rd (HPA.out _ HVA3.out)).mono ?_)
              rintro e w5 ⟨rfl, n5, rfl⟩
              have hu5 := (Upd.refl [] w3).drewN n5
              have HS5 := Lib.hid (HS3.out.upd0 hu5)
              have HVA5 := Lib.hid (HVA3.out.upd hu5 (by simp))
              have HO5 := Lib.hid (HO3.out.upd hu5 (by simp))
              generalize w3.drewN n5 = w5 at *
              clear hu5 HS3 HVA3 HO3 HPA hcut
              go_wp2_with fail
              go_loopw [18] (fun i wr => ∃ t : Nat, t ≤ (aa.length - A) ∧ i = .int .i64 t ∧ Hid (∀ g, a3 = some ⟨g, 0, none⟩ → (∀ u, t ≤ u → u < (aa.length - A) → ∃ x : UInt8, wr.cell? ⟨g, u, none⟩ = some (bv x)) ∧ ∀ u, wr.frozen? ⟨g, u, none⟩ = false) ∧ Hid (Upd (blk (.slice a3 (aa.length - A) c3)) w5 wr)) (fun i _ => (aa.length - A) - (intOf i).toNat)
              case atStart =>
                refine ⟨0, Nat.zero_le _, rfl, fun g hg => ?_, Upd.refl _ _⟩
                subst hg
                exact ⟨fun u _ hu => ⟨_, HO5.out.cell u (by rw [HQL.out]; exact hu)⟩, fun u => HO5.out.frozen u⟩
              case round =>
                obtain ⟨t, ht, rfl, hcl, hu6⟩ := hrel
                by_cases htl : t < (aa.length - A)
                · obtain ⟨g3, rfl⟩ : ∃ g3, a3 = some ⟨g3, 0, none⟩ := HA3.out.resolve_left (by omega)
                  obtain ⟨hcl1, hfz⟩ := hcl.out g3 rfl
                  obtain ⟨x, hx⟩ := hcl1 t (Nat.le_refl _) htl
                  have f0 := hfz t
                  have p5 : (0 : Int) ≤ t := by omega
                  have p6 : (t : Int) < ((aa.length - A : Nat) : Int) := by omega
                  have HCL : Hid (∀ V, ∀ g, (some (⟨g3, 0, none⟩ : Addr)) = some ⟨g, 0, none⟩ → (∀ u, t + 1 ≤ u → u < (aa.length - A) → ∃ x : UInt8, (wr.setCell ⟨g3, t, none⟩ V).cell? ⟨g, u, none⟩ = some (bv x)) ∧ ∀ u, (wr.setCell ⟨g3, t, none⟩ V).frozen? ⟨g, u, none⟩ = false) := fun V g hg => by
                    injection hg with hg; injection hg with hg
                    subst hg
                    refine ⟨fun u h1 h2 => ?_, fun u => by rw [World.frozen?_setCell]; exact hfz u⟩
                    obtain ⟨y, hy⟩ := hcl1 u (by omega) h2
                    exact ⟨y, by rw [World.cell?_setCell_other _ _ _ _ (by intro h; injection h with h1 h2 h3; omega)]; exact hy⟩
                  have HU7 : Hid (∀ V, Upd (blk (.slice (some ⟨g3, 0, none⟩) (aa.length - A) c3)) w5 (wr.setCell ⟨g3, t, none⟩ V)) := fun V => hu6.out.setCell _ _ (.inl (by simp [blk]))
                  clear hcl hcl1 hfz hu6
                  go_wp2_with fail
                  go_roundw
                  case rel => exact ⟨t + 1, by omega, by go_num, HCL.out _, HU7.out _⟩
                  case measure => simp [intOf]; omega
                · obtain rfl : (aa.length - A) = t := by omega
                  have HS6 := Lib.hid (HS5.out.upd hu6.out (fun x hx h => HAP3.out x h hx) HGE3.out)
                  have HVA6 := Lib.hid (HVA5.out.upd hu6.out HAPV.out)
                  clear hcl hu6 HS5 HVA5 HO5
                  go_wp2_with fail
                  go_roundw
                  case rel => exact ⟨j + 1, A + (aa.length - A), G3, [((1 : Int), ((A + (aa.length - A) : Nat) : Int))], by omega, by omega, by go_num, by go_num, by go_num, by omega, .inr rfl, HS6, HVA6, HAPG⟩
                  case measure => simp [intOf]; omega
          · have HV1 := Lib.hid htk.get
            clear htk
            rcases hend2 with ⟨hje, h30⟩ | ⟨hje, hjl2⟩
            · have r1 : ¬ (j : Int) < reads.length := by omega
              clear h30
              go_wp2_with fail
              (with_reducible refine (yTakenD 1 (A : Int) (i64_s 1 (by omega) (by omega)) hs.out HTL.out HV1.out).mono ?_)
              rintro e w3 ⟨rfl, hu3⟩
              have HU3 := Lib.hid (hs.out.old.trans hu3 (fun _ hx => hx) (by simp))
              clear hu3 hs hva hap
              go_wp2_with fail
              (with_reducible refine (yardRuns_any _).mono ?_)
              rintro e w4 ⟨rfl, hu4⟩
              have HU4 := Lib.hid (HU3.out.trans hu4 (fun _ hx => hx) (by simp))
              clear hu4
              go_wp2_with fail
              go_ret
              exact ⟨rfl, HU4.out⟩
            · have r1 : (j : Int) < reads.length := by omega
              have r2 : ¬ (j : Int) < 30 := by omega
              go_wp2_with fail
              (with_reducible refine (yTakenD 1 (A : Int) (i64_s 1 (by omega) (by omega)) hs.out HTL.out HV1.out).mono ?_)
              rintro e w3 ⟨rfl, hu3⟩
              have HU3 := Lib.hid (hs.out.old.trans hu3 (fun _ hx => hx) (by simp))
              clear hu3 hs hva hap
              go_wp2_with fail
              (with_reducible refine (yardRuns_any _).mono ?_)
              rintro e w4 ⟨rfl, hu4⟩
              have HU4 := Lib.hid (HU3.out.trans hu4 (fun _ hx => hx) (by simp))
              clear hu4
              go_wp2_with fail
              go_ret
              exact ⟨rfl, HU4.out⟩
end Go.Proofs.Ytmhdhnipljonlaa
namespace Go.Proofs.Ytmhdhnipljonlaa
open Go.RowKit
set_option linter.unusedSimpArgs false
set_option linter.unusedVariables false
def First (a : ByteArray) (d : List UInt8) (fl : FL) : Prop := ∃ rest, fl = (1, (a, d)) :: rest
section
variable {ν : Type} [Inhabited ν]
omit [Inhabited ν] in
theorem below_cons (p : Int × ν) (l : List (Int × ν)) (k : Int) (h : p.1 < k) : below ltY (p :: l) k = below ltY l k + 1 := by
  unfold below; rw [List.takeWhile_cons]; simp [h]
theorem isIn_cons (p : Int × ν) (l : List (Int × ν)) (k : Int) (h : p.1 < k) : isIn ltY (p :: l) k = isIn ltY l k := by
  unfold isIn; rw [below_cons p l k h, nth_cons_succ]; simp
theorem set_cons (p : Int × ν) (l : List (Int × ν)) (k : Int) (v : ν) (h : p.1 < k) : tSet ltY (p :: l) k v = p :: tSet ltY l k v := by
  unfold tSet; rw [isIn_cons p l k h, below_cons p l k h, List.take_succ_cons, Nat.add_right_comm, List.drop_succ_cons]; rfl
theorem del_cons (p : Int × ν) (l : List (Int × ν)) (k : Int) (h : p.1 < k) : tDel ltY (p :: l) k = p :: tDel ltY l k := by
  unfold tDel; rw [isIn_cons p l k h, below_cons p l k h, List.take_succ_cons, List.drop_succ_cons]
  cases isIn ltY l k <;> rfl
omit [Inhabited ν] in
theorem below_hd (v : ν) (l : List (Int × ν)) : below ltY (((1 : Int), v) :: l) 1 = 0 := by unfold below; rw [List.takeWhile_cons]; simp
theorem isIn_hd (v : ν) (l : List (Int × ν)) : isIn ltY (((1 : Int), v) :: l) 1 = true := by unfold isIn; rw [below_hd]; simp [nth_cons_zero]
theorem set_hd (v u : ν) (l : List (Int × ν)) : tSet ltY (((1 : Int), v) :: l) 1 u = (1, u) :: l := by unfold tSet; rw [isIn_hd, below_hd]; rfl
end
section
variable {a s t : ByteArray} {d p : List UInt8} {fl : FL}
theorem first_find (rest : FL) : findN ((1, (a, d)) :: rest) a = 0 := by unfold findN; rw [List.takeWhile_cons]; simp
theorem first_has (rest : FL) : hasN ((1, (a, d)) :: rest) a = true := by unfold hasN; rw [first_find]; simp
theorem first_ino (rest : FL) : inoN ((1, (a, d)) :: rest) a = 1 := by unfold inoN; rw [first_find]; rfl
theorem first_bytes (rest : FL) : bytesN ((1, (a, d)) :: rest) a = d := by unfold bytesN; rw [first_find]; rfl
theorem First.ino_gt (h : First a d fl) (hr : Rising ltY fl) (hs : hasN fl s = true) (hne : s ≠ a) : 1 < inoN fl s := by
  obtain ⟨rest, rfl⟩ := h
  have e : findN ((1, (a, d)) :: rest) s = findN rest s + 1 := by
    unfold findN; rw [List.takeWhile_cons]; simp [Ne.symm hne]
  have hl : findN ((1, (a, d)) :: rest) s < ((1, (a, d)) :: rest).length := by unfold hasN at hs; exact of_decide_eq_true hs
  have h1 := hr 0 (findN ((1, (a, d)) :: rest) s) (by omega) hl
  rw [nth_cons_zero] at h1
  unfold inoN
  exact of_decide_eq_true h1
theorem First.ino_ge (h : First a d fl) (hr : Rising ltY fl) (hs : hasN fl s = true) : inoN fl s = 1 ∨ 1 < inoN fl s := by
  by_cases hne : s = a
  · subst hne
    obtain ⟨rest, rfl⟩ := h
    exact .inl (first_ino rest)
  · exact .inr (h.ino_gt hr hs hne)
theorem First.set (h : First a d fl) (k : Int) (v : ByteArray × List UInt8) (hk : 1 < k) : First a d (tSet ltY fl k v) := by
  obtain ⟨rest, rfl⟩ := h
  exact ⟨_, set_cons _ _ _ _ hk⟩
theorem First.del (h : First a d fl) (k : Int) (hk : 1 < k) : First a d (tDel ltY fl k) := by
  obtain ⟨rest, rfl⟩ := h
  exact ⟨_, del_cons _ _ _ hk⟩
theorem First.create (h : First a d fl) (hr : Rising ltY fl) (s : ByteArray) : First a d (yCreate fl s).2 := by
  unfold yCreate
  split
  · split
    · exact h
    · split
      · exact h
      · refine h.set _ _ ?_
        obtain ⟨k, hk, he, hn, -⟩ := freeIno_spec hr
        rw [he]
        rcases Nat.eq_zero_or_pos k with rfl | hp
        · obtain ⟨rest, rfl⟩ := h
          have := isIn_hd (a, d) rest
          rw [show (((0 : Nat) : Int) + 1) = 1 from rfl, this] at hn
          exact absurd hn (by simp)
        · omega
  · exact h
theorem First.append (h : First a d fl) (hr : Rising ltY fl) (s : ByteArray) (p : List UInt8) (hne : s ≠ a) : First a d (yAppend fl s p).2 := by
  unfold yAppend
  split
  · rename_i hs
    split
    · exact h
    · exact h.set _ _ (h.ino_gt hr hs hne)
  · exact h
theorem First.remove (h : First a d fl) (hr : Rising ltY fl) (s : ByteArray) (hne : s ≠ a) : First a d (yRemove fl s).2 := by
  unfold yRemove
  split
  · rename_i hs
    exact h.del _ (h.ino_gt hr hs hne)
  · exact h
theorem First.rename (h : First a d fl) (hr : Rising ltY fl) (t : ByteArray) : ((yRename fl a t).1 = 0 ∧ First t d (yRename fl a t).2) ∨ ((yRename fl a t).1 = 14 ∧ First a d (yRename fl a t).2) := by
  unfold yRename
  split
  · left
    have h1 : hasN fl a = true ∧ inoN fl a = 1 ∧ bytesN fl a = d := by
      obtain ⟨rest, rfl⟩ := h
      exact ⟨first_has rest, first_ino rest, first_bytes rest⟩
    obtain ⟨e1, e2, e3⟩ := h1
    rw [e1, e2, e3, if_pos rfl]
    refine ⟨rfl, ?_⟩
    have h2 : First a d (if hasN fl t && decide (inoN fl t ≠ 1) then tDel ltY fl (inoN fl t) else fl) := by
      split
      · rename_i hq
        simp only [Bool.and_eq_true, decide_eq_true_eq] at hq
        rcases h.ino_ge hr hq.1 with q | q
        · exact absurd q hq.2
        · exact h.del _ q
      · exact h
    obtain ⟨rest, he⟩ := h2
    show First t d (tSet ltY (if hasN fl t && decide (inoN fl t ≠ 1) then tDel ltY fl (inoN fl t) else fl) 1 (t, d))
    rw [he]
    exact ⟨rest, set_hd _ _ _⟩
  · exact .inr ⟨rfl, h⟩
theorem First.tell (h : First a d fl) : yFindF fl a = ((1, a, (d.length : Int)), true) := by
  obtain ⟨rest, rfl⟩ := h
  unfold yFindF; rw [first_has, first_find]; rfl
theorem First.read (h : First a d fl) {tk : List (Int × Int)} {A : Nat} (ht : TK tk A) (hd : d.length ≤ 65536) : yRead fl tk 1 0 65536 = ((d, 0), [((1 : Int), ((A + d.length : Nat) : Int))]) := by
  obtain ⟨rest, rfl⟩ := h
  have e : (((nth (((1 : Int), (a, d)) :: rest) 0).2.2.drop (0 : Int).toNat).take (65536 : Int).toNat) = d := by
    rw [nth_cons_zero]
    exact List.take_of_length_le (by simp; omega)
  unfold yRead
  rw [isIn_hd, below_hd, if_pos rfl, if_neg (by omega), e, ht.set, ht.get]
  rfl
end
end Go.Proofs.Ytmhdhnipljonlaa
namespace Go.Proofs.Ytmhdhnipljonlaa
open Go.RowKit
set_option linter.unusedSimpArgs false
set_option linter.unusedVariables false
def UN (fl : FL) : Prop := ∀ p ∈ fl, ∀ q ∈ fl, p.2.1 = q.2.1 → p.1 = q.1
section
variable {fl : FL} {s t : ByteArray}
theorem UN.nil : UN [] := fun p hp => by simp at hp
theorem no_name (h : hasN fl s = false) : ∀ p ∈ fl, p.2.1 ≠ s := by
  intro p hp
  obtain ⟨i, hi, rfl⟩ := List.mem_iff_getElem.1 hp
  have h1 : ¬ findN fl s < fl.length := by unfold hasN at h; exact of_decide_eq_false h
  have := findN_lt fl s i (by omega)
  rwa [nth_get _ i hi] at this
theorem has_at (h : hasN fl s = true) : nth fl (findN fl s) ∈ fl ∧ (nth fl (findN fl s)).2.1 = s := by
  have h1 : findN fl s < fl.length := by unfold hasN at h; exact of_decide_eq_true h
  exact ⟨by rw [nth_get _ _ h1]; exact List.getElem_mem _, findN_at fl s h1⟩
theorem UN.ino (hu : UN fl) (h : hasN fl s = true) (q : Int × (ByteArray × List UInt8)) (hq : q ∈ fl) (hn : q.2.1 = s) : q.1 = inoN fl s := by
  obtain ⟨h1, h2⟩ := has_at h
  exact hu q hq _ h1 (by rw [hn, h2])
theorem UN.sub {fl' : FL} (hu : UN fl) (h : ∀ p ∈ fl', p ∈ fl) : UN fl' := fun p hp q hq he => hu p (h p hp) q (h q hq) he
theorem UN.set (hu : UN fl) (hr : Rising ltY fl) (k : Int) (v : ByteArray × List UInt8) (h : ∀ q ∈ fl, q.1 ≠ k → q.2.1 ≠ v.1) : UN (tSet ltY fl k v) := by
  intro p hp q hq he
  rcases tSet_memk hr k v p hp with rfl | ⟨hp1, hp2⟩
  · rcases tSet_memk hr k v q hq with rfl | ⟨hq1, hq2⟩
    · rfl
    · exact absurd he.symm (h q hq1 hq2)
  · rcases tSet_memk hr k v q hq with rfl | ⟨hq1, hq2⟩
    · exact absurd he (h p hp1 hp2)
    · exact hu p hp1 q hq1 he
theorem tDel_sub {ν : Type} [Inhabited ν] (l : List (Int × ν)) (k : Int) : ∀ p ∈ tDel ltY l k, p ∈ l := by
  intro p hp
  unfold tDel at hp
  split at hp
  · rcases List.mem_append.1 hp with h | h
    · exact List.mem_of_mem_take h
    · exact List.mem_of_mem_drop h
  · exact hp
theorem UN.create (hu : UN fl) (hr : Rising ltY fl) (s : ByteArray) : UN (yCreate fl s).2 := by
  unfold yCreate
  split
  · split
    · exact hu
    · rename_i hs
      split
      · exact hu
      · exact hu.set hr _ _ (fun q hq _ => no_name (by simpa using hs) q hq)
  · exact hu
theorem UN.append (hu : UN fl) (hr : Rising ltY fl) (s : ByteArray) (p : List UInt8) : UN (yAppend fl s p).2 := by
  unfold yAppend
  split
  · rename_i hs
    split
    · exact hu
    · exact hu.set hr _ _ (fun q hq hne hn => hne (hu.ino hs q hq hn))
  · exact hu
theorem UN.remove (hu : UN fl) (s : ByteArray) : UN (yRemove fl s).2 := by
  unfold yRemove
  split
  · exact hu.sub (tDel_sub _ _)
  · exact hu
theorem UN.rename (hu : UN fl) (hr : Rising ltY fl) (s t : ByteArray) : UN (yRename fl s t).2 := by
  unfold yRename
  split
  · split
    · rename_i hs
      split
      · rename_i hq
        simp only [Bool.and_eq_true, decide_eq_true_eq] at hq
        refine (hu.sub (tDel_sub _ _)).set (hr.del intOrd _) _ _ (fun q hqm hne hn => ?_)
        obtain ⟨h1, h2⟩ := tDel_memk hr _ q hqm
        have h3 := hu.ino hq.1 q h1 hn
        exact h2 (by rw [← h3]; exact isIn_mem hr _ h1) h3
      · rename_i hq
        refine hu.set hr _ _ (fun q hqm hne hn => ?_)
        cases ht : hasN fl t with
        | false => exact no_name ht q hqm hn
        | true =>
          have h3 := hu.ino ht q hqm hn
          rw [ht] at hq
          simp only [Bool.true_and, decide_eq_true_eq, Decidable.not_not] at hq
          exact hne (h3.trans hq)
    · exact hu
  · exact hu
/-- The free ino, as the loop counts it. -/
structure FreeTo (fl : FL) (i m : Nat) : Prop where
  le : m ≤ i
  all : ∀ j : Nat, j < m → isIn ltY fl ((j : Int) + 1) = true
  no : ∀ j, j < i → (nth fl j).1 ≠ (m : Int) + 1
theorem FreeTo.zero : FreeTo fl 0 0 := ⟨Nat.le_refl _, fun j h => absurd h (by omega), fun j h => absurd h (by omega)⟩
theorem FreeTo.yes {i m : Nat} (h : FreeTo fl i m) (hr : Rising ltY fl) (hi : i < fl.length) (he : (nth fl i).1 = (m : Int) + 1) : FreeTo fl (i + 1) (m + 1) := by
  refine ⟨by have := h.le; omega, fun j hj => ?_, fun j hj => ?_⟩
  · rcases Nat.lt_or_ge j m with q | q
    · exact h.all j q
    · obtain rfl : j = m := by omega
      rw [← he]; exact isIn_at intOrd hr i hi
  · rcases Nat.lt_or_ge j i with q | q
    · have := of_decide_eq_true (hr j i q hi)
      rw [he] at this
      intro hc; rw [hc] at this; omega
    · obtain rfl : j = i := by omega
      rw [he]; omega
theorem FreeTo.no' {i m : Nat} (h : FreeTo fl i m) (he : (nth fl i).1 ≠ (m : Int) + 1) : FreeTo fl (i + 1) m := by
  refine ⟨by have := h.le; omega, h.all, fun j hj => ?_⟩
  rcases Nat.lt_or_ge j i with q | q
  · exact h.no j q
  · obtain rfl : j = i := by omega
    exact he
theorem FreeTo.done {m : Nat} (h : FreeTo fl fl.length m) (hr : Rising ltY fl) : freeIno fl = (m : Int) + 1 := by
  refine freeIno_eq hr m h.all ?_
  cases hh : isIn ltY fl ((m : Int) + 1) with
  | false => rfl
  | true =>
    unfold isIn at hh
    obtain ⟨h1, h2⟩ := of_decide_eq_true hh
    exact absurd h2 (h.no _ h1)
/-- What Find answers at the file with an entry of that name. -/
theorem UN.tell (hu : UN fl) (hr : Rising ltY fl) (p : Int × (ByteArray × List UInt8)) (hp : p ∈ fl) : yFindF fl p.2.1 = (tellF p, true) := by
  have hs : hasN fl p.2.1 = true := by
    cases h : hasN fl p.2.1 with
    | true => rfl
    | false => exact absurd rfl (no_name h p hp)
  obtain ⟨h1, h2⟩ := has_at hs
  have hk := hu _ h1 p hp h2
  have he : nth fl (findN fl p.2.1) = p := by
    obtain ⟨i, hi, hpi⟩ := List.mem_iff_getElem.1 hp
    have hlt : findN fl p.2.1 < fl.length := by unfold hasN at hs; exact of_decide_eq_true hs
    have hpn : nth fl i = p := by rw [nth_get _ _ hi, hpi]
    rcases Nat.lt_trichotomy (findN fl p.2.1) i with q | q | q
    · have := of_decide_eq_true (hr _ _ q hi)
      rw [hpn, hk] at this; omega
    · rw [q]; exact hpn
    · have := of_decide_eq_true (hr _ _ q hlt)
      rw [hpn, hk] at this; omega
  unfold yFindF
  rw [hs, if_pos rfl, he]
theorem find_no (h : hasN fl s = false) : (yFindF fl s).2 = false := by unfold yFindF; rw [h]; rfl
theorem find_yes (h : hasN fl s = true) : (yFindF fl s).2 = true := by unfold yFindF; rw [h]; rfl
theorem set_len {ν : Type} [Inhabited ν] (l : List (Int × ν)) (k : Int) (v : ν) (h : isIn ltY l k = false) : (tSet ltY l k v).length = l.length + 1 := by
  unfold tSet
  rw [h]
  have := below_le (lt := ltY) l k
  simp; omega
theorem set_in {ν : Type} [Inhabited ν] (l : List (Int × ν)) (k : Int) (v : ν) : (k, v) ∈ tSet ltY l k v := by unfold tSet; simp
/-- Create, as the law of the inos asks. -/
theorem create_law (hu : UN fl) (hr : Rising ltY fl) (h12 : fl.length ≤ 12) (s : ByteArray) :
    ((yCreate fl s).1 = 0 ∧ hasN fl s = false ∧ yFindF (yCreate fl s).2 s = ((freeIno fl, s, 0), true) ∧ (yCreate fl s).2.length = fl.length + 1)
    ∨ ((yCreate fl s).1 ≠ 0 ∧ (yCreate fl s).2 = fl ∧ ((yCreate fl s).1 = 9 → fl.length = 12)) := by
  have hc := hu.create hr s
  unfold yCreate at hc ⊢
  split
  · rename_i hok
    rw [if_pos hok] at hc
    split
    · right; exact ⟨show (8 : Int) ≠ 0 by decide, rfl, fun h => absurd h (show ¬ (8 : Int) = 9 by decide)⟩
    · rename_i hs
      rw [if_neg hs] at hc
      split
      · right; exact ⟨show (9 : Int) ≠ 0 by decide, rfl, fun _ => by omega⟩
      · rename_i hl
        rw [if_neg hl] at hc
        left
        obtain ⟨k, hk, he, hn, ha⟩ := freeIno_spec hr
        refine ⟨rfl, by simpa using hs, ?_, set_len _ _ _ (by rw [he]; exact hn)⟩
        have h1 := UN.tell hc (hr.set_ intOrd _ _) _ (set_in fl (freeIno fl) (s, []))
        exact h1
  · right; exact ⟨show (14 : Int) ≠ 0 by decide, rfl, fun h => absurd h (show ¬ (14 : Int) = 9 by decide)⟩
end
end Go.Proofs.Ytmhdhnipljonlaa
namespace Go.Proofs.Ytmhdhnipljonlaa
open Go.ChangeShapes Go.WideShapes Go.ChangeAt Go.RowKit Go.Deep
set_option linter.unusedSimpArgs false
set_option linter.unusedVariables false
section
variable {H : Type} {enc : TypeId × Value → H} {P : Program} {w : World} {b0 : Nat} {held : Bool}
theorem el_fields {e : TypeId} {fs : Array Field} {n : Nat} {cs : List Value} {y : DataW H × List MemPlace} (he : P.underlying e = some (.struct fs)) (hone : oneCellFields P fs = true) (hC : cs.length = fs.size)
    (h : DataW.trod enc P w 0 (fun _ => true) held n e cs = some y) (j : Nat) (f : Field) (hj : fs[j]? = some f) : ∃ (n' : Nat) (v : Value) (z : DataW H × List MemPlace), cs[j]? = some v ∧ DataW.trod enc P w 0 (fun _ => true) held n' f.type [v] = some z := by
  obtain ⟨ys, n', hn', hy, hlen, hyl, hf⟩ := DataW.trod_struct he h
  obtain ⟨ho, hk⟩ := hone_of hone j f hj
  have hjl : j < fs.size := (Array.getElem?_eq_some_iff.1 hj).1
  have h1 := hf j f hj
  rw [ho, hk] at h1
  have hone' : (cs.drop j).take 1 = [cs[j]'(by omega)] := by
    rw [List.drop_eq_getElem_cons (by omega)]; rfl
  rw [hone'] at h1
  have hys : ys[j]? = some (ys[j]'(by omega)) := List.getElem?_eq_getElem (by omega)
  exact ⟨n', _, _, List.getElem?_eq_getElem (by omega), h1.trans hys⟩
theorem open_rdN {α : Type} [Inhabited α] (sz : Nat) (c : α → List Value) (good : α → Prop) {t e : TypeId} {v : Value} {d : DataW H} {p : List MemPlace} (ht : P.underlying t = some (.slice e)) (hc : P.cellsOf e = sz) (hpos : 0 < sz)
    (hel : ∀ n cs y, cs.length = sz → DataW.trod enc P w 0 (fun _ => true) held n e cs = some y → ∃ x, cs = c x ∧ good x)
    (hval : Value.okWide P w .any b0 t v) (h : DataW.Trod enc P w 0 (fun _ => true) held t v d p) :
    ∃ l : List α, RdN sz c w v l ∧ (∀ x ∈ l, good x) ∧ (∀ (ts : List TypeId) (ds : List (DataW H)) (j : Nat), (DataW.weightsEach P ts ds).all (· ≤ reachBytes) = true → ts[j]? = some t → ds[j]? = some d → l.length * P.bytesOf e ≤ reachBytes) ∧ DLen d l.length := by
  obtain ⟨a0, len0, cap0, rfl⟩ := okWide_slice ht hval
  obtain ⟨fuel, hf⟩ := h
  rcases open_slice ht hf with ⟨hcs, hx⟩ | ⟨a, len, cap, m, n, D, Pl, hcs, hb, hl, hm, hmm, hx, hi⟩
  · simp [Value.cells] at hcs
    obtain ⟨rfl, rfl, rfl⟩ := hcs
    exact ⟨[], ⟨none, 0, rfl, Nat.le_refl _, Nat.zero_le _, fun q => absurd rfl q⟩, by simp, by intros; simp, .inl rfl⟩
  · simp [Value.cells] at hcs
    obtain ⟨rfl, rfl, rfl⟩ := hcs
    simp only [if_true] at hmm
    subst hmm
    obtain ⟨l, hl', hp⟩ := exists_list len0 (fun i x => w.cells? 0 (a.add (i * sz)) sz = some (c x) ∧ good x) (fun i hi' => by
      obtain ⟨cs', hc1, hc2⟩ := hi i (by omega)
      rw [hc] at hc1
      obtain ⟨_, hcl, _⟩ := World.cells?_some hc1
      obtain ⟨x, rfl, hg⟩ := hel _ _ _ hcl hc2
      exact ⟨x, hc1, hg⟩)
    refine ⟨l, ?_, ?_, ?_, ?_⟩
    · refine ⟨_, _, by rw [hl'], by omega, hm, fun hne => ?_⟩
      have hpos' : 0 < len0 := by rw [← hl']; exact List.length_pos_iff.2 hne
      obtain ⟨b, off, spot⟩ := a
      have hspot : spot = none := by
        have h0 := (hp 0 (by omega)).1
        obtain ⟨_, hcl, hat⟩ := World.cells?_some h0
        have h1 := hat 0 hpos
        rw [List.getElem?_eq_getElem (by omega)] at h1
        simpa [Addr.add] using World.cell?_spot h1
      subst hspot
      refine ⟨b, off, rfl, fun j hj i hi' => ?_⟩
      obtain ⟨_, hcl, hat⟩ := World.cells?_some (hp j (by omega)).1
      have h1 := hat i hi'
      rw [add_none, add_none] at h1
      rw [← Nat.add_assoc]; exact h1
    · intro x hx'
      obtain ⟨i, hi', rfl⟩ := List.mem_iff_getElem.1 hx'
      have := (hp i (by omega)).2
      rwa [nth_get l i hi'] at this
    · intro ts ds j hall htj hdj
      have hd := congrArg Prod.fst hx
      simp only at hd
      rw [hd] at hdj
      have := sized_slice hall htj hdj ht
      simp only [List.length_map, List.length_range] at this
      exact Nat.le_trans (Nat.mul_le_mul_right _ (by omega)) this
    · exact .inr ⟨_, _, congrArg Prod.fst hx, by simp [hl']⟩
end
end Go.Proofs.Ytmhdhnipljonlaa
namespace Go.Proofs.Ytmhdhnipljonlaa
open Go.ChangeShapes Go.WideShapes Go.ChangeAt Go.RowKit Go.Deep
set_option linter.unusedSimpArgs false
set_option linter.unusedVariables false
/-- An ask. -/
structure Ask21 where
  kd : Int
  n : Int
  pos : Int
  ino : Int
  nm : ByteArray
  tn : ByteArray
  dv : Sl
  d : List UInt8
instance : Inhabited Ask21 := ⟨⟨0, 0, 0, 0, .empty, .empty, default, []⟩⟩
abbrev ask21Cells (x : Ask21) : List Value := [.int .i64 x.kd, .int .i64 x.n, .int .i64 x.pos, .int .i64 x.ino, .string x.nm, .string x.tn, slv x.dv]
structure Ask21Good (w : World) (x : Ask21) : Prop where
  kd : I64 x.kd
  n : I64 x.n
  pos : I64 x.pos
  ino : I64 x.ino
  rd : Bytes w (slv x.dv) x.d
theorem cells_byte21 : Try.checked.prog.cellsOf 5 = 1 := by kernel_rfl
theorem cells_ask21 : Try.checked.prog.cellsOf 81 = 7 := by kernel_rfl
set_option maxRecDepth 100000 in
theorem el_ask21 {H : Type} {enc : TypeId × Value → H} {w : World} (n : Nat) (cs : List Value) (y : DataW H × List MemPlace) (hl : cs.length = 7) (h : DataW.trod enc Try.prog w 0 (fun _ => true) true n 81 cs = some y) :
    ∃ x : Ask21, cs = ask21Cells x ∧ Ask21Good w x := by
  obtain ⟨_, v0, _, h0, t0⟩ := el_fields Try.underlying81 (by kernel_rfl) hl h 0 _ rfl
  obtain ⟨_, v1, _, h1, t1⟩ := el_fields Try.underlying81 (by kernel_rfl) hl h 1 _ rfl
  obtain ⟨_, v2, _, h2, t2⟩ := el_fields Try.underlying81 (by kernel_rfl) hl h 2 _ rfl
  obtain ⟨_, v3, _, h3, t3⟩ := el_fields Try.underlying81 (by kernel_rfl) hl h 3 _ rfl
  obtain ⟨_, v4, _, h4, t4⟩ := el_fields Try.underlying81 (by kernel_rfl) hl h 4 _ rfl
  obtain ⟨_, v5, _, h5, t5⟩ := el_fields Try.underlying81 (by kernel_rfl) hl h 5 _ rfl
  obtain ⟨_, v6, _, h6, t6⟩ := el_fields Try.underlying81 (by kernel_rfl) hl h 6 _ rfl
  obtain ⟨k0, rfl, g0⟩ := el_int Try.underlying3 _ _ _ t0
  obtain ⟨k1, rfl, g1⟩ := el_int Try.underlying3 _ _ _ t1
  obtain ⟨k2, rfl, g2⟩ := el_int Try.underlying3 _ _ _ t2
  obtain ⟨k3, rfl, g3⟩ := el_int Try.underlying3 _ _ _ t3
  obtain ⟨s, hs1, _⟩ := DataW.trod_string Try.underlying9 t4
  obtain ⟨s', hs2, _⟩ := DataW.trod_string Try.underlying9 t5
  obtain ⟨a0, len0, cap0, rfl⟩ := trod_slice_form Try.underlying27 t6
  obtain ⟨x, hx, l, hb⟩ := el_bytes Try.underlying27 Try.underlying5 cells_byte21 _ _ _ t6
  have hx : .slice a0 len0 cap0 = x := hx
  subst hx
  simp at hs1 hs2
  subst hs1 hs2
  match cs, hl with
  | [c0, c1, c2, c3, c4, c5, c6], _ =>
    simp at h0 h1 h2 h3 h4 h5 h6
    exact ⟨⟨k0, k1, k2, k3, s, s', ⟨a0, len0, cap0⟩, l⟩, by rw [h0, h1, h2, h3, h4, h5, h6], ⟨i64_of g0, i64_of g1, i64_of g2, i64_of g3, hb⟩⟩
set_option maxRecDepth 100000 in
/-- Asks that are handed in. -/
theorem open_asks21 {H : Type} {enc : TypeId × Value → H} {w : World} {b0 : Nat} {v : Value} {d : DataW H} {p : List MemPlace} (hval : Value.okWide Try.prog w .any b0 75 v) (h : DataW.Trod enc Try.prog w 0 (fun _ => true) true 75 v d p) :
    ∃ l : List Ask21, RdN 7 ask21Cells w v l ∧ ∀ x ∈ l, Ask21Good w x := by
  obtain ⟨l, h1, h2, -⟩ := open_rdN 7 ask21Cells (Ask21Good w) Try.underlying75 cells_ask21 (by omega) (fun n cs y hl h => el_ask21 n cs y hl h) hval h
  exact ⟨l, h1, h2⟩
end Go.Proofs.Ytmhdhnipljonlaa
namespace Go.Proofs.Ytmhdhnipljonlaa
open Go.RowKit
set_option linter.unusedSimpArgs false
set_option linter.unusedVariables false

/-- A later world in which what was there is as it was. -/
structure Wx (w : World) where
  val : World
  prop : Upd [] w val
instance (w : World) : Inhabited (Wx w) := ⟨⟨w, Upd.refl [] w⟩⟩
theorem Wx.cell {w : World} {p : Addr} {v : Value} (h : w.cell? p = some v) (x : Wx w) : x.val.cell? p = some v := x.prop.cell h (by simp)
section
variable {P : Program} {w : World} {x : Wx w} {f : FuncId} {args : Array Value} {v : Value}
theorem Wx.upd (h : Calls P f args x.val fun e w' => e = .returned v ∧ Upd [] x.val w') : Calls P f args x.val fun e w'' => e = .returned v ∧ ∃ y : Wx w, w'' = y.val :=
  h.mono fun _ w' ⟨he, hu⟩ => ⟨he, ⟨w', x.prop.seq hu⟩, rfl⟩
theorem Wx.draws (h : Calls P f args x.val fun e w' => e = .returned v ∧ ∃ n, w' = x.val.drewN n) : Calls P f args x.val fun e w'' => e = .returned v ∧ ∃ y : Wx w, w'' = y.val :=
  h.mono fun _ w' ⟨he, n, hw⟩ => ⟨he, ⟨w', by rw [hw]; exact x.prop.drewN n⟩, rfl⟩
theorem Wx.same (h : Calls P f args x.val fun e w' => e = .returned v ∧ x.val = w') : Calls P f args x.val fun e w'' => e = .returned v ∧ ∃ y : Wx w, w'' = y.val :=
  h.mono fun _ w' ⟨he, hw⟩ => ⟨he, x, hw.symm⟩
theorem wp_region_wx {ops : List Oper} {id : Nat} {Q : Exit → Act → World → Prop} {a : Act} (hm : P.follows .mixedOrders = true) (hB : Region.lexB .any ops.toArray = true)
    (h : wpQuiet P ops.toArray (fun w' => ∃ x : Wx w, w' = x.val) (fun a' => ∀ w', (∃ x : Wx w, w' = x.val) → Q .normal a' w') ops a) : (Code.region id ops.toArray true).wp P Q a w :=
  wp_region_quiet (C := fun w' => ∃ x : Wx w, w' = x.val) hm hB ⟨⟨w.drew, (Upd.refl [] w).drew⟩, rfl⟩ (by simpa using h)
end
end Go.Proofs.Ytmhdhnipljonlaa
