/- Texts of the proof, joined: The walk of YardGrows. Chapter 21 as plain law: the file with the least ino stands first, whatever is done to the others. Chapter 21 as plain law: no two files have one name; the least free ino, counted. Bytes in blocks that only grow at their end: slices that show a part of a block, and append onto them. The order of texts. Chapter 22 as plain law: files by rising names, raw writes, what they do. -/
import Derived.Test.YtmhdhnipljonlaaMy4
import Derived.Test.YtmhdhnipljonlaaMy1
import Derived.Test.YtmhdhnipljonlaaMy3
import Derived.Test.YtmhdhnipljonlaaRows
import Derived.ArgAppend
namespace Go.Proofs.Ytmhdhnipljonlaa
open Go.RowKit
set_option linter.unusedSimpArgs false
set_option linter.unusedVariables false
theorem tGet_set {l : List (Int × Int)} (h : Rising ltY l) (k v : Int) : tGet ltY 0 (tSet ltY l k v) k = (v, true) := by
  have hm : (k, v) ∈ tSet ltY l k v := by unfold tSet; simp
  obtain ⟨i, hi, he⟩ := List.mem_iff_getElem.1 hm
  have := tGet_at intOrd 0 (h.set_ intOrd k v) i hi
  rwa [nth_get _ i hi, he] at this
theorem YD.tkris {w0 w : World} {gy : Nat} {G : List Nat} {fl : FL} {tk : List (Int × Int)} (h : YD w0 w gy G fl tk) : Rising ltY tk := by
  obtain ⟨gf, gt, F, T, cs, hc, -⟩ := h.ex
  exact hc.taken.ris
theorem one_read (aa : List UInt8) (tk : List (Int × Int)) (a n : Nat) (s : ByteArray) : yRead [(1, (s, aa))] tk 1 (a : Int) (n : Int) = ((((aa.drop a).take n), 0), tSet ltY tk 1 ((tGet ltY 0 tk 1).1 + (((aa.drop a).take n).length : Int))) := by
  have hb : below ltY [((1 : Int), (s, aa))] 1 = 0 := by unfold below; rw [List.takeWhile_cons]; simp
  have hi : isIn ltY [((1 : Int), (s, aa))] 1 = true := by unfold isIn; rw [hb]; simp [nth_cons_zero]
  unfold yRead
  rw [hi, hb, if_pos rfl, if_neg (by omega), nth_cons_zero]
  simp only [Int.toNat_natCast]
def TK (tk : List (Int × Int)) (A : Nat) : Prop := (tk = [] ∧ A = 0) ∨ tk = [((1 : Int), (A : Int))]
theorem below1 {ν : Type} (v : ν) : below ltY [((1 : Int), v)] 1 = 0 := by unfold below; rw [List.takeWhile_cons]; simp
theorem isIn1 {ν : Type} [Inhabited ν] (v : ν) : isIn ltY [((1 : Int), v)] 1 = true := by unfold isIn; rw [below1]; simp [nth_cons_zero]
theorem TK.get {tk : List (Int × Int)} {A : Nat} (h : TK tk A) : (tGet ltY 0 tk 1).1 = (A : Int) := by
  rcases h with ⟨rfl, rfl⟩ | rfl
  · rfl
  · unfold tGet; rw [isIn1, below1]; rfl
theorem TK.set {tk : List (Int × Int)} {A : Nat} (h : TK tk A) (x : Int) : tSet ltY tk 1 x = [((1 : Int), x)] := by
  rcases h with ⟨rfl, rfl⟩ | rfl
  · rfl
  · unfold tSet; rw [isIn1, below1]; rfl
theorem TK.len {tk : List (Int × Int)} {A : Nat} (h : TK tk A) : tk.length ≤ 1 := by
  rcases h with ⟨rfl, rfl⟩ | rfl <;> simp
theorem TK.bd {tk : List (Int × Int)} {A : Nat} (h : TK tk A) (hA : A ≤ 1000000000000) : ∀ p ∈ tk, 0 ≤ p.2 ∧ p.2 ≤ 1000000000000 := by
  rcases h with ⟨rfl, rfl⟩ | rfl
  · intro p hp; simp at hp
  · intro p hp; simp at hp; subst hp; exact ⟨by omega, by show (A : Int) ≤ _; omega⟩
theorem TK.read {aa : List UInt8} {tk : List (Int × Int)} {A : Nat} (h : TK tk A) (n M : Nat) (s : ByteArray) (hA : A ≤ aa.length) (hM : (M = n ∧ A + n ≤ aa.length) ∨ (M = aa.length - A ∧ aa.length < A + n)) : yRead [(1, (s, aa))] tk 1 (A : Int) (n : Int) = ((((aa.drop A).take M), 0), [((1 : Int), ((A + M : Nat) : Int))]) ∧ ((aa.drop A).take M).length = M := by
  have hl : ((aa.drop A).take M).length = M := by rw [List.length_take, List.length_drop]; omega
  have hq : (aa.drop A).take n = (aa.drop A).take M := by
    rcases hM with ⟨rfl, -⟩ | ⟨rfl, h2⟩
    · rfl
    · rw [List.take_of_length_le (by rw [List.length_drop]; omega), List.take_of_length_le (by rw [List.length_drop]; omega)]
  refine ⟨?_, hl⟩
  rw [one_read, hq, h.set, h.get, hl]
  rfl
set_option maxRecDepth 20000 in
set_option maxHeartbeats 8000000 in
theorem yardGrows_any (w : World) (vp : Value) (ls : List (List UInt8)) (hparts : ∃ vs : List Value, vs.length = ls.length ∧ Rd id w vp vs ∧ ∀ j, j < ls.length → Bytes w (nth vs j) (nth ls j)) (vr : Value) (reads : List Int) (hr : Rd iv w vr reads) (hri : ∀ x ∈ reads, I64 x) (_ : reads.length * 8 ≤ 140737488351232) :
    Calls Try.prog 5 #[vp, vr] w fun e w' => e = .returned (.bool true) ∧ Upd [] w w' := by
  obtain ⟨vs, hvl, ⟨a, cap, rfl, hlc, hcm, hcell⟩, hby⟩ := hparts
  obtain ⟨a2, cap2, rfl, hlc2, hcm2, hcell2⟩ := hr
  have hm' : vs.length ≤ 9223372036854775807 := by unfold maxLen at hcm; omega
  have hm2' : reads.length ≤ 9223372036854775807 := by unfold maxLen at hcm2; omega
  have HC := Lib.hid hcell
  have HC2 := Lib.hid hcell2
  have HBY := Lib.hid hby
  have HRI := Lib.hid hri
  have HVL := Lib.hid hvl
  clear hlc hcm hcell hby hvl hlc2 hcm2 hcell2 hri
  go_enter Try.func5, Try.ntmps5
  go_wp2_with fail
  (with_reducible refine (yNew_any w _ (Upd.refl [] w)).mono ?_)
  rintro e w1 ⟨gy, rfl, ⟨G1, h1, -⟩, -⟩
  have H1 := Lib.hid h1
  clear h1
  go_wp2_with fail
  (with_reducible refine (yCreate_any sF H1.out).mono ?_)
  rintro e w2 ⟨rfl, G2, h2, -, -⟩
  have H2 : Hid (YD w w2 gy G2 [(1, (sF, []))] []) := h2
  rw [show (yCreate [] sF).1 = 0 by kernel_rfl]
  clear h2 H1
  go_wp2_with fail
  go_loopw [6, 7] (fun va i wr => ∃ (k : Nat) (G : List Nat) (aa : List UInt8), k ≤ 15 ∧ k ≤ vs.length ∧ i = .int .i64 k ∧ aa.length ≤ 300 * k ∧ Hid (YD w wr gy G [(1, (sF, aa))] []) ∧ Hid (Own bv w.heap.size 5 wr va aa) ∧ Hid (Ap (blk va) G)) (fun _ i _ => 15 - (intOf i).toNat)
  case atStart => exact ⟨0, G2, [], by omega, by omega, rfl, by simp, H2, World.ownsRow_nil _ _ _ _, Ap.nil⟩
  case round =>
    obtain ⟨k, G, aa, hk, hkl, rfl, hal, hs, hva, hap⟩ := hrel
    clear H2
    have hend : (k < vs.length ∧ k < 15) ∨ (k = vs.length ∧ Hid (k ≤ 15)) ∨ (k = 15 ∧ k < vs.length) := by unfold Hid; omega
    rcases hend with ⟨hlt, h2⟩ | hend
    · obtain ⟨b, off, rfl, hc⟩ := HC.out (by intro h; simp [h] at hlt)
      have c0 : wr.cell? ⟨b, off + k, none⟩ = some (nth vs k) := hs.out.old.cell (hc k hlt) (by simp)
      have HPW := Lib.hid (HBY.out k (by rw [← HVL.out]; exact hlt))
      generalize nth vs k = pv at *
      generalize nth ls k = l at *
      obtain ⟨pa, pc, rfl, hplc, hpcm, -⟩ := HPW.out
      have hplm : l.length ≤ 9223372036854775807 := by unfold maxLen at hpcm; omega
      have hpcm' : pc ≤ 9223372036854775807 := by unfold maxLen at hpcm; omega
      have q1 : (k : Int) < vs.length := by omega
      have q2 : (k : Int) < 15 := by omega
      clear hc hpcm
      obtain ⟨ao, co, rfl, -⟩ := hva.out.rd
      by_cases hbig : 300 < l.length
      · have hq3 : (300 : Int) < l.length := by omega
        have hq4 : 300 ≤ pc := by omega
        have hcutp : ∀ W, (Instr.slice 27 (.slice pa l.length pc) none (some (.int .i64 300)) none).run Try.prog W = .ok (.slice pa 300 pc) W := fun W => run_cut_h (P := Try.prog) (size := 1) Try.underlying27 (by kernel_rfl) pa l.length pc 300 hq4 W
        have HPQ : Hid (Bytes w (.slice pa 300 pc) (l.take 300)) := HPW.out.take 300 (by omega)
        have hql : (l.take 300).length = 300 := by rw [List.length_take]; omega
        generalize l.take 300 = q at *
        have HQL := Lib.hid hql
        clear hql
        have hcutf : ∀ g W, (Instr.slice 27 (.slice (some ⟨g, 0, none⟩) (300 + 80) (300 + 80)) none (some (.int .i64 (300 : Int))) none).run Try.prog W = .ok (.slice (some ⟨g, 0, none⟩) 300 (300 + 80)) W := fun g W => run_cut_h (P := Try.prog) (size := 1) Try.underlying27 (by kernel_rfl) (some ⟨g, 0, none⟩) (300 + 80) (300 + 80) 300 (by omega) W
        have HYA : Hid (yAppend [(1, (sF, aa))] sF q = (0, [(1, (sF, aa ++ q))])) := by
          unfold Hid
          rw [one_append, if_neg (by have := HQL.out; omega)]
        go_wp2_with fail
        (refine (roomyByte_any _ q 17 _ (HPQ.out.upd0 hs.out.old) (by have := HQL.out; omega)).mono ?_)
        rintro e w3 ⟨u3, rfl, hroom⟩
        have HPRE := Lib.hid (hroom.pre (by have := HQL.out; unfold maxLen; omega))
        have HFUL := Lib.hid (hroom.rd (by have := HQL.out; unfold maxLen; omega))
        obtain ⟨rfl, hbf, hu3⟩ := hroom
        have HBF := Lib.hid hbf
        have HS3 := Lib.hid (hs.out.upd0 hu3)
        have HVA3 := Lib.hid (hva.out.upd hu3 (by simp))
        have HGF : Hid (wr.heap.size ∉ G ∧ wr.heap.size ∉ blk (.slice ao aa.length co)) := ⟨fun hx => by have := (hs.out.ge _ hx).2; omega, fun hx => by have := (hva.out.ge _ hx).2; omega⟩
        have hszr := hs.out.old.size
        rw [HQL.out] at HPRE HFUL ⊢
        clear hbf hu3 hs hva c0
        go_wp2_with fail
        (with_reducible refine (yAppend_any sF _ q HPRE.out (by have := HQL.out; omega) HS3.out).mono ?_)
        rw [HYA.out]
        rintro e w4 ⟨rfl, G4, h4, hu4, hf4⟩
        have HS4 : Hid (YD w w4 gy G4 [(1, (sF, aa ++ q))] []) := h4
        have HVA4 := Lib.hid (HVA3.out.upd hu4 hap.out)
        have HFUL4 := Lib.hid (HFUL.out.upd hu4 (fun x hx h => by simp [blk] at hx; rw [hx] at h; exact HGF.out.1 h))
        have HBF4 := Lib.hid (HBF.out.upd hu4 HGF.out.1)
        have hsz4 := HBF.out.lt
        have HGF4 : Hid (wr.heap.size ∉ G4) := fun hx => by
          rcases hf4 _ hx with r | r
          · exact HGF.out.1 r
          · omega
        have HAP4 : Hid (Ap (blk (.slice ao aa.length co)) G4) := fun x hx hG => by
          rcases hf4 _ hG with r | r
          · exact hap.out x hx r
          · have := (HVA3.out.ge x hx).2; omega
        clear h4 hu4 hf4 HS3 HVA3 HFUL HBF HPRE hap
        go_wp2_with fail
        (refine (intactByte_ok _ _ q 17 _ HFUL4.out (HPQ.out.upd0 HS4.out.old) (by have := HQL.out; omega)).mono ?_)
        rintro e w5 ⟨rfl, n5, rfl⟩
        have hu5 := (Upd.refl [] w4).drewN n5
        have HS5 := Lib.hid (HS4.out.upd0 hu5)
        have HVA5 := Lib.hid (HVA4.out.upd hu5 (by simp))
        have HBF5 := Lib.hid (HBF4.out.upd hu5 (by simp))
        generalize w4.drewN n5 = w5 at *
        clear hu5 HS4 HVA4 HBF4 HFUL4
        go_wp2_with fail
        generalize hgF : wr.heap.size = gF at *
        clear hgF
        go_loopw [10] (fun i wr => ∃ j : Nat, j ≤ 300 + 80 ∧ i = .int .i64 j ∧ Hid (∀ t, j ≤ t → t < 300 + 80 → ∃ x : UInt8, wr.cell? ⟨gF, t, none⟩ = some (bv x)) ∧ Hid (∀ t, wr.frozen? ⟨gF, t, none⟩ = false) ∧ Hid (Upd [gF] w5 wr)) (fun i _ => 300 + 80 - (intOf i).toNat)
        case atStart =>
          refine ⟨0, Nat.zero_le _, rfl, fun t _ ht => ?_, fun t => HBF5.out.frozen t, Upd.refl _ _⟩
          have hl : t < (q ++ List.replicate 80 17).length := by rw [List.length_append, HQL.out]; simp; omega
          exact ⟨_, by rw [HBF5.out.cell, List.getElem?_map, List.getElem?_eq_getElem hl]; rfl⟩
        case round =>
          obtain ⟨j, hj, rfl, hcl, hfz, hu6⟩ := hrel
          by_cases hjl : j < 300 + 80
          · obtain ⟨x, hx⟩ := hcl.out j (Nat.le_refl _) hjl
            have f0 := hfz.out j
            have q5 : (0 : Int) ≤ j := by omega
            have q6 : (j : Int) < 300 + 80 := by omega
            have HCL : Hid (∀ V, ∀ t, j + 1 ≤ t → t < 300 + 80 → ∃ x : UInt8, (wr.setCell ⟨gF, j, none⟩ V).cell? ⟨gF, t, none⟩ = some (bv x)) := fun V t h1 h2 => by
              obtain ⟨y, hy⟩ := hcl.out t (by omega) h2
              exact ⟨y, by rw [World.cell?_setCell_other _ _ _ _ (by intro h; injection h with h1 h2 h3; omega)]; exact hy⟩
            have HFZ : Hid (∀ V, ∀ t, (wr.setCell ⟨gF, j, none⟩ V).frozen? ⟨gF, t, none⟩ = false) := fun V t => by rw [World.frozen?_setCell]; exact hfz.out t
            have HU7 : Hid (∀ V, Upd [gF] w5 (wr.setCell ⟨gF, j, none⟩ V)) := fun V => hu6.out.setCell _ _ (.inl (by simp))
            clear hcl hfz hu6
            go_wp2_with fail
            go_roundw
            case rel => exact ⟨j + 1, by omega, by go_num, HCL.out _, HFZ.out _, HU7.out _⟩
            case measure => simp [intOf]; omega
          · obtain rfl : j = 300 + 80 := by omega
            have HS6 := Lib.hid (HS5.out.upd hu6.out (fun x hx h => HGF4.out (by simp at h; rw [← h]; exact hx)) (by simpa using hszr))
            have HVA6 := Lib.hid (HVA5.out.upd hu6.out (fun x hx h => HGF.out.2 (by simp at h; rw [← h]; exact hx)))
            have HRUN := Lib.hid (fun ty => run_app (P := Try.prog) (ty := ty) bv_one Try.underlying27 infoByte rfl (.slice ao aa.length co) (.slice pa 300 pc) aa q HVA6.out (HPQ.out.upd0 HS6.out.old) (by have := HQL.out; omega) (by have := HQL.out; unfold maxLen; omega) HS6.out.old.size)
            clear hcl hfz hu6
            go_wp2_with (at_builtin; go_must (refine wpList_app_of rfl _ _ rfl (.slice ao aa.length co) (.slice pa 300 pc) rfl rfl (HRUN.out _) ?_; rintro v8 w8 ⟨ho8, hu8, hk8⟩; have HO8 := Lib.hid ho8; have HU8 := Lib.hid hu8; have HK8 := Lib.hid hk8; obtain ⟨a8, c8, rfl, -⟩ := ho8.rd; clear ho8 hu8 hk8))
            have HS8 := Lib.hid (HS6.out.upd HU8.out (fun x hx h => HAP4.out x h hx) (fun x hx => (HVA6.out.ge x hx).1))
            have HAP8 : Hid (Ap (blk (.slice a8 (aa ++ q).length c8)) G4) := fun x hx hG => by
              rcases HK8.out x hx with r | r
              · exact HAP4.out x r hG
              · have := (HS6.out.ge x hG).2; omega
            have hlen8 : (aa ++ q).length ≤ 300 * (k + 1) := by rw [List.length_append]; have := HQL.out; omega
            have HL8 : Hid (aa.length + q.length = (aa ++ q).length) := by unfold Hid; rw [List.length_append]
            clear HS6 HVA6 HRUN HU8 HK8
            go_roundw
            case rel => exact ⟨k + 1, G4, aa ++ q, by omega, by omega, by go_num, hlen8, HS8, by rw [HL8.out]; exact HO8, by rw [HL8.out]; exact HAP8⟩
            case measure => simp [intOf]; omega
      · have hq3 : ¬ (300 : Int) < l.length := by omega
        have HPQ : Hid (Bytes w (.slice pa l.length pc) l) := HPW.out
        obtain ⟨q, hq⟩ : ∃ q, l = q := ⟨_, rfl⟩
        subst hq
        have HQL : Hid (l.length = l.length) := rfl
        have hl300 : l.length ≤ 300 := by omega
        have hcutf : ∀ g W, (Instr.slice 27 (.slice (some ⟨g, 0, none⟩) (l.length + 80) (l.length + 80)) none (some (.int .i64 (l.length : Int))) none).run Try.prog W = .ok (.slice (some ⟨g, 0, none⟩) l.length (l.length + 80)) W := fun g W => run_cut_h (P := Try.prog) (size := 1) Try.underlying27 (by kernel_rfl) (some ⟨g, 0, none⟩) (l.length + 80) (l.length + 80) l.length (by omega) W
        have HYA : Hid (yAppend [(1, (sF, aa))] sF l = (0, [(1, (sF, aa ++ l))])) := by
          unfold Hid
          rw [one_append, if_neg (by have := HQL.out; omega)]
        go_wp2_with fail
        (refine (roomyByte_any _ l 17 _ (HPQ.out.upd0 hs.out.old) (by have := HQL.out; omega)).mono ?_)
        rintro e w3 ⟨u3, rfl, hroom⟩
        have HPRE := Lib.hid (hroom.pre (by have := HQL.out; unfold maxLen; omega))
        have HFUL := Lib.hid (hroom.rd (by have := HQL.out; unfold maxLen; omega))
        obtain ⟨rfl, hbf, hu3⟩ := hroom
        have HBF := Lib.hid hbf
        have HS3 := Lib.hid (hs.out.upd0 hu3)
        have HVA3 := Lib.hid (hva.out.upd hu3 (by simp))
        have HGF : Hid (wr.heap.size ∉ G ∧ wr.heap.size ∉ blk (.slice ao aa.length co)) := ⟨fun hx => by have := (hs.out.ge _ hx).2; omega, fun hx => by have := (hva.out.ge _ hx).2; omega⟩
        have hszr := hs.out.old.size
        clear hbf hu3 hs hva c0
        go_wp2_with fail
        (with_reducible refine (yAppend_any sF _ l HPRE.out (by have := HQL.out; omega) HS3.out).mono ?_)
        rw [HYA.out]
        rintro e w4 ⟨rfl, G4, h4, hu4, hf4⟩
        have HS4 : Hid (YD w w4 gy G4 [(1, (sF, aa ++ l))] []) := h4
        have HVA4 := Lib.hid (HVA3.out.upd hu4 hap.out)
        have HFUL4 := Lib.hid (HFUL.out.upd hu4 (fun x hx h => by simp [blk] at hx; rw [hx] at h; exact HGF.out.1 h))
        have HBF4 := Lib.hid (HBF.out.upd hu4 HGF.out.1)
        have hsz4 := HBF.out.lt
        have HGF4 : Hid (wr.heap.size ∉ G4) := fun hx => by
          rcases hf4 _ hx with r | r
          · exact HGF.out.1 r
          · omega
        have HAP4 : Hid (Ap (blk (.slice ao aa.length co)) G4) := fun x hx hG => by
          rcases hf4 _ hG with r | r
          · exact hap.out x hx r
          · have := (HVA3.out.ge x hx).2; omega
        clear h4 hu4 hf4 HS3 HVA3 HFUL HBF HPRE hap
        go_wp2_with fail
        (refine (intactByte_ok _ _ l 17 _ HFUL4.out (HPQ.out.upd0 HS4.out.old) (by have := HQL.out; omega)).mono ?_)
        rintro e w5 ⟨rfl, n5, rfl⟩
        have hu5 := (Upd.refl [] w4).drewN n5
        have HS5 := Lib.hid (HS4.out.upd0 hu5)
        have HVA5 := Lib.hid (HVA4.out.upd hu5 (by simp))
        have HBF5 := Lib.hid (HBF4.out.upd hu5 (by simp))
        generalize w4.drewN n5 = w5 at *
        clear hu5 HS4 HVA4 HBF4 HFUL4
        go_wp2_with fail
        generalize hgF : wr.heap.size = gF at *
        clear hgF
        go_loopw [10] (fun i wr => ∃ j : Nat, j ≤ l.length + 80 ∧ i = .int .i64 j ∧ Hid (∀ t, j ≤ t → t < l.length + 80 → ∃ x : UInt8, wr.cell? ⟨gF, t, none⟩ = some (bv x)) ∧ Hid (∀ t, wr.frozen? ⟨gF, t, none⟩ = false) ∧ Hid (Upd [gF] w5 wr)) (fun i _ => l.length + 80 - (intOf i).toNat)
        case atStart =>
          refine ⟨0, Nat.zero_le _, rfl, fun t _ ht => ?_, fun t => HBF5.out.frozen t, Upd.refl _ _⟩
          have hl : t < (l ++ List.replicate 80 17).length := by rw [List.length_append]; simp; omega
          exact ⟨_, by rw [HBF5.out.cell, List.getElem?_map, List.getElem?_eq_getElem hl]; rfl⟩
        case round =>
          obtain ⟨j, hj, rfl, hcl, hfz, hu6⟩ := hrel
          by_cases hjl : j < l.length + 80
          · obtain ⟨x, hx⟩ := hcl.out j (Nat.le_refl _) hjl
            have f0 := hfz.out j
            have q5 : (0 : Int) ≤ j := by omega
            have q6 : (j : Int) < l.length + 80 := by omega
            have HCL : Hid (∀ V, ∀ t, j + 1 ≤ t → t < l.length + 80 → ∃ x : UInt8, (wr.setCell ⟨gF, j, none⟩ V).cell? ⟨gF, t, none⟩ = some (bv x)) := fun V t h1 h2 => by
              obtain ⟨y, hy⟩ := hcl.out t (by omega) h2
              exact ⟨y, by rw [World.cell?_setCell_other _ _ _ _ (by intro h; injection h with h1 h2 h3; omega)]; exact hy⟩
            have HFZ : Hid (∀ V, ∀ t, (wr.setCell ⟨gF, j, none⟩ V).frozen? ⟨gF, t, none⟩ = false) := fun V t => by rw [World.frozen?_setCell]; exact hfz.out t
            have HU7 : Hid (∀ V, Upd [gF] w5 (wr.setCell ⟨gF, j, none⟩ V)) := fun V => hu6.out.setCell _ _ (.inl (by simp))
            clear hcl hfz hu6
            go_wp2_with fail
            go_roundw
            case rel => exact ⟨j + 1, by omega, by go_num, HCL.out _, HFZ.out _, HU7.out _⟩
            case measure => simp [intOf]; omega
          · obtain rfl : j = l.length + 80 := by omega
            have HS6 := Lib.hid (HS5.out.upd hu6.out (fun x hx h => HGF4.out (by simp at h; rw [← h]; exact hx)) (by simpa using hszr))
            have HVA6 := Lib.hid (HVA5.out.upd hu6.out (fun x hx h => HGF.out.2 (by simp at h; rw [← h]; exact hx)))
            have HRUN := Lib.hid (fun ty => run_app (P := Try.prog) (ty := ty) bv_one Try.underlying27 infoByte rfl (.slice ao aa.length co) (.slice pa l.length pc) aa l HVA6.out (HPQ.out.upd0 HS6.out.old) (by have := HQL.out; omega) (by have := HQL.out; unfold maxLen; omega) HS6.out.old.size)
            clear hcl hfz hu6
            go_wp2_with (at_builtin; go_must (refine wpList_app_of rfl _ _ rfl (.slice ao aa.length co) (.slice pa l.length pc) rfl rfl (HRUN.out _) ?_; rintro v8 w8 ⟨ho8, hu8, hk8⟩; have HO8 := Lib.hid ho8; have HU8 := Lib.hid hu8; have HK8 := Lib.hid hk8; obtain ⟨a8, c8, rfl, -⟩ := ho8.rd; clear ho8 hu8 hk8))
            have HS8 := Lib.hid (HS6.out.upd HU8.out (fun x hx h => HAP4.out x h hx) (fun x hx => (HVA6.out.ge x hx).1))
            have HAP8 : Hid (Ap (blk (.slice a8 (aa ++ l).length c8)) G4) := fun x hx hG => by
              rcases HK8.out x hx with r | r
              · exact HAP4.out x r hG
              · have := (HS6.out.ge x hG).2; omega
            have hlen8 : (aa ++ l).length ≤ 300 * (k + 1) := by rw [List.length_append]; have := HQL.out; omega
            have HL8 : Hid (aa.length + l.length = (aa ++ l).length) := by unfold Hid; rw [List.length_append]
            clear HS6 HVA6 HRUN HU8 HK8
            go_roundw
            case rel => exact ⟨k + 1, G4, aa ++ l, by omega, by omega, by go_num, hlen8, HS8, by rw [HL8.out]; exact HO8, by rw [HL8.out]; exact HAP8⟩
            case measure => simp [intOf]; omega
    · clear HC HBY HVL
      rcases hend with ⟨hke, h15⟩ | ⟨hke, hlt⟩
      · have q1 : ¬ (k : Int) < vs.length := by omega
        have hk15 := h15.out
        clear h15
        obtain ⟨ao, co, rfl, hco, hcom, -⟩ := hva.out.rd
        have hcom' : co ≤ 9223372036854775807 := by unfold maxLen at hcom; omega
        have hal' : aa.length ≤ 4500 := by omega
        clear hcom
        go_wp2_with fail
        go_loopw [11, 12, 13] (fun vt vk i wr => ∃ (j A : Nat) (G : List Nat) (tk : List (Int × Int)), j ≤ 30 ∧ j ≤ reads.length ∧ vt = .int .i64 A ∧ vk = .int .i64 A ∧ i = .int .i64 j ∧ A ≤ aa.length ∧ TK tk A ∧ Hid (YD w wr gy G [(1, (sF, aa))] tk) ∧ Hid (Own bv w.heap.size 5 wr (.slice ao aa.length co) aa) ∧ Hid (Ap (blk (.slice ao aa.length co)) G)) (fun _ _ i _ => 30 - (intOf i).toNat)
        case atStart => exact ⟨0, 0, G, [], by omega, by omega, rfl, rfl, rfl, by omega, .inl ⟨rfl, rfl⟩, hs, hva, hap⟩
        case round =>
          clear hs hva hap
          obtain ⟨j, A, G, tk, hj, hjl, rfl, rfl, rfl, hA, htk, hs, hva, hap⟩ := hrel
          have HIA : Hid (I64 (A : Int)) := ⟨by omega, by omega⟩
          have HTL : Hid (tk.length ≤ 50000) := by have := htk.len; unfold Hid; omega
          have HTB := Lib.hid (htk.bd (by omega))
          have hend2 : (j < reads.length ∧ j < 30) ∨ (j = reads.length ∧ Hid (j ≤ 30)) ∨ (j = 30 ∧ j < reads.length) := by unfold Hid; omega
          rcases hend2 with ⟨hlt2, h30⟩ | hend2
          · obtain ⟨b2, off2, rfl, hc2⟩ := HC2.out (by intro h; simp [h] at hlt2)
            have c0 : wr.cell? ⟨b2, off2 + j, none⟩ = some (.int .i64 (nth reads j)) := hs.out.old.cell (hc2 j hlt2) (by simp)
            have HX : Hid (-9223372036854775808 ≤ nth reads j ∧ nth reads j ≤ 9223372036854775807) := HRI.out _ (by rw [nth_get _ _ hlt2]; exact List.getElem_mem _)
            generalize nth reads j = x at *
            obtain ⟨n1, n2⟩ := within_in x 0 200 (by omega)
            obtain ⟨n, hn⟩ := Int.eq_ofNat_of_zero_le n1
            rw [hn] at n2
            have HWN := Lib.hid hn
            have HIN : Hid (I64 (n : Int)) := ⟨by omega, by omega⟩
            have r1 : (j : Int) < reads.length := by omega
            have r2 : (j : Int) < 30 := by omega
            clear hc2 hn n1
            go_wp2_with fail
            (with_reducible refine (within_any _ _ _ _ HX.out (by omega) (by omega) (by omega)).mono ?_)
            rintro e w' ⟨rfl, rfl⟩
            rw [HWN.out]
            obtain ⟨M, hM⟩ : ∃ M, (M = n ∧ A + n ≤ aa.length) ∨ (M = aa.length - A ∧ aa.length < A + n) := by
              by_cases hq : A + n ≤ aa.length
              · exact ⟨n, .inl ⟨rfl, hq⟩⟩
              · exact ⟨aa.length - A, .inr ⟨rfl, by omega⟩⟩
            have HRQ := Lib.hid (htk.read n M sF hA hM)
            rcases hM with hM | hM
            · obtain ⟨hM, hMl⟩ := hM
              have hM := hM.symm
              subst hM
              have HYR := Lib.hid HRQ.out.1
              have HQL := Lib.hid HRQ.out.2
              have m1 : (A : Int) + n ≤ aa.length := by omega
              obtain ⟨D, hD, hcut⟩ : ∃ D : Option Addr, D = (if co = A then ao else ao.map (·.add A)) ∧ ∀ W, (Instr.slice 27 (.slice ao aa.length co) (some (.int .i64 (A : Int))) (some (.int .i64 ((A : Int) + n))) none).run Try.prog W = .ok (.slice D n (co - A)) W :=
                ⟨_, rfl, fun W => by have h := run_cut_lh (P := Try.prog) (size := 1) Try.underlying27 (by kernel_rfl) ao aa.length co A (A + n) (by omega) (by omega) W (A : Int) ((A : Int) + n) rfl (by omega); rw [show A + n - A = n by omega, Nat.mul_one] at h; exact h⟩
              have HPA : Hid (∀ W, Own bv w.heap.size 5 W (.slice ao aa.length co) aa → Bytes W (.slice D n (co - A)) ((aa.drop A).take n)) := fun W hW => by rw [hD]; exact (hW.rd.drop A hA).take _ (by rw [List.length_drop]; omega)
              generalize (aa.drop A).take n = q at *
              clear hD hMl HRQ
              go_wp2_with fail
              (with_reducible refine (yRead_any 1 (A : Int) (n : Int) (i64_s 1 (by omega) (by omega)) HIA.out HIN.out hs.out HTL.out HTB.out).mono ?_)
              rw [HYR.out]
              rintro e w3 ⟨v3, rfl, ho3, G3, h3, hu3, hf3, hap3⟩
              obtain ⟨a3, c3, rfl, h3c, h3m, -⟩ := ho3.rd
              have h3m' : c3 ≤ 9223372036854775807 := by unfold maxLen at h3m; omega
              have HO3 := Lib.hid (show Own bv wr.heap.size 5 w3 (.slice a3 q.length c3) q from ho3)
              have HS3 : Hid (YD w w3 gy G3 [(1, (sF, aa))] [((1 : Int), ((A + n : Nat) : Int))]) := h3
              have HVA3 := Lib.hid (hva.out.upd hu3 hap.out)
              have HAP3 := Lib.hid hap3
              have hszr := hs.out.old.size
              have HGE3 : Hid (∀ x ∈ blk (.slice a3 q.length c3), w.heap.size ≤ x) := fun x hx => by have := (ho3.ge x hx).1; omega
              have HAPV : Hid (Ap (blk (.slice ao aa.length co)) (blk (.slice a3 q.length c3))) := fun x hx hx3 => by
                have h1 := (ho3.ge x hx3).1
                have h2 := (hva.out.ge x hx).2
                omega
              have HAPG : Hid (Ap (blk (.slice ao aa.length co)) G3) := fun x hx hG => by
                rcases hf3 _ hG with r | r
                · exact hap.out x hx r
                · have := (hva.out.ge x hx).2; omega
              rw [HQL.out] at HO3 HAP3 HGE3 HAPV h3c
              have HA3 : Hid (n = 0 ∨ ∃ g3, a3 = some ⟨g3, 0, none⟩) := by
                by_cases hn0 : q = []
                · exact .inl (by have := HQL.out; rw [hn0] at this; simpa using this.symm)
                · obtain ⟨g3, cc, he, -⟩ := ho3.form0 hn0
                  injection he with e1 e2 e3
                  exact .inr ⟨g3, e1⟩
              clear h3 hu3 hf3 hap3 ho3 hs hva hap c0 HYR h3m
              rw [HQL.out]
              go_wp2_with fail
              (with_reducible refine (sameByte_ok _ _ q _ HO3.out.rd (HPA.out _ HVA3.out)).mono ?_)
              rintro e w5 ⟨rfl, n5, rfl⟩
              have hu5 := (Upd.refl [] w3).drewN n5
              have HS5 := Lib.hid (HS3.out.upd0 hu5)
              have HVA5 := Lib.hid (HVA3.out.upd hu5 (by simp))
              have HO5 := Lib.hid (HO3.out.upd hu5 (by simp))
              generalize w3.drewN n5 = w5 at *
              clear hu5 HS3 HVA3 HO3 HPA hcut
              go_wp2_with fail
              go_loopw [18] (fun i wr => ∃ t : Nat, t ≤ n ∧ i = .int .i64 t ∧ Hid (∀ g, a3 = some ⟨g, 0, none⟩ → (∀ u, t ≤ u → u < n → ∃ x : UInt8, wr.cell? ⟨g, u, none⟩ = some (bv x)) ∧ ∀ u, wr.frozen? ⟨g, u, none⟩ = false) ∧ Hid (Upd (blk (.slice a3 n c3)) w5 wr)) (fun i _ => n - (intOf i).toNat)
              case atStart =>
                refine ⟨0, Nat.zero_le _, rfl, fun g hg => ?_, Upd.refl _ _⟩
                subst hg
                exact ⟨fun u _ hu => ⟨_, HO5.out.cell u (by rw [HQL.out]; exact hu)⟩, fun u => HO5.out.frozen u⟩
              case round =>
                obtain ⟨t, ht, rfl, hcl, hu6⟩ := hrel
                by_cases htl : t < n
                · obtain ⟨g3, rfl⟩ : ∃ g3, a3 = some ⟨g3, 0, none⟩ := HA3.out.resolve_left (by omega)
                  obtain ⟨hcl1, hfz⟩ := hcl.out g3 rfl
                  obtain ⟨x, hx⟩ := hcl1 t (Nat.le_refl _) htl
                  have f0 := hfz t
                  have p5 : (0 : Int) ≤ t := by omega
                  have p6 : (t : Int) < n := by omega
                  have HCL : Hid (∀ V, ∀ g, (some (⟨g3, 0, none⟩ : Addr)) = some ⟨g, 0, none⟩ → (∀ u, t + 1 ≤ u → u < n → ∃ x : UInt8, (wr.setCell ⟨g3, t, none⟩ V).cell? ⟨g, u, none⟩ = some (bv x)) ∧ ∀ u, (wr.setCell ⟨g3, t, none⟩ V).frozen? ⟨g, u, none⟩ = false) := fun V g hg => by
                    injection hg with hg; injection hg with hg
                    subst hg
                    refine ⟨fun u h1 h2 => ?_, fun u => by rw [World.frozen?_setCell]; exact hfz u⟩
                    obtain ⟨y, hy⟩ := hcl1 u (by omega) h2
                    exact ⟨y, by rw [World.cell?_setCell_other _ _ _ _ (by intro h; injection h with h1 h2 h3; omega)]; exact hy⟩
                  have HU7 : Hid (∀ V, Upd (blk (.slice (some ⟨g3, 0, none⟩) n c3)) w5 (wr.setCell ⟨g3, t, none⟩ V)) := fun V => hu6.out.setCell _ _ (.inl (by simp [blk]))
                  clear hcl hcl1 hfz hu6
                  go_wp2_with fail
                  go_roundw
                  case rel => exact ⟨t + 1, by omega, by go_num, HCL.out _, HU7.out _⟩
                  case measure => simp [intOf]; omega
                · obtain rfl : n = t := by omega
                  have HS6 := Lib.hid (HS5.out.upd hu6.out (fun x hx h => HAP3.out x h hx) HGE3.out)
                  have HVA6 := Lib.hid (HVA5.out.upd hu6.out HAPV.out)
                  clear hcl hu6 HS5 HVA5 HO5
                  go_wp2_with fail
                  go_roundw
                  case rel => exact ⟨j + 1, A + n, G3, [((1 : Int), ((A + n : Nat) : Int))], by omega, by omega, by go_num, by go_num, by go_num, by omega, .inr rfl, HS6, HVA6, HAPG⟩
                  case measure => simp [intOf]; omega
            · obtain ⟨hM, hMl⟩ := hM
              subst hM
              have HYR := Lib.hid HRQ.out.1
              have HQL := Lib.hid HRQ.out.2
              have m1 : (aa.length : Int) < (A : Int) + n := by omega
              obtain ⟨D, hD, hcut⟩ : ∃ D : Option Addr, D = (if co = A then ao else ao.map (·.add A)) ∧ ∀ W, (Instr.slice 27 (.slice ao aa.length co) (some (.int .i64 (A : Int))) (some (.int .i64 (aa.length : Int))) none).run Try.prog W = .ok (.slice D (aa.length - A) (co - A)) W :=
                ⟨_, rfl, fun W => by have h := run_cut_lh (P := Try.prog) (size := 1) Try.underlying27 (by kernel_rfl) ao aa.length co A aa.length (by omega) (by omega) W (A : Int) (aa.length : Int) rfl rfl; rw [Nat.mul_one] at h; exact h⟩
              have HPA : Hid (∀ W, Own bv w.heap.size 5 W (.slice ao aa.length co) aa → Bytes W (.slice D (aa.length - A) (co - A)) ((aa.drop A).take (aa.length - A))) := fun W hW => by rw [hD]; exact (hW.rd.drop A hA).take _ (by rw [List.length_drop]; omega)
              generalize (aa.drop A).take (aa.length - A) = q at *
              clear hD hMl HRQ
              go_wp2_with fail
              (with_reducible refine (yRead_any 1 (A : Int) (n : Int) (i64_s 1 (by omega) (by omega)) HIA.out HIN.out hs.out HTL.out HTB.out).mono ?_)
              rw [HYR.out]
              rintro e w3 ⟨v3, rfl, ho3, G3, h3, hu3, hf3, hap3⟩
              obtain ⟨a3, c3, rfl, h3c, h3m, -⟩ := ho3.rd
              have h3m' : c3 ≤ 9223372036854775807 := by unfold maxLen at h3m; omega
              have HO3 := Lib.hid (show Own bv wr.heap.size 5 w3 (.slice a3 q.length c3) q from ho3)
              have HS3 : Hid (YD w w3 gy G3 [(1, (sF, aa))] [((1 : Int), ((A + (aa.length - A) : Nat) : Int))]) := h3
              have HVA3 := Lib.hid (hva.out.upd hu3 hap.out)
              have HAP3 := Lib.hid hap3
              have hszr := hs.out.old.size
              have HGE3 : Hid (∀ x ∈ blk (.slice a3 q.length c3), w.heap.size ≤ x) := fun x hx => by have := (ho3.ge x hx).1; omega
              have HAPV : Hid (Ap (blk (.slice ao aa.length co)) (blk (.slice a3 q.length c3))) := fun x hx hx3 => by
                have h1 := (ho3.ge x hx3).1
                have h2 := (hva.out.ge x hx).2
                omega
              have HAPG : Hid (Ap (blk (.slice ao aa.length co)) G3) := fun x hx hG => by
                rcases hf3 _ hG with r | r
                · exact hap.out x hx r
                · have := (hva.out.ge x hx).2; omega
              rw [HQL.out] at HO3 HAP3 HGE3 HAPV h3c
              have HA3 : Hid ((aa.length - A) = 0 ∨ ∃ g3, a3 = some ⟨g3, 0, none⟩) := by
                by_cases hn0 : q = []
                · exact .inl (by have := HQL.out; rw [hn0] at this; simpa using this.symm)
                · obtain ⟨g3, cc, he, -⟩ := ho3.form0 hn0
                  injection he with e1 e2 e3
                  exact .inr ⟨g3, e1⟩
              clear h3 hu3 hf3 hap3 ho3 hs hva hap c0 HYR h3m
              rw [HQL.out]
              go_wp2_with fail
              (with_reducible refine (sameByte_ok _ _ q _ HO3.out.rd (HPA.out _ HVA3.out)).mono ?_)
              rintro e w5 ⟨rfl, n5, rfl⟩
              have hu5 := (Upd.refl [] w3).drewN n5
              have HS5 := Lib.hid (HS3.out.upd0 hu5)
              have HVA5 := Lib.hid (HVA3.out.upd hu5 (by simp))
              have HO5 := Lib.hid (HO3.out.upd hu5 (by simp))
              generalize w3.drewN n5 = w5 at *
              clear hu5 HS3 HVA3 HO3 HPA hcut
              go_wp2_with fail
              go_loopw [18] (fun i wr => ∃ t : Nat, t ≤ (aa.length - A) ∧ i = .int .i64 t ∧ Hid (∀ g, a3 = some ⟨g, 0, none⟩ → (∀ u, t ≤ u → u < (aa.length - A) → ∃ x : UInt8, wr.cell? ⟨g, u, none⟩ = some (bv x)) ∧ ∀ u, wr.frozen? ⟨g, u, none⟩ = false) ∧ Hid (Upd (blk (.slice a3 (aa.length - A) c3)) w5 wr)) (fun i _ => (aa.length - A) - (intOf i).toNat)
              case atStart =>
                refine ⟨0, Nat.zero_le _, rfl, fun g hg => ?_, Upd.refl _ _⟩
                subst hg
                exact ⟨fun u _ hu => ⟨_, HO5.out.cell u (by rw [HQL.out]; exact hu)⟩, fun u => HO5.out.frozen u⟩
              case round =>
                obtain ⟨t, ht, rfl, hcl, hu6⟩ := hrel
                by_cases htl : t < (aa.length - A)
                · obtain ⟨g3, rfl⟩ : ∃ g3, a3 = some ⟨g3, 0, none⟩ := HA3.out.resolve_left (by omega)
                  obtain ⟨hcl1, hfz⟩ := hcl.out g3 rfl
                  obtain ⟨x, hx⟩ := hcl1 t (Nat.le_refl _) htl
                  have f0 := hfz t
                  have p5 : (0 : Int) ≤ t := by omega
                  have p6 : (t : Int) < ((aa.length - A : Nat) : Int) := by omega
                  have HCL : Hid (∀ V, ∀ g, (some (⟨g3, 0, none⟩ : Addr)) = some ⟨g, 0, none⟩ → (∀ u, t + 1 ≤ u → u < (aa.length - A) → ∃ x : UInt8, (wr.setCell ⟨g3, t, none⟩ V).cell? ⟨g, u, none⟩ = some (bv x)) ∧ ∀ u, (wr.setCell ⟨g3, t, none⟩ V).frozen? ⟨g, u, none⟩ = false) := fun V g hg => by
                    injection hg with hg; injection hg with hg
                    subst hg
                    refine ⟨fun u h1 h2 => ?_, fun u => by rw [World.frozen?_setCell]; exact hfz u⟩
                    obtain ⟨y, hy⟩ := hcl1 u (by omega) h2
                    exact ⟨y, by rw [World.cell?_setCell_other _ _ _ _ (by intro h; injection h with h1 h2 h3; omega)]; exact hy⟩
                  have HU7 : Hid (∀ V, Upd (blk (.slice (some ⟨g3, 0, none⟩) (aa.length - A) c3)) w5 (wr.setCell ⟨g3, t, none⟩ V)) := fun V => hu6.out.setCell _ _ (.inl (by simp [blk]))
                  clear hcl hcl1 hfz hu6
                  go_wp2_with fail
                  go_roundw
                  case rel => exact ⟨t + 1, by omega, by go_num, HCL.out _, HU7.out _⟩
                  case measure => simp [intOf]; omega
                · obtain rfl : (aa.length - A) = t := by omega
                  have HS6 := Lib.hid (HS5.out.upd hu6.out (fun x hx h => HAP3.out x h hx) HGE3.out)
                  have HVA6 := Lib.hid (HVA5.out.upd hu6.out HAPV.out)
                  clear hcl hu6 HS5 HVA5 HO5
                  go_wp2_with fail
                  go_roundw
                  case rel => exact ⟨j + 1, A + (aa.length - A), G3, [((1 : Int), ((A + (aa.length - A) : Nat) : Int))], by omega, by omega, by go_num, by go_num, by go_num, by omega, .inr rfl, HS6, HVA6, HAPG⟩
                  case measure => simp [intOf]; omega
          · have HV1 := Lib.hid htk.get
            clear htk
            rcases hend2 with ⟨hje, h30⟩ | ⟨hje, hjl2⟩
            · have r1 : ¬ (j : Int) < reads.length := by omega
              clear h30
              go_wp2_with fail
              (with_reducible refine (yTakenD 1 (A : Int) (i64_s 1 (by omega) (by omega)) hs.out HTL.out HV1.out).mono ?_)
              rintro e w3 ⟨rfl, hu3⟩
              have HU3 := Lib.hid (hs.out.old.trans hu3 (fun _ hx => hx) (by simp))
              clear hu3 hs hva hap
              go_wp2_with fail
              (with_reducible refine (yardRuns_any _).mono ?_)
              rintro e w4 ⟨rfl, hu4⟩
              have HU4 := Lib.hid (HU3.out.trans hu4 (fun _ hx => hx) (by simp))
              clear hu4
              go_wp2_with fail
              go_ret
              exact ⟨rfl, HU4.out⟩
            · have r1 : (j : Int) < reads.length := by omega
              have r2 : ¬ (j : Int) < 30 := by omega
              go_wp2_with fail
              (with_reducible refine (yTakenD 1 (A : Int) (i64_s 1 (by omega) (by omega)) hs.out HTL.out HV1.out).mono ?_)
              rintro e w3 ⟨rfl, hu3⟩
              have HU3 := Lib.hid (hs.out.old.trans hu3 (fun _ hx => hx) (by simp))
              clear hu3 hs hva hap
              go_wp2_with fail
              (with_reducible refine (yardRuns_any _).mono ?_)
              rintro e w4 ⟨rfl, hu4⟩
              have HU4 := Lib.hid (HU3.out.trans hu4 (fun _ hx => hx) (by simp))
              clear hu4
              go_wp2_with fail
              go_ret
              exact ⟨rfl, HU4.out⟩
      · have q1 : (k : Int) < vs.length := by omega
        have q2 : ¬ (k : Int) < 15 := by omega
        obtain ⟨ao, co, rfl, hco, hcom, -⟩ := hva.out.rd
        have hcom' : co ≤ 9223372036854775807 := by unfold maxLen at hcom; omega
        have hal' : aa.length ≤ 4500 := by omega
        clear hcom
        go_wp2_with fail
        go_loopw [11, 12, 13] (fun vt vk i wr => ∃ (j A : Nat) (G : List Nat) (tk : List (Int × Int)), j ≤ 30 ∧ j ≤ reads.length ∧ vt = .int .i64 A ∧ vk = .int .i64 A ∧ i = .int .i64 j ∧ A ≤ aa.length ∧ TK tk A ∧ Hid (YD w wr gy G [(1, (sF, aa))] tk) ∧ Hid (Own bv w.heap.size 5 wr (.slice ao aa.length co) aa) ∧ Hid (Ap (blk (.slice ao aa.length co)) G)) (fun _ _ i _ => 30 - (intOf i).toNat)
        case atStart => exact ⟨0, 0, G, [], by omega, by omega, rfl, rfl, rfl, by omega, .inl ⟨rfl, rfl⟩, hs, hva, hap⟩
        case round =>
          clear hs hva hap
          obtain ⟨j, A, G, tk, hj, hjl, rfl, rfl, rfl, hA, htk, hs, hva, hap⟩ := hrel
          have HIA : Hid (I64 (A : Int)) := ⟨by omega, by omega⟩
          have HTL : Hid (tk.length ≤ 50000) := by have := htk.len; unfold Hid; omega
          have HTB := Lib.hid (htk.bd (by omega))
          have hend2 : (j < reads.length ∧ j < 30) ∨ (j = reads.length ∧ Hid (j ≤ 30)) ∨ (j = 30 ∧ j < reads.length) := by unfold Hid; omega
          rcases hend2 with ⟨hlt2, h30⟩ | hend2
          · obtain ⟨b2, off2, rfl, hc2⟩ := HC2.out (by intro h; simp [h] at hlt2)
            have c0 : wr.cell? ⟨b2, off2 + j, none⟩ = some (.int .i64 (nth reads j)) := hs.out.old.cell (hc2 j hlt2) (by simp)
            have HX : Hid (-9223372036854775808 ≤ nth reads j ∧ nth reads j ≤ 9223372036854775807) := HRI.out _ (by rw [nth_get _ _ hlt2]; exact List.getElem_mem _)
            generalize nth reads j = x at *
            obtain ⟨n1, n2⟩ := within_in x 0 200 (by omega)
            obtain ⟨n, hn⟩ := Int.eq_ofNat_of_zero_le n1
            rw [hn] at n2
            have HWN := Lib.hid hn
            have HIN : Hid (I64 (n : Int)) := ⟨by omega, by omega⟩
            have r1 : (j : Int) < reads.length := by omega
            have r2 : (j : Int) < 30 := by omega
            clear hc2 hn n1
            go_wp2_with fail
            (with_reducible refine (within_any _ _ _ _ HX.out (by omega) (by omega) (by omega)).mono ?_)
            rintro e w' ⟨rfl, rfl⟩
            rw [HWN.out]
            obtain ⟨M, hM⟩ : ∃ M, (M = n ∧ A + n ≤ aa.length) ∨ (M = aa.length - A ∧ aa.length < A + n) := by
              by_cases hq : A + n ≤ aa.length
              · exact ⟨n, .inl ⟨rfl, hq⟩⟩
              · exact ⟨aa.length - A, .inr ⟨rfl, by omega⟩⟩
            have HRQ := Lib.hid (htk.read n M sF hA hM)
            rcases hM with hM | hM
            · obtain ⟨hM, hMl⟩ := hM
              have hM := hM.symm
              subst hM
              have HYR := Lib.hid HRQ.out.1
              have HQL := Lib.hid HRQ.out.2
              have m1 : (A : Int) + n ≤ aa.length := by omega
              obtain ⟨D, hD, hcut⟩ : ∃ D : Option Addr, D = (if co = A then ao else ao.map (·.add A)) ∧ ∀ W, (Instr.slice 27 (.slice ao aa.length co) (some (.int .i64 (A : Int))) (some (.int .i64 ((A : Int) + n))) none).run Try.prog W = .ok (.slice D n (co - A)) W :=
                ⟨_, rfl, fun W => by have h := run_cut_lh (P := Try.prog) (size := 1) Try.underlying27 (by kernel_rfl) ao aa.length co A (A + n) (by omega) (by omega) W (A : Int) ((A : Int) + n) rfl (by omega); rw [show A + n - A = n by omega, Nat.mul_one] at h; exact h⟩
              have HPA : Hid (∀ W, Own bv w.heap.size 5 W (.slice ao aa.length co) aa → Bytes W (.slice D n (co - A)) ((aa.drop A).take n)) := fun W hW => by rw [hD]; exact (hW.rd.drop A hA).take _ (by rw [List.length_drop]; omega)
              generalize (aa.drop A).take n = q at *
              clear hD hMl HRQ
              go_wp2_with fail
              (with_reducible refine (yRead_any 1 (A : Int) (n : Int) (i64_s 1 (by omega) (by omega)) HIA.out HIN.out hs.out HTL.out HTB.out).mono ?_)
              rw [HYR.out]
              rintro e w3 ⟨v3, rfl, ho3, G3, h3, hu3, hf3, hap3⟩
              obtain ⟨a3, c3, rfl, h3c, h3m, -⟩ := ho3.rd
              have h3m' : c3 ≤ 9223372036854775807 := by unfold maxLen at h3m; omega
              have HO3 := Lib.hid (show Own bv wr.heap.size 5 w3 (.slice a3 q.length c3) q from ho3)
              have HS3 : Hid (YD w w3 gy G3 [(1, (sF, aa))] [((1 : Int), ((A + n : Nat) : Int))]) := h3
              have HVA3 := Lib.hid (hva.out.upd hu3 hap.out)
              have HAP3 := Lib.hid hap3
              have hszr := hs.out.old.size
              have HGE3 : Hid (∀ x ∈ blk (.slice a3 q.length c3), w.heap.size ≤ x) := fun x hx => by have := (ho3.ge x hx).1; omega
              have HAPV : Hid (Ap (blk (.slice ao aa.length co)) (blk (.slice a3 q.length c3))) := fun x hx hx3 => by
                have h1 := (ho3.ge x hx3).1
                have h2 := (hva.out.ge x hx).2
                omega
              have HAPG : Hid (Ap (blk (.slice ao aa.length co)) G3) := fun x hx hG => by
                rcases hf3 _ hG with r | r
                · exact hap.out x hx r
                · have := (hva.out.ge x hx).2; omega
              rw [HQL.out] at HO3 HAP3 HGE3 HAPV h3c
              have HA3 : Hid (n = 0 ∨ ∃ g3, a3 = some ⟨g3, 0, none⟩) := by
                by_cases hn0 : q = []
                · exact .inl (by have := HQL.out; rw [hn0] at this; simpa using this.symm)
                · obtain ⟨g3, cc, he, -⟩ := ho3.form0 hn0
                  injection he with e1 e2 e3
                  exact .inr ⟨g3, e1⟩
              clear h3 hu3 hf3 hap3 ho3 hs hva hap c0 HYR h3m
              rw [HQL.out]
              go_wp2_with fail
              (with_reducible refine (sameByte_ok _ _ q _ HO3.out.rd (HPA.out _ HVA3.out)).mono ?_)
              rintro e w5 ⟨rfl, n5, rfl⟩
              have hu5 := (Upd.refl [] w3).drewN n5
              have HS5 := Lib.hid (HS3.out.upd0 hu5)
              have HVA5 := Lib.hid (HVA3.out.upd hu5 (by simp))
              have HO5 := Lib.hid (HO3.out.upd hu5 (by simp))
              generalize w3.drewN n5 = w5 at *
              clear hu5 HS3 HVA3 HO3 HPA hcut
              go_wp2_with fail
              go_loopw [18] (fun i wr => ∃ t : Nat, t ≤ n ∧ i = .int .i64 t ∧ Hid (∀ g, a3 = some ⟨g, 0, none⟩ → (∀ u, t ≤ u → u < n → ∃ x : UInt8, wr.cell? ⟨g, u, none⟩ = some (bv x)) ∧ ∀ u, wr.frozen? ⟨g, u, none⟩ = false) ∧ Hid (Upd (blk (.slice a3 n c3)) w5 wr)) (fun i _ => n - (intOf i).toNat)
              case atStart =>
                refine ⟨0, Nat.zero_le _, rfl, fun g hg => ?_, Upd.refl _ _⟩
                subst hg
                exact ⟨fun u _ hu => ⟨_, HO5.out.cell u (by rw [HQL.out]; exact hu)⟩, fun u => HO5.out.frozen u⟩
              case round =>
                obtain ⟨t, ht, rfl, hcl, hu6⟩ := hrel
                by_cases htl : t < n
                · obtain ⟨g3, rfl⟩ : ∃ g3, a3 = some ⟨g3, 0, none⟩ := HA3.out.resolve_left (by omega)
                  obtain ⟨hcl1, hfz⟩ := hcl.out g3 rfl
                  obtain ⟨x, hx⟩ := hcl1 t (Nat.le_refl _) htl
                  have f0 := hfz t
                  have p5 : (0 : Int) ≤ t := by omega
                  have p6 : (t : Int) < n := by omega
                  have HCL : Hid (∀ V, ∀ g, (some (⟨g3, 0, none⟩ : Addr)) = some ⟨g, 0, none⟩ → (∀ u, t + 1 ≤ u → u < n → ∃ x : UInt8, (wr.setCell ⟨g3, t, none⟩ V).cell? ⟨g, u, none⟩ = some (bv x)) ∧ ∀ u, (wr.setCell ⟨g3, t, none⟩ V).frozen? ⟨g, u, none⟩ = false) := fun V g hg => by
                    injection hg with hg; injection hg with hg
                    subst hg
                    refine ⟨fun u h1 h2 => ?_, fun u => by rw [World.frozen?_setCell]; exact hfz u⟩
                    obtain ⟨y, hy⟩ := hcl1 u (by omega) h2
                    exact ⟨y, by rw [World.cell?_setCell_other _ _ _ _ (by intro h; injection h with h1 h2 h3; omega)]; exact hy⟩
                  have HU7 : Hid (∀ V, Upd (blk (.slice (some ⟨g3, 0, none⟩) n c3)) w5 (wr.setCell ⟨g3, t, none⟩ V)) := fun V => hu6.out.setCell _ _ (.inl (by simp [blk]))
                  clear hcl hcl1 hfz hu6
                  go_wp2_with fail
                  go_roundw
                  case rel => exact ⟨t + 1, by omega, by go_num, HCL.out _, HU7.out _⟩
                  case measure => simp [intOf]; omega
                · obtain rfl : n = t := by omega
                  have HS6 := Lib.hid (HS5.out.upd hu6.out (fun x hx h => HAP3.out x h hx) HGE3.out)
                  have HVA6 := Lib.hid (HVA5.out.upd hu6.out HAPV.out)
                  clear hcl hu6 HS5 HVA5 HO5
                  go_wp2_with fail
                  go_roundw
                  case rel => exact ⟨j + 1, A + n, G3, [((1 : Int), ((A + n : Nat) : Int))], by omega, by omega, by go_num, by go_num, by go_num, by omega, .inr rfl, HS6, HVA6, HAPG⟩
                  case measure => simp [intOf]; omega
            · obtain ⟨hM, hMl⟩ := hM
              subst hM
              have HYR := Lib.hid HRQ.out.1
              have HQL := Lib.hid HRQ.out.2
              have m1 : (aa.length : Int) < (A : Int) + n := by omega
              obtain ⟨D, hD, hcut⟩ : ∃ D : Option Addr, D = (if co = A then ao else ao.map (·.add A)) ∧ ∀ W, (Instr.slice 27 (.slice ao aa.length co) (some (.int .i64 (A : Int))) (some (.int .i64 (aa.length : Int))) none).run Try.prog W = .ok (.slice D (aa.length - A) (co - A)) W :=
                ⟨_, rfl, fun W => by have h := run_cut_lh (P := Try.prog) (size := 1) Try.underlying27 (by kernel_rfl) ao aa.length co A aa.length (by omega) (by omega) W (A : Int) (aa.length : Int) rfl rfl; rw [Nat.mul_one] at h; exact h⟩
              have HPA : Hid (∀ W, Own bv w.heap.size 5 W (.slice ao aa.length co) aa → Bytes W (.slice D (aa.length - A) (co - A)) ((aa.drop A).take (aa.length - A))) := fun W hW => by rw [hD]; exact (hW.rd.drop A hA).take _ (by rw [List.length_drop]; omega)
              generalize (aa.drop A).take (aa.length - A) = q at *
              clear hD hMl HRQ
              go_wp2_with fail
              (with_reducible refine (yRead_any 1 (A : Int) (n : Int) (i64_s 1 (by omega) (by omega)) HIA.out HIN.out hs.out HTL.out HTB.out).mono ?_)
              rw [HYR.out]
              rintro e w3 ⟨v3, rfl, ho3, G3, h3, hu3, hf3, hap3⟩
              obtain ⟨a3, c3, rfl, h3c, h3m, -⟩ := ho3.rd
              have h3m' : c3 ≤ 9223372036854775807 := by unfold maxLen at h3m; omega
              have HO3 := Lib.hid (show Own bv wr.heap.size 5 w3 (.slice a3 q.length c3) q from ho3)
              have HS3 : Hid (YD w w3 gy G3 [(1, (sF, aa))] [((1 : Int), ((A + (aa.length - A) : Nat) : Int))]) := h3
              have HVA3 := Lib.hid (hva.out.upd hu3 hap.out)
              have HAP3 := Lib.hid hap3
              have hszr := hs.out.old.size
              have HGE3 : Hid (∀ x ∈ blk (.slice a3 q.length c3), w.heap.size ≤ x) := fun x hx => by have := (ho3.ge x hx).1; omega
              have HAPV : Hid (Ap (blk (.slice ao aa.length co)) (blk (.slice a3 q.length c3))) := fun x hx hx3 => by
                have h1 := (ho3.ge x hx3).1
                have h2 := (hva.out.ge x hx).2
                omega
              have HAPG : Hid (Ap (blk (.slice ao aa.length co)) G3) := fun x hx hG => by
                rcases hf3 _ hG with r | r
                · exact hap.out x hx r
                · have := (hva.out.ge x hx).2; omega
              rw [HQL.out] at HO3 HAP3 HGE3 HAPV h3c
              have HA3 : Hid ((aa.length - A) = 0 ∨ ∃ g3, a3 = some ⟨g3, 0, none⟩) := by
                by_cases hn0 : q = []
                · exact .inl (by have := HQL.out; rw [hn0] at this; simpa using this.symm)
                · obtain ⟨g3, cc, he, -⟩ := ho3.form0 hn0
                  injection he with e1 e2 e3
                  exact .inr ⟨g3, e1⟩
              clear h3 hu3 hf3 hap3 ho3 hs hva hap c0 HYR h3m
              rw [HQL.out]
              go_wp2_with fail
              (with_reducible refine (sameByte_ok _ _ q _ HO3.out.rd (HPA.out _ HVA3.out)).mono ?_)
              rintro e w5 ⟨rfl, n5, rfl⟩
              have hu5 := (Upd.refl [] w3).drewN n5
              have HS5 := Lib.hid (HS3.out.upd0 hu5)
              have HVA5 := Lib.hid (HVA3.out.upd hu5 (by simp))
              have HO5 := Lib.hid (HO3.out.upd hu5 (by simp))
              generalize w3.drewN n5 = w5 at *
              clear hu5 HS3 HVA3 HO3 HPA hcut
              go_wp2_with fail
              go_loopw [18] (fun i wr => ∃ t : Nat, t ≤ (aa.length - A) ∧ i = .int .i64 t ∧ Hid (∀ g, a3 = some ⟨g, 0, none⟩ → (∀ u, t ≤ u → u < (aa.length - A) → ∃ x : UInt8, wr.cell? ⟨g, u, none⟩ = some (bv x)) ∧ ∀ u, wr.frozen? ⟨g, u, none⟩ = false) ∧ Hid (Upd (blk (.slice a3 (aa.length - A) c3)) w5 wr)) (fun i _ => (aa.length - A) - (intOf i).toNat)
              case atStart =>
                refine ⟨0, Nat.zero_le _, rfl, fun g hg => ?_, Upd.refl _ _⟩
                subst hg
                exact ⟨fun u _ hu => ⟨_, HO5.out.cell u (by rw [HQL.out]; exact hu)⟩, fun u => HO5.out.frozen u⟩
              case round =>
                obtain ⟨t, ht, rfl, hcl, hu6⟩ := hrel
                by_cases htl : t < (aa.length - A)
                · obtain ⟨g3, rfl⟩ : ∃ g3, a3 = some ⟨g3, 0, none⟩ := HA3.out.resolve_left (by omega)
                  obtain ⟨hcl1, hfz⟩ := hcl.out g3 rfl
                  obtain ⟨x, hx⟩ := hcl1 t (Nat.le_refl _) htl
                  have f0 := hfz t
                  have p5 : (0 : Int) ≤ t := by omega
                  have p6 : (t : Int) < ((aa.length - A : Nat) : Int) := by omega
                  have HCL : Hid (∀ V, ∀ g, (some (⟨g3, 0, none⟩ : Addr)) = some ⟨g, 0, none⟩ → (∀ u, t + 1 ≤ u → u < (aa.length - A) → ∃ x : UInt8, (wr.setCell ⟨g3, t, none⟩ V).cell? ⟨g, u, none⟩ = some (bv x)) ∧ ∀ u, (wr.setCell ⟨g3, t, none⟩ V).frozen? ⟨g, u, none⟩ = false) := fun V g hg => by
                    injection hg with hg; injection hg with hg
                    subst hg
                    refine ⟨fun u h1 h2 => ?_, fun u => by rw [World.frozen?_setCell]; exact hfz u⟩
                    obtain ⟨y, hy⟩ := hcl1 u (by omega) h2
                    exact ⟨y, by rw [World.cell?_setCell_other _ _ _ _ (by intro h; injection h with h1 h2 h3; omega)]; exact hy⟩
                  have HU7 : Hid (∀ V, Upd (blk (.slice (some ⟨g3, 0, none⟩) (aa.length - A) c3)) w5 (wr.setCell ⟨g3, t, none⟩ V)) := fun V => hu6.out.setCell _ _ (.inl (by simp [blk]))
                  clear hcl hcl1 hfz hu6
                  go_wp2_with fail
                  go_roundw
                  case rel => exact ⟨t + 1, by omega, by go_num, HCL.out _, HU7.out _⟩
                  case measure => simp [intOf]; omega
                · obtain rfl : (aa.length - A) = t := by omega
                  have HS6 := Lib.hid (HS5.out.upd hu6.out (fun x hx h => HAP3.out x h hx) HGE3.out)
                  have HVA6 := Lib.hid (HVA5.out.upd hu6.out HAPV.out)
                  clear hcl hu6 HS5 HVA5 HO5
                  go_wp2_with fail
                  go_roundw
                  case rel => exact ⟨j + 1, A + (aa.length - A), G3, [((1 : Int), ((A + (aa.length - A) : Nat) : Int))], by omega, by omega, by go_num, by go_num, by go_num, by omega, .inr rfl, HS6, HVA6, HAPG⟩
                  case measure => simp [intOf]; omega
          · have HV1 := Lib.hid htk.get
            clear htk
            rcases hend2 with ⟨hje, h30⟩ | ⟨hje, hjl2⟩
            · have r1 : ¬ (j : Int) < reads.length := by omega
              clear h30
              go_wp2_with fail
              (with_reducible refine (yTakenD 1 (A : Int) (i64_s 1 (by omega) (by omega)) hs.out HTL.out HV1.out).mono ?_)
              rintro e w3 ⟨rfl, hu3⟩
              have HU3 := Lib.hid (hs.out.old.trans hu3 (fun _ hx => hx) (by simp))
              clear hu3 hs hva hap
              go_wp2_with fail
              (with_reducible refine (yardRuns_any _).mono ?_)
              rintro e w4 ⟨rfl, hu4⟩
              have HU4 := Lib.hid (HU3.out.trans hu4 (fun _ hx => hx) (by simp))
              clear hu4
              go_wp2_with fail
              go_ret
              exact ⟨rfl, HU4.out⟩
            · have r1 : (j : Int) < reads.length := by omega
              have r2 : ¬ (j : Int) < 30 := by omega
              go_wp2_with fail
              (with_reducible refine (yTakenD 1 (A : Int) (i64_s 1 (by omega) (by omega)) hs.out HTL.out HV1.out).mono ?_)
              rintro e w3 ⟨rfl, hu3⟩
              have HU3 := Lib.hid (hs.out.old.trans hu3 (fun _ hx => hx) (by simp))
              clear hu3 hs hva hap
              go_wp2_with fail
              (with_reducible refine (yardRuns_any _).mono ?_)
              rintro e w4 ⟨rfl, hu4⟩
              have HU4 := Lib.hid (HU3.out.trans hu4 (fun _ hx => hx) (by simp))
              clear hu4
              go_wp2_with fail
              go_ret
              exact ⟨rfl, HU4.out⟩
end Go.Proofs.Ytmhdhnipljonlaa
namespace Go.Proofs.Ytmhdhnipljonlaa
open Go.RowKit
set_option linter.unusedSimpArgs false
set_option linter.unusedVariables false
def First (a : ByteArray) (d : List UInt8) (fl : FL) : Prop := ∃ rest, fl = (1, (a, d)) :: rest
section
variable {ν : Type} [Inhabited ν]
omit [Inhabited ν] in
theorem below_cons (p : Int × ν) (l : List (Int × ν)) (k : Int) (h : p.1 < k) : below ltY (p :: l) k = below ltY l k + 1 := by
  unfold below; rw [List.takeWhile_cons]; simp [h]
theorem isIn_cons (p : Int × ν) (l : List (Int × ν)) (k : Int) (h : p.1 < k) : isIn ltY (p :: l) k = isIn ltY l k := by
  unfold isIn; rw [below_cons p l k h, nth_cons_succ]; simp
theorem set_cons (p : Int × ν) (l : List (Int × ν)) (k : Int) (v : ν) (h : p.1 < k) : tSet ltY (p :: l) k v = p :: tSet ltY l k v := by
  unfold tSet; rw [isIn_cons p l k h, below_cons p l k h, List.take_succ_cons, Nat.add_right_comm, List.drop_succ_cons]; rfl
theorem del_cons (p : Int × ν) (l : List (Int × ν)) (k : Int) (h : p.1 < k) : tDel ltY (p :: l) k = p :: tDel ltY l k := by
  unfold tDel; rw [isIn_cons p l k h, below_cons p l k h, List.take_succ_cons, List.drop_succ_cons]
  cases isIn ltY l k <;> rfl
omit [Inhabited ν] in
theorem below_hd (v : ν) (l : List (Int × ν)) : below ltY (((1 : Int), v) :: l) 1 = 0 := by unfold below; rw [List.takeWhile_cons]; simp
theorem isIn_hd (v : ν) (l : List (Int × ν)) : isIn ltY (((1 : Int), v) :: l) 1 = true := by unfold isIn; rw [below_hd]; simp [nth_cons_zero]
theorem set_hd (v u : ν) (l : List (Int × ν)) : tSet ltY (((1 : Int), v) :: l) 1 u = (1, u) :: l := by unfold tSet; rw [isIn_hd, below_hd]; rfl
end
section
variable {a s t : ByteArray} {d p : List UInt8} {fl : FL}
theorem first_find (rest : FL) : findN ((1, (a, d)) :: rest) a = 0 := by unfold findN; rw [List.takeWhile_cons]; simp
theorem first_has (rest : FL) : hasN ((1, (a, d)) :: rest) a = true := by unfold hasN; rw [first_find]; simp
theorem first_ino (rest : FL) : inoN ((1, (a, d)) :: rest) a = 1 := by unfold inoN; rw [first_find]; rfl
theorem first_bytes (rest : FL) : bytesN ((1, (a, d)) :: rest) a = d := by unfold bytesN; rw [first_find]; rfl
theorem First.ino_gt (h : First a d fl) (hr : Rising ltY fl) (hs : hasN fl s = true) (hne : s ≠ a) : 1 < inoN fl s := by
  obtain ⟨rest, rfl⟩ := h
  have e : findN ((1, (a, d)) :: rest) s = findN rest s + 1 := by
    unfold findN; rw [List.takeWhile_cons]; simp [Ne.symm hne]
  have hl : findN ((1, (a, d)) :: rest) s < ((1, (a, d)) :: rest).length := by unfold hasN at hs; exact of_decide_eq_true hs
  have h1 := hr 0 (findN ((1, (a, d)) :: rest) s) (by omega) hl
  rw [nth_cons_zero] at h1
  unfold inoN
  exact of_decide_eq_true h1
theorem First.ino_ge (h : First a d fl) (hr : Rising ltY fl) (hs : hasN fl s = true) : inoN fl s = 1 ∨ 1 < inoN fl s := by
  by_cases hne : s = a
  · subst hne
    obtain ⟨rest, rfl⟩ := h
    exact .inl (first_ino rest)
  · exact .inr (h.ino_gt hr hs hne)
theorem First.set (h : First a d fl) (k : Int) (v : ByteArray × List UInt8) (hk : 1 < k) : First a d (tSet ltY fl k v) := by
  obtain ⟨rest, rfl⟩ := h
  exact ⟨_, set_cons _ _ _ _ hk⟩
theorem First.del (h : First a d fl) (k : Int) (hk : 1 < k) : First a d (tDel ltY fl k) := by
  obtain ⟨rest, rfl⟩ := h
  exact ⟨_, del_cons _ _ _ hk⟩
theorem First.create (h : First a d fl) (hr : Rising ltY fl) (s : ByteArray) : First a d (yCreate fl s).2 := by
  unfold yCreate
  split
  · split
    · exact h
    · split
      · exact h
      · refine h.set _ _ ?_
        obtain ⟨k, hk, he, hn, -⟩ := freeIno_spec hr
        rw [he]
        rcases Nat.eq_zero_or_pos k with rfl | hp
        · obtain ⟨rest, rfl⟩ := h
          have := isIn_hd (a, d) rest
          rw [show (((0 : Nat) : Int) + 1) = 1 from rfl, this] at hn
          exact absurd hn (by simp)
        · omega
  · exact h
theorem First.append (h : First a d fl) (hr : Rising ltY fl) (s : ByteArray) (p : List UInt8) (hne : s ≠ a) : First a d (yAppend fl s p).2 := by
  unfold yAppend
  split
  · rename_i hs
    split
    · exact h
    · exact h.set _ _ (h.ino_gt hr hs hne)
  · exact h
theorem First.remove (h : First a d fl) (hr : Rising ltY fl) (s : ByteArray) (hne : s ≠ a) : First a d (yRemove fl s).2 := by
  unfold yRemove
  split
  · rename_i hs
    exact h.del _ (h.ino_gt hr hs hne)
  · exact h
theorem First.rename (h : First a d fl) (hr : Rising ltY fl) (t : ByteArray) : ((yRename fl a t).1 = 0 ∧ First t d (yRename fl a t).2) ∨ ((yRename fl a t).1 = 14 ∧ First a d (yRename fl a t).2) := by
  unfold yRename
  split
  · left
    have h1 : hasN fl a = true ∧ inoN fl a = 1 ∧ bytesN fl a = d := by
      obtain ⟨rest, rfl⟩ := h
      exact ⟨first_has rest, first_ino rest, first_bytes rest⟩
    obtain ⟨e1, e2, e3⟩ := h1
    rw [e1, e2, e3, if_pos rfl]
    refine ⟨rfl, ?_⟩
    have h2 : First a d (if hasN fl t && decide (inoN fl t ≠ 1) then tDel ltY fl (inoN fl t) else fl) := by
      split
      · rename_i hq
        simp only [Bool.and_eq_true, decide_eq_true_eq] at hq
        rcases h.ino_ge hr hq.1 with q | q
        · exact absurd q hq.2
        · exact h.del _ q
      · exact h
    obtain ⟨rest, he⟩ := h2
    show First t d (tSet ltY (if hasN fl t && decide (inoN fl t ≠ 1) then tDel ltY fl (inoN fl t) else fl) 1 (t, d))
    rw [he]
    exact ⟨rest, set_hd _ _ _⟩
  · exact .inr ⟨rfl, h⟩
theorem First.tell (h : First a d fl) : yFindF fl a = ((1, a, (d.length : Int)), true) := by
  obtain ⟨rest, rfl⟩ := h
  unfold yFindF; rw [first_has, first_find]; rfl
theorem First.read (h : First a d fl) {tk : List (Int × Int)} {A : Nat} (ht : TK tk A) (hd : d.length ≤ 65536) : yRead fl tk 1 0 65536 = ((d, 0), [((1 : Int), ((A + d.length : Nat) : Int))]) := by
  obtain ⟨rest, rfl⟩ := h
  have e : (((nth (((1 : Int), (a, d)) :: rest) 0).2.2.drop (0 : Int).toNat).take (65536 : Int).toNat) = d := by
    rw [nth_cons_zero]
    exact List.take_of_length_le (by simp; omega)
  unfold yRead
  rw [isIn_hd, below_hd, if_pos rfl, if_neg (by omega), e, ht.set, ht.get]
  rfl
end
end Go.Proofs.Ytmhdhnipljonlaa
namespace Go.Proofs.Ytmhdhnipljonlaa
open Go.RowKit
set_option linter.unusedSimpArgs false
set_option linter.unusedVariables false
def UN (fl : FL) : Prop := ∀ p ∈ fl, ∀ q ∈ fl, p.2.1 = q.2.1 → p.1 = q.1
section
variable {fl : FL} {s t : ByteArray}
theorem UN.nil : UN [] := fun p hp => by simp at hp
theorem no_name (h : hasN fl s = false) : ∀ p ∈ fl, p.2.1 ≠ s := by
  intro p hp
  obtain ⟨i, hi, rfl⟩ := List.mem_iff_getElem.1 hp
  have h1 : ¬ findN fl s < fl.length := by unfold hasN at h; exact of_decide_eq_false h
  have := findN_lt fl s i (by omega)
  rwa [nth_get _ i hi] at this
theorem has_at (h : hasN fl s = true) : nth fl (findN fl s) ∈ fl ∧ (nth fl (findN fl s)).2.1 = s := by
  have h1 : findN fl s < fl.length := by unfold hasN at h; exact of_decide_eq_true h
  exact ⟨by rw [nth_get _ _ h1]; exact List.getElem_mem _, findN_at fl s h1⟩
theorem UN.ino (hu : UN fl) (h : hasN fl s = true) (q : Int × (ByteArray × List UInt8)) (hq : q ∈ fl) (hn : q.2.1 = s) : q.1 = inoN fl s := by
  obtain ⟨h1, h2⟩ := has_at h
  exact hu q hq _ h1 (by rw [hn, h2])
theorem UN.sub {fl' : FL} (hu : UN fl) (h : ∀ p ∈ fl', p ∈ fl) : UN fl' := fun p hp q hq he => hu p (h p hp) q (h q hq) he
theorem UN.set (hu : UN fl) (hr : Rising ltY fl) (k : Int) (v : ByteArray × List UInt8) (h : ∀ q ∈ fl, q.1 ≠ k → q.2.1 ≠ v.1) : UN (tSet ltY fl k v) := by
  intro p hp q hq he
  rcases tSet_memk hr k v p hp with rfl | ⟨hp1, hp2⟩
  · rcases tSet_memk hr k v q hq with rfl | ⟨hq1, hq2⟩
    · rfl
    · exact absurd he.symm (h q hq1 hq2)
  · rcases tSet_memk hr k v q hq with rfl | ⟨hq1, hq2⟩
    · exact absurd he (h p hp1 hp2)
    · exact hu p hp1 q hq1 he
theorem tDel_sub {ν : Type} [Inhabited ν] (l : List (Int × ν)) (k : Int) : ∀ p ∈ tDel ltY l k, p ∈ l := by
  intro p hp
  unfold tDel at hp
  split at hp
  · rcases List.mem_append.1 hp with h | h
    · exact List.mem_of_mem_take h
    · exact List.mem_of_mem_drop h
  · exact hp
theorem UN.create (hu : UN fl) (hr : Rising ltY fl) (s : ByteArray) : UN (yCreate fl s).2 := by
  unfold yCreate
  split
  · split
    · exact hu
    · rename_i hs
      split
      · exact hu
      · exact hu.set hr _ _ (fun q hq _ => no_name (by simpa using hs) q hq)
  · exact hu
theorem UN.append (hu : UN fl) (hr : Rising ltY fl) (s : ByteArray) (p : List UInt8) : UN (yAppend fl s p).2 := by
  unfold yAppend
  split
  · rename_i hs
    split
    · exact hu
    · exact hu.set hr _ _ (fun q hq hne hn => hne (hu.ino hs q hq hn))
  · exact hu
theorem UN.remove (hu : UN fl) (s : ByteArray) : UN (yRemove fl s).2 := by
  unfold yRemove
  split
  · exact hu.sub (tDel_sub _ _)
  · exact hu
theorem UN.rename (hu : UN fl) (hr : Rising ltY fl) (s t : ByteArray) : UN (yRename fl s t).2 := by
  unfold yRename
  split
  · split
    · rename_i hs
      split
      · rename_i hq
        simp only [Bool.and_eq_true, decide_eq_true_eq] at hq
        refine (hu.sub (tDel_sub _ _)).set (hr.del intOrd _) _ _ (fun q hqm hne hn => ?_)
        obtain ⟨h1, h2⟩ := tDel_memk hr _ q hqm
        have h3 := hu.ino hq.1 q h1 hn
        exact h2 (by rw [← h3]; exact isIn_mem hr _ h1) h3
      · rename_i hq
        refine hu.set hr _ _ (fun q hqm hne hn => ?_)
        cases ht : hasN fl t with
        | false => exact no_name ht q hqm hn
        | true =>
          have h3 := hu.ino ht q hqm hn
          rw [ht] at hq
          simp only [Bool.true_and, decide_eq_true_eq, Decidable.not_not] at hq
          exact hne (h3.trans hq)
    · exact hu
  · exact hu
/-- The free ino, as the loop counts it. -/
structure FreeTo (fl : FL) (i m : Nat) : Prop where
  le : m ≤ i
  all : ∀ j : Nat, j < m → isIn ltY fl ((j : Int) + 1) = true
  no : ∀ j, j < i → (nth fl j).1 ≠ (m : Int) + 1
theorem FreeTo.zero : FreeTo fl 0 0 := ⟨Nat.le_refl _, fun j h => absurd h (by omega), fun j h => absurd h (by omega)⟩
theorem FreeTo.yes {i m : Nat} (h : FreeTo fl i m) (hr : Rising ltY fl) (hi : i < fl.length) (he : (nth fl i).1 = (m : Int) + 1) : FreeTo fl (i + 1) (m + 1) := by
  refine ⟨by have := h.le; omega, fun j hj => ?_, fun j hj => ?_⟩
  · rcases Nat.lt_or_ge j m with q | q
    · exact h.all j q
    · obtain rfl : j = m := by omega
      rw [← he]; exact isIn_at intOrd hr i hi
  · rcases Nat.lt_or_ge j i with q | q
    · have := of_decide_eq_true (hr j i q hi)
      rw [he] at this
      intro hc; rw [hc] at this; omega
    · obtain rfl : j = i := by omega
      rw [he]; omega
theorem FreeTo.no' {i m : Nat} (h : FreeTo fl i m) (he : (nth fl i).1 ≠ (m : Int) + 1) : FreeTo fl (i + 1) m := by
  refine ⟨by have := h.le; omega, h.all, fun j hj => ?_⟩
  rcases Nat.lt_or_ge j i with q | q
  · exact h.no j q
  · obtain rfl : j = i := by omega
    exact he
theorem FreeTo.done {m : Nat} (h : FreeTo fl fl.length m) (hr : Rising ltY fl) : freeIno fl = (m : Int) + 1 := by
  refine freeIno_eq hr m h.all ?_
  cases hh : isIn ltY fl ((m : Int) + 1) with
  | false => rfl
  | true =>
    unfold isIn at hh
    obtain ⟨h1, h2⟩ := of_decide_eq_true hh
    exact absurd h2 (h.no _ h1)
/-- What Find answers at the file with an entry of that name. -/
theorem UN.tell (hu : UN fl) (hr : Rising ltY fl) (p : Int × (ByteArray × List UInt8)) (hp : p ∈ fl) : yFindF fl p.2.1 = (tellF p, true) := by
  have hs : hasN fl p.2.1 = true := by
    cases h : hasN fl p.2.1 with
    | true => rfl
    | false => exact absurd rfl (no_name h p hp)
  obtain ⟨h1, h2⟩ := has_at hs
  have hk := hu _ h1 p hp h2
  have he : nth fl (findN fl p.2.1) = p := by
    obtain ⟨i, hi, hpi⟩ := List.mem_iff_getElem.1 hp
    have hlt : findN fl p.2.1 < fl.length := by unfold hasN at hs; exact of_decide_eq_true hs
    have hpn : nth fl i = p := by rw [nth_get _ _ hi, hpi]
    rcases Nat.lt_trichotomy (findN fl p.2.1) i with q | q | q
    · have := of_decide_eq_true (hr _ _ q hi)
      rw [hpn, hk] at this; omega
    · rw [q]; exact hpn
    · have := of_decide_eq_true (hr _ _ q hlt)
      rw [hpn, hk] at this; omega
  unfold yFindF
  rw [hs, if_pos rfl, he]
theorem find_no (h : hasN fl s = false) : (yFindF fl s).2 = false := by unfold yFindF; rw [h]; rfl
theorem find_yes (h : hasN fl s = true) : (yFindF fl s).2 = true := by unfold yFindF; rw [h]; rfl
theorem set_len {ν : Type} [Inhabited ν] (l : List (Int × ν)) (k : Int) (v : ν) (h : isIn ltY l k = false) : (tSet ltY l k v).length = l.length + 1 := by
  unfold tSet
  rw [h]
  have := below_le (lt := ltY) l k
  simp; omega
theorem set_in {ν : Type} [Inhabited ν] (l : List (Int × ν)) (k : Int) (v : ν) : (k, v) ∈ tSet ltY l k v := by unfold tSet; simp
/-- Create, as the law of the inos asks. -/
theorem create_law (hu : UN fl) (hr : Rising ltY fl) (h12 : fl.length ≤ 12) (s : ByteArray) :
    ((yCreate fl s).1 = 0 ∧ hasN fl s = false ∧ yFindF (yCreate fl s).2 s = ((freeIno fl, s, 0), true) ∧ (yCreate fl s).2.length = fl.length + 1)
    ∨ ((yCreate fl s).1 ≠ 0 ∧ (yCreate fl s).2 = fl ∧ ((yCreate fl s).1 = 9 → fl.length = 12)) := by
  have hc := hu.create hr s
  unfold yCreate at hc ⊢
  split
  · rename_i hok
    rw [if_pos hok] at hc
    split
    · right; exact ⟨show (8 : Int) ≠ 0 by decide, rfl, fun h => absurd h (show ¬ (8 : Int) = 9 by decide)⟩
    · rename_i hs
      rw [if_neg hs] at hc
      split
      · right; exact ⟨show (9 : Int) ≠ 0 by decide, rfl, fun _ => by omega⟩
      · rename_i hl
        rw [if_neg hl] at hc
        left
        obtain ⟨k, hk, he, hn, ha⟩ := freeIno_spec hr
        refine ⟨rfl, by simpa using hs, ?_, set_len _ _ _ (by rw [he]; exact hn)⟩
        have h1 := UN.tell hc (hr.set_ intOrd _ _) _ (set_in fl (freeIno fl) (s, []))
        exact h1
  · right; exact ⟨show (14 : Int) ≠ 0 by decide, rfl, fun h => absurd h (show ¬ (14 : Int) = 9 by decide)⟩
end
end Go.Proofs.Ytmhdhnipljonlaa
namespace Go.Proofs.Ytmhdhnipljonlaa
open Go.RowKit
set_option linter.unusedSimpArgs false
set_option linter.unusedVariables false
/-- What a block holds, and how much it can hold. -/
abbrev KB := Nat → List UInt8 × Nat
abbrev OwnB (base : Nat) (w : World) (x : Nat) (c : List UInt8 × Nat) : Prop := Own bv base 5 w (.slice (some ⟨x, 0, none⟩) c.1.length c.2) c.1
/-- The blocks of B hold what K says. -/
structure Bks (base : Nat) (w : World) (B : List Nat) (K : KB) : Prop where
  own : ∀ x ∈ B, OwnB base w x (K x)
/-- A slice shows bytes of the blocks. -/
structure Sh (B : List Nat) (K : KB) (s : Sl) (l : List UInt8) : Prop where
  n : s.n = l.length
  k : s.n ≤ s.k
  m : s.k ≤ maxLen
  nul : s.a = none → s.k = 0
  ex : l ≠ [] → ∃ b off, s.a = some ⟨b, off, none⟩ ∧ b ∈ B ∧ off + l.length ≤ (K b).1.length ∧ ((K b).1.drop off).take l.length = l
/-- A slice with room behind it is the end of its block. -/
def Gr (B : List Nat) (K : KB) (s : Sl) (l : List UInt8) : Prop := s.n < s.k → ∃ b, s.a = some ⟨b, 0, none⟩ ∧ b ∈ B ∧ K b = (l, s.k)
/-- The block that a slice may grow in. -/
def gb (s : Sl) : List Nat := if s.n < s.k then blk (slv s) else []
/-- More blocks, and more in them. -/
structure Ext (B : List Nat) (K : KB) (B' : List Nat) (K' : KB) : Prop where
  sub : ∀ x ∈ B, x ∈ B'
  pre : ∀ x ∈ B, ∃ t, (K' x).1 = (K x).1 ++ t
section
variable {base : Nat} {w w' : World} {B B' B'' : List Nat} {K K' K'' : KB} {s : Sl} {l : List UInt8}
theorem Ext.refl (B : List Nat) (K : KB) : Ext B K B K := ⟨fun _ h => h, fun _ _ => ⟨[], (List.append_nil _).symm⟩⟩
theorem Ext.trans (h : Ext B K B' K') (k : Ext B' K' B'' K'') : Ext B K B'' K'' :=
  ⟨fun x hx => k.sub x (h.sub x hx), fun x hx => by
    obtain ⟨t, ht⟩ := h.pre x hx
    obtain ⟨u, hu⟩ := k.pre x (h.sub x hx)
    exact ⟨t ++ u, by rw [hu, ht, List.append_assoc]⟩⟩
theorem Bks.upd (h : Bks base w B K) {S : List Nat} (hu : Upd S w w') (hs : ∀ x ∈ B, x ∉ S) : Bks base w' B K :=
  ⟨fun x hx => (h.own x hx).upd hu (fun y hy => by simp [blk] at hy; subst hy; exact hs _ hx)⟩
theorem Bks.ge (h : Bks base w B K) : ∀ x ∈ B, base ≤ x ∧ x < w.heap.size := fun x hx => (h.own x hx).ge x (by simp [blk])
theorem Bks.typ (h : Bks base w B K) : ∀ x ∈ B, ∃ C f, w.heap[x]? = some (.cells C 5 f) := fun x hx => by
  rcases (h.own x hx).2 with ⟨he, _⟩ | ⟨g, cap, cur, he, _, hg, _⟩
  · simp at he
  · injection he with e1 e2 e3; injection e1 with e1; injection e1 with e1 e4; subst e1; exact ⟨_, _, hg⟩
theorem Sh.ext (h : Sh B K s l) (he : Ext B K B' K') : Sh B' K' s l := by
  refine ⟨h.n, h.k, h.m, h.nul, fun hne => ?_⟩
  obtain ⟨b, off, h1, h2, h3, h4⟩ := h.ex hne
  obtain ⟨t, ht⟩ := he.pre b h2
  refine ⟨b, off, h1, he.sub b h2, by rw [ht, List.length_append]; omega, ?_⟩
  rw [ht, List.drop_append_of_le_length (by omega), List.take_append_of_le_length (by rw [List.length_drop]; omega)]
  exact h4
theorem Sh.rd (hB : Bks base w B K) (h : Sh B K s l) : Bytes w (slv s) l := by
  have h1 := h.n
  have h2 := h.k
  have h3 := h.m
  have h4 := h.ex
  obtain ⟨a, n, k⟩ := s
  dsimp only at h1 h2 h3 h4
  subst h1
  refine ⟨a, k, rfl, h2, h3, fun hne => ?_⟩
  obtain ⟨b, off, rfl, hb, h5, h6⟩ := h4 hne
  refine ⟨b, off, rfl, fun j hj => ?_⟩
  obtain ⟨a', k', he, -, -, hc⟩ := (hB.own b hb).rd
  injection he with e1 e2 e3
  subst e1
  obtain ⟨b', off', e4, hc⟩ := hc (fun q => by rw [q] at h5; simp only [List.length_nil] at h5; omega)
  injection e4 with e4; injection e4 with e4 e5; subst e4; subst e5
  have hq := hc (off + j) (by omega)
  rw [Nat.zero_add] at hq
  have hn : nth l j = nth (K b).1 (off + j) := by
    have : nth (((K b).1.drop off).take l.length) j = nth l j := by rw [h6]
    rw [← this, nth_take _ _ _ hj, nth_drop]
  rw [hn]; exact hq
theorem gb_in (hg : Gr B K s l) : ∀ x ∈ gb s, x ∈ B ∧ K x = (l, s.k) ∧ s.a = some ⟨x, 0, none⟩ := by
  intro x hx
  unfold gb at hx
  split at hx
  · rename_i h
    obtain ⟨b, h1, h2, h3⟩ := hg h
    rw [show slv s = .slice s.a s.n s.k from rfl, h1] at hx
    simp [blk] at hx; subst hx
    exact ⟨h2, h3, h1⟩
  · simp at hx
theorem Gr.full (h : s.k ≤ s.n) : Gr B K s l := fun q => absurd q (by omega)
theorem gb_full (h : s.k ≤ s.n) : gb s = [] := by unfold gb; rw [if_neg (by omega)]
theorem Sh.nil : Sh B K ⟨none, 0, 0⟩ [] := ⟨rfl, Nat.le_refl _, Nat.zero_le _, fun _ => rfl, fun h => absurd rfl h⟩
/-- The first bytes, without room behind them. -/
theorem Sh.cut (h : Sh B K s l) (n : Nat) (hn : n ≤ l.length) : Sh B K ⟨s.a, n, n⟩ (l.take n) := by
  have h1 := h.n
  have h2 := h.k
  have h3 := h.m
  refine ⟨by rw [List.length_take]; show n = _; omega, Nat.le_refl _, by show n ≤ _; omega, fun q => by have := h.nul q; show n = 0; omega, fun hne => ?_⟩
  have hl : l ≠ [] := fun q => hne (by rw [q]; simp)
  obtain ⟨b, off, e1, e2, e3, e4⟩ := h.ex hl
  refine ⟨b, off, e1, e2, by rw [List.length_take]; omega, ?_⟩
  rw [List.length_take, Nat.min_eq_left hn, ← e4, List.take_take, Nat.min_eq_left hn]
/-- A new block. -/
theorem Bks.new (hB : Bks base w B K) {w' : World} {v : Value} {l : List UInt8} (ho : Own bv w.heap.size 5 w' v l) (hu : Upd [] w w') (hbase : base ≤ w.heap.size) :
    ∃ s B' K', v = slv s ∧ Bks base w' B' K' ∧ Ext B K B' K' ∧ (∀ x ∈ B', x ∈ B ∨ w.heap.size ≤ x) ∧ Sh B' K' s l ∧ Gr B' K' s l ∧ (∀ x ∈ gb s, w.heap.size ≤ x) ∧ (∀ x ∈ B, K' x = K x) := by
  have ho' := ho
  obtain ⟨h1, h2⟩ := ho'
  rcases h2 with ⟨rfl, hn⟩ | ⟨g, cap, cur, rfl, hb, hg, hc, hm, hs, ht⟩
  · obtain rfl : l = [] := List.eq_nil_of_length_eq_zero hn
    exact ⟨⟨none, 0, 0⟩, B, K, rfl, hB.upd hu (by simp), Ext.refl _ _, fun x hx => .inl hx, Sh.nil, Gr.full (Nat.le_refl _), fun x hx => by rw [gb_full (Nat.le_refl _)] at hx; simp at hx, fun _ _ => rfl⟩
  · have hne : ∀ x ∈ B, x ≠ g := fun x hx q => by have := (hB.ge x hx).2; omega
    have hk : ∀ x ∈ B, (if x = g then (l, cap) else K x) = K x := fun x hx => if_neg (hne x hx)
    refine ⟨⟨some ⟨g, 0, none⟩, l.length, cap⟩, g :: B, fun x => if x = g then (l, cap) else K x, rfl, ⟨fun x hx => ?_⟩, ⟨fun x hx => by simp [hx], fun x hx => ⟨[], by rw [hk x hx, List.append_nil]⟩⟩, fun x hx => ?_, ⟨rfl, hc, hm, fun q => by simp at q, fun _ => ⟨g, 0, rfl, by simp, by simp, by simp⟩⟩, fun _ => ⟨g, rfl, by simp, by simp⟩, fun x hx => ?_, hk⟩
    · rcases List.mem_cons.1 hx with rfl | hx
      · show OwnB base w' x (if x = x then (l, cap) else K x)
        rw [if_pos rfl]; exact ho.base_le hbase
      · show OwnB base w' x (if x = g then (l, cap) else K x)
        rw [hk x hx]; exact (hB.own x hx).upd hu (by simp)
    · rcases List.mem_cons.1 hx with rfl | hx
      · exact .inr hb
      · exact .inl hx
    · unfold gb at hx
      split at hx
      · simp [blk] at hx; omega
      · simp at hx
theorem Gr.keep (h : Gr B K s l) (hs : ∀ x ∈ B, x ∈ B') (hk : ∀ x ∈ B, K' x = K x) : Gr B' K' s l := fun q => by
  obtain ⟨b, h1, h2, h3⟩ := h q
  exact ⟨b, h1, hs b h2, by rw [hk b h2, h3]⟩
/-- Behind an append: the new slice, the blocks, and what becomes of others. -/
def Grew (base : Nat) (w : World) (B : List Nat) (K : KB) (s : Sl) (l : List UInt8) (v' : Value) (w' : World) : Prop :=
  ∃ s' B' K', v' = slv s' ∧ Bks base w' B' K' ∧ Ext B K B' K' ∧ (∀ x ∈ B', x ∈ B ∨ w.heap.size ≤ x) ∧ Sh B' K' s' l ∧ Gr B' K' s' l ∧ Upd B w w' ∧ (∀ s2 l2, Gr B K s2 l2 → Ap (gb s2) (gb s) → Gr B' K' s2 l2 ∧ Ap (gb s2) (gb s'))
theorem infoB8 : (Try.prog.info? 5).map (fun i => (i.zero, i.size, i.bytes)) = some (some (.int .u8 0), 1, 1) := by kernel_rfl
theorem app_step {ty : TypeId} {u : Value} {p : List UInt8} (hB : Bks base w B K) (hs : Sh B K s l) (hg : Gr B K s l) (hp : Bytes w u p) (hne : p ≠ []) (hlen : l.length + p.length ≤ 1000000000) (hbase : base ≤ w.heap.size) :
    ∃ v' w', (Builtin.append_ #[27, 27] ty #[slv s, u]).run Try.prog w = .ok v' w' ∧ Grew base w B K s (l ++ p) v' w' := by
  have hrd := hs.rd hB
  have h1 := hs.n
  have h2 := hs.k
  have h3 := hs.m
  have h4 := hs.nul
  have hmax : l.length + p.length ≤ maxLen := by unfold maxLen; omega
  obtain ⟨i, i1, i2, i3, i4⟩ := info_parts infoB8
  obtain ⟨A, cap, rfl, hle, hcm, hcell0⟩ := hp
  obtain ⟨pb, poff, rfl, hcell⟩ := hcell0 hne
  have hnews : ∀ j u, (p.map bv)[j]? = some u → w.cell? ((⟨pb, poff, none⟩ : Addr).add j) = some u := fun j u hj => by
    rw [add_none]
    rw [List.getElem?_map] at hj
    obtain ⟨x, hx, rfl⟩ := Option.map_eq_some_iff.1 hj
    rw [hcell j (List.getElem?_eq_some_iff.1 hx).1, nth_of p j x hx]
  have hpos : 0 < p.length := List.length_pos_iff.2 hne
  by_cases hroom : l.length + p.length ≤ s.k
  · -- there is room
    obtain ⟨b, hb, hbB, hK⟩ := hg (by omega)
    have hown := hB.own b hbB
    rw [hK] at hown
    obtain ⟨o1, o2⟩ := hown
    rcases o2 with ⟨he, _⟩ | ⟨g, cap', cur, he, hbg, hgc, hnc, hcm', hcs, htk⟩
    · simp at he
    injection he with e1 e2 e3
    injection e1 with e1; injection e1 with e1 e5; subst e1
    dsimp only at e3 hcs htk
    rw [Nat.mul_one] at hcs htk
    have hfit : l.length * i.size + (p.map bv).length ≤ cur.size := by rw [i3, Nat.mul_one, List.length_map, hcs, ← e3]; exact hroom
    have hr := run_append_room (P := Try.prog) w 27 ty 5 i Try.underlying27 i1 b l.length s.k cur hgc ⟨pb, poff, none⟩ p.length cap (p.map bv) (by simp [i3]) hnews (oneCell_map bv_one p) hroom hfit
    rw [i3, Nat.mul_one, List.length_map, htk] at hr
    rw [show slv s = .slice s.a s.n s.k from rfl, hb, h1]
    generalize hys : (l.map bv ++ p.map bv ++ cur.toList.drop (l.length + p.length)).toArray = ys at hr
    have hys2 : ys.toList = (l ++ p).map bv ++ cur.toList.drop (l.length + p.length) := by rw [← hys]; simp
    have hysz : ys.size = s.k := by
      rw [← hys]
      simp only [List.size_toArray, List.length_append, List.length_map, List.length_drop, Array.length_toList, hcs]
      omega
    have hnew : OwnB base (w.setRow b ys) b (l ++ p, s.k) := by
      refine ⟨by simp, .inr ⟨b, s.k, ys, rfl, hbg, setRow_heap w b cur ys _ _ hgc, by simp; omega, h3, by rw [hysz, Nat.mul_one], ?_⟩⟩
      rw [hys2, Nat.mul_one, List.take_append_of_le_length (by simp)]
      exact List.take_of_length_le (by simp)
    have hu : Upd [b] w (w.setRow b ys) := ⟨rfl, rfl, rfl, by simp, fun k _ hk => setRow_other w b k _ (by simpa using hk)⟩
    refine ⟨_, _, hr, ⟨some ⟨b, 0, none⟩, l.length + p.length, s.k⟩, B, fun x => if x = b then (l ++ p, s.k) else K x, rfl, ⟨fun x hx => ?_⟩, ⟨fun _ h => h, fun x hx => ?_⟩, fun x hx => .inl hx, ⟨by simp, hroom, h3, fun q => by simp at q, fun _ => ⟨b, 0, rfl, hbB, by show 0 + _ ≤ (if b = b then (l ++ p, s.k) else K b).1.length; rw [if_pos rfl]; simp, by show ((if b = b then (l ++ p, s.k) else K b).1.drop 0).take _ = _; rw [if_pos rfl]; exact List.take_length⟩⟩, fun _ => ⟨b, rfl, hbB, by show (if b = b then (l ++ p, s.k) else K b) = _; rw [if_pos rfl]⟩, hu.mono (fun x hx => by simp at hx; subst hx; exact .inl hbB), fun s2 l2 g2 hap => ?_⟩
    · show OwnB base (w.setRow b ys) x (if x = b then (l ++ p, s.k) else K x)
      split
      · rename_i h; subst h; exact hnew
      · rename_i h; exact (hB.own x hx).upd hu (fun y hy => by simp [blk] at hy; subst hy; simpa using h)
    · show ∃ t, (if x = b then (l ++ p, s.k) else K x).1 = (K x).1 ++ t
      split
      · rename_i h; subst h; rw [hK]; exact ⟨p, rfl⟩
      · exact ⟨[], (List.append_nil _).symm⟩
    · have hgb : gb s = [b] := by unfold gb; rw [if_pos (by omega), show slv s = .slice s.a s.n s.k from rfl, hb]; rfl
      rw [hgb] at hap
      refine ⟨fun q => ?_, fun x hx => ?_⟩
      · obtain ⟨b2, q1, q2, q3⟩ := g2 q
        have hn2 : b2 ≠ b := fun e => hap b2 (by unfold gb; rw [if_pos q, show slv s2 = .slice s2.a s2.n s2.k from rfl, q1]; simp [blk]) (by simp [e])
        exact ⟨b2, q1, q2, by show (if b2 = b then (l ++ p, s.k) else K b2) = _; rw [if_neg hn2, q3]⟩
      · have h9 := hap x hx
        unfold gb
        split
        · simpa [blk] using h9
        · simp
  · -- it grows
    have key : ∃ v' w', (Builtin.append_ #[27, 27] ty #[slv s, .slice (some ⟨pb, poff, none⟩) p.length cap]).run Try.prog w = .ok v' w' ∧ Own bv w.heap.size 5 w' v' (l ++ p) ∧ Upd [] w w' := by
      obtain ⟨a, n, k⟩ := s
      dsimp only at h1 h2 h3 h4 hroom hrd
      subst h1
      cases a with
      | some ad =>
        have holds : ∀ j u, (l.map bv)[j]? = some u → w.cell? (ad.add j) = some u := fun j u hj => by
          rw [List.getElem?_map] at hj
          obtain ⟨x, hx, rfl⟩ := Option.map_eq_some_iff.1 hj
          have hjl := (List.getElem?_eq_some_iff.1 hx).1
          obtain ⟨a', k', he, -, -, hc⟩ := hrd
          have e1 : some ad = a' := (Value.slice.inj he).1
          obtain ⟨b, off, e4, hc⟩ := hc (by intro q; rw [q] at hjl; simp at hjl)
          obtain rfl : ad = ⟨b, off, none⟩ := Option.some.inj (e1.trans e4)
          rw [add_none, hc j hjl, nth_of l j x hx]
        obtain ⟨v', w', hr, r1, r2⟩ := run_append_arg_grows (P := Try.prog) w 27 ty 5 i _ 1 1 Try.underlying27 i1 i2 i3 i4 rfl (by decide) ad l.length k (l.map bv) (by simp) holds ⟨pb, poff, none⟩ p.length cap (p.map bv) (by simp) hnews (by omega) hmax (by omega)
        exact ⟨v', w', hr, by unfold Own; rw [List.length_append, List.map_append]; exact r1, Upd.of_grown r2⟩
      | none =>
        obtain rfl : k = 0 := h4 rfl
        obtain rfl : l = [] := List.eq_nil_of_length_eq_zero (by omega)
        obtain ⟨v', w', hr, r1, r2, _⟩ := run_append_own (P := Try.prog) w w.heap.size 27 ty 5 i _ 1 1 Try.underlying27 i1 i2 i3 i4 rfl (by decide) (.slice none 0 0) 0 [] (World.ownsRow_nil w _ _ 1) ⟨pb, poff, none⟩ p.length cap (p.map bv) (by simp) hnews (oneCell_map bv_one p) (by simpa using hmax) (by simp at hlen ⊢; omega) (Nat.le_refl _)
        refine ⟨v', w', hr, by unfold Own; rw [List.length_append, List.map_append]; exact r1, Upd.of_grown r2⟩
    obtain ⟨v', w', hr, ho, hu⟩ := key
    obtain ⟨s', B', K', rfl, k1, k2, k3, k4, k5, k6, k7⟩ := hB.new ho hu hbase
    refine ⟨_, _, hr, s', B', K', rfl, k1, k2, k3, k4, k5, hu.mono (by simp), fun s2 l2 g2 hap => ⟨g2.keep k2.sub k7, fun x hx hx' => ?_⟩⟩
    have := k6 x hx'
    have := (hB.ge x (gb_in g2 x hx).1).2
    omega
end
end Go.Proofs.Ytmhdhnipljonlaa
namespace Go.Proofs.Ytmhdhnipljonlaa
open Go.RowKit
set_option linter.unusedSimpArgs false
set_option linter.unusedVariables false
theorem bl_irr : ∀ a : List UInt8, Op.bytesLess a a = false
  | [] => rfl
  | x :: a => by simp [Op.bytesLess, bl_irr a]
theorem bl_cons (x y : UInt8) (a b : List UInt8) : Op.bytesLess (x :: a) (y :: b) = true ↔ x.toNat < y.toNat ∨ (x = y ∧ Op.bytesLess a b = true) := by
  simp [Op.bytesLess, UInt8.lt_iff_toNat_lt]
theorem bl_trans : ∀ a b c : List UInt8, Op.bytesLess a b = true → Op.bytesLess b c = true → Op.bytesLess a c = true
  | [], [], c, h, _ => by simp [Op.bytesLess] at h
  | [], _ :: _, [], _, h => by simp [Op.bytesLess] at h
  | [], _ :: _, _ :: _, _, _ => by simp [Op.bytesLess]
  | _ :: _, [], _, h, _ => by simp [Op.bytesLess] at h
  | _ :: _, _ :: _, [], _, h => by simp [Op.bytesLess] at h
  | x :: a, y :: b, z :: c, h, k => by
    rw [bl_cons] at h k ⊢
    rcases h with h | ⟨rfl, h⟩
    · rcases k with k | ⟨rfl, k⟩
      · exact .inl (by omega)
      · exact .inl h
    · rcases k with k | ⟨rfl, k⟩
      · exact .inl k
      · exact .inr ⟨rfl, bl_trans a b c h k⟩
theorem bl_tot : ∀ a b : List UInt8, Op.bytesLess a b = false → Op.bytesLess b a = false → a = b
  | [], [], _, _ => rfl
  | [], _ :: _, h, _ => by simp [Op.bytesLess] at h
  | _ :: _, [], _, h => by simp [Op.bytesLess] at h
  | x :: a, y :: b, h, k => by
    have h1 : ¬ (x.toNat < y.toNat ∨ (x = y ∧ Op.bytesLess a b = true)) := fun q => by rw [(bl_cons x y a b).2 q] at h; exact absurd h (by simp)
    have k1 : ¬ (y.toNat < x.toNat ∨ (y = x ∧ Op.bytesLess b a = true)) := fun q => by rw [(bl_cons y x b a).2 q] at k; exact absurd k (by simp)
    have e : x = y := UInt8.toNat_inj.1 (by omega)
    subst e
    have h2 : Op.bytesLess a b = false := by
      cases hq : Op.bytesLess a b with
      | false => rfl
      | true => exact absurd (.inr ⟨rfl, hq⟩) h1
    have k2 : Op.bytesLess b a = false := by
      cases hq : Op.bytesLess b a with
      | false => rfl
      | true => exact absurd (.inr ⟨rfl, hq⟩) k1
    rw [bl_tot a b h2 k2]
abbrev strLt (a b : ByteArray) : Bool := Op.bytesLess a.toList b.toList
theorem strOrd : KOrd strLt := ⟨fun a => bl_irr _, fun a b c => bl_trans _ _ _, fun a b h k => str_inj _ _ (bl_tot _ _ h k)⟩
instance : DecidableEq ByteArray := fun a b => decidable_of_iff (a.toList = b.toList) ⟨str_inj a b, fun h => by rw [h]⟩
end Go.Proofs.Ytmhdhnipljonlaa
namespace Go.Proofs.Ytmhdhnipljonlaa
open Go.RowKit
set_option linter.unusedSimpArgs false
set_option linter.unusedVariables false
abbrev DF := List (ByteArray × List UInt8)
def dTotal (fs : DF) : Nat := (fs.map fun p => p.2.length).sum
/-- A raw write. -/
structure Wr where
  kd : Int
  nm : ByteArray
  tn : ByteArray
  p : List UInt8
  n : Int
instance : Inhabited Wr := ⟨⟨0, ⟨#[]⟩, ⟨#[]⟩, [], 0⟩⟩
abbrev inD (fs : DF) (s : ByteArray) : Bool := isIn strLt fs s
def dGet (fs : DF) (s : ByteArray) : List UInt8 × Bool := tGet strLt [] fs s
theorem dGet_in (fs : DF) (s : ByteArray) : (dGet fs s).2 = inD fs s := by unfold dGet tGet inD; cases isIn strLt fs s <;> rfl
theorem dGet_no {fs : DF} {s : ByteArray} (h : inD fs s = false) : dGet fs s = ([], false) := by unfold dGet tGet; rw [show isIn strLt fs s = _ from h]; rfl
def wApply (x : Wr) (fs : DF) : DF :=
  if x.kd = 1 then tSet strLt fs x.nm [] else
  if x.kd = 2 then tSet strLt fs x.nm ((dGet fs x.nm).1 ++ x.p) else
  if x.kd = 3 then (if inD fs x.nm then tSet strLt (tDel strLt fs x.nm) x.tn (dGet fs x.nm).1 else fs) else
  if x.kd = 4 then tSet strLt fs x.nm ((dGet fs x.nm).1.take x.n.toNat) else
  if x.kd = 5 then tDel strLt fs x.nm else fs
def wAll (fs : DF) (l : List Wr) : DF := l.foldl (fun f x => wApply x f) fs
structure WrOk (x : Wr) (fs : DF) : Prop where
  len : fs.length ≤ 5000
  kd : 1 ≤ x.kd ∧ x.kd ≤ 5
  put : x.kd = 2 → x.p ≠ [] ∧ (dGet fs x.nm).1.length + x.p.length ≤ 16777216
  cut : x.kd = 4 → 0 ≤ x.n ∧ x.n ≤ (dGet fs x.nm).1.length
  tot : dTotal (wApply x fs) ≤ 16777216
  has : x.kd ≠ 1 → inD fs x.nm = true
  new : x.kd = 1 → inD fs x.nm = false
def LogOk : DF → List Wr → Prop
  | _, [] => True
  | fs, x :: l => WrOk x fs ∧ LogOk (wApply x fs) l
theorem LogOk.snoc : ∀ {fs : DF} {l : List Wr} {x : Wr}, LogOk fs l → WrOk x (wAll fs l) → LogOk fs (l ++ [x])
  | fs, [], x, _, h => ⟨h, trivial⟩
  | fs, y :: l, x, h, k => ⟨h.1, LogOk.snoc h.2 k⟩
theorem LogOk.at_ : ∀ {fs : DF} {l : List Wr} (k : Nat), LogOk fs l → k < l.length → WrOk (nth l k) (wAll fs (l.take k))
  | fs, [], k, _, h => by simp at h
  | fs, y :: l, 0, h, _ => h.1
  | fs, y :: l, k + 1, h, hk => by
    rw [nth_cons_succ, List.take_succ_cons]
    exact LogOk.at_ (fs := wApply y fs) k h.2 (by simpa using hk)
theorem LogOk.take : ∀ {fs : DF} {l : List Wr} (k : Nat), LogOk fs l → LogOk fs (l.take k)
  | fs, [], k, _ => by simp [LogOk]
  | fs, y :: l, 0, h => trivial
  | fs, y :: l, k + 1, h => ⟨h.1, LogOk.take k h.2⟩
theorem wAll_snoc (fs : DF) (l : List Wr) (x : Wr) : wAll fs (l ++ [x]) = wApply x (wAll fs l) := by unfold wAll; rw [List.foldl_append]; rfl
theorem take_succ_nth {α : Type} [Inhabited α] (l : List α) (k : Nat) (h : k < l.length) : l.take (k + 1) = l.take k ++ [nth l k] := by rw [List.take_add_one, nth_get _ _ h, List.getElem?_eq_getElem h]; rfl
theorem wAll_take (fs : DF) (l : List Wr) (k : Nat) (h : k < l.length) : wAll fs (l.take (k + 1)) = wApply (nth l k) (wAll fs (l.take k)) := by rw [take_succ_nth l k h, wAll_snoc]
theorem wApply_rising {fs : DF} (h : Rising strLt fs) (x : Wr) : Rising strLt (wApply x fs) := by
  unfold wApply
  split
  · exact h.set_ strOrd _ _
  split
  · exact h.set_ strOrd _ _
  split
  · split
    · exact (h.del strOrd _).set_ strOrd _ _
    · exact h
  split
  · exact h.set_ strOrd _ _
  split
  · exact h.del strOrd _
  · exact h
theorem wAll_rising {fs : DF} (h : Rising strLt fs) : ∀ l : List Wr, Rising strLt (wAll fs l)
  | [] => h
  | x :: l => wAll_rising (wApply_rising h x) l
theorem total_app (a b : DF) : dTotal (a ++ b) = dTotal a + dTotal b := by unfold dTotal; rw [List.map_append, List.sum_append]
theorem total_cons (p : ByteArray × List UInt8) (b : DF) : dTotal (p :: b) = p.2.length + dTotal b := by unfold dTotal; rw [List.map_cons, List.sum_cons]
theorem split_at (fs : DF) (i : Nat) (h : i < fs.length) : fs.take i ++ nth fs i :: fs.drop (i + 1) = fs := by
  rw [nth_get _ _ h, List.getElem_cons_drop, List.take_append_drop]
theorem total_take (fs : DF) (i : Nat) (h : i < fs.length) : dTotal (fs.take (i + 1)) = dTotal (fs.take i) + (nth fs i).2.length := by
  rw [take_succ_nth fs i h, total_app, total_cons]; rfl
theorem total_le (fs : DF) (i : Nat) : dTotal (fs.take i) ≤ dTotal fs := by
  have := total_app (fs.take i) (fs.drop i)
  rw [List.take_append_drop] at this; omega
theorem in_at {fs : DF} {s : ByteArray} (h : inD fs s = true) : below strLt fs s < fs.length ∧ (nth fs (below strLt fs s)).1 = s := by unfold inD isIn at h; exact of_decide_eq_true h
theorem dGet_yes {fs : DF} {s : ByteArray} (h : inD fs s = true) : dGet fs s = ((nth fs (below strLt fs s)).2, true) := by unfold dGet tGet; rw [show isIn strLt fs s = _ from h]; rfl
theorem total_set_in {fs : DF} {s : ByteArray} (v : List UInt8) (h : inD fs s = true) : dTotal (tSet strLt fs s v) + (dGet fs s).1.length = dTotal fs + v.length := by
  obtain ⟨h1, h2⟩ := in_at h
  have h3 := split_at fs _ h1
  have h4 : dTotal fs = dTotal (fs.take (below strLt fs s)) + ((nth fs (below strLt fs s)).2.length + dTotal (fs.drop (below strLt fs s + 1))) := by
    conv => lhs; rw [← h3]
    rw [total_app, total_cons]
  unfold tSet
  rw [show isIn strLt fs s = true from h, if_pos rfl, total_app, total_cons, dGet_yes h, h4]
  show dTotal _ + (v.length + _) + (nth fs (below strLt fs s)).2.length = _
  omega
theorem total_set_no {fs : DF} {s : ByteArray} (v : List UInt8) (h : inD fs s = false) : dTotal (tSet strLt fs s v) = dTotal fs + v.length := by
  have h4 := total_app (fs.take (below strLt fs s)) (fs.drop (below strLt fs s))
  rw [List.take_append_drop] at h4
  unfold tSet
  rw [show isIn strLt fs s = false from h, if_neg (by simp), total_app, total_cons, Nat.add_zero, h4]
  show _ + (v.length + _) = _
  omega
theorem total_del {fs : DF} {s : ByteArray} (h : inD fs s = true) : dTotal (tDel strLt fs s) + (dGet fs s).1.length = dTotal fs := by
  obtain ⟨h1, h2⟩ := in_at h
  have h3 := split_at fs _ h1
  have h4 : dTotal fs = dTotal (fs.take (below strLt fs s)) + ((nth fs (below strLt fs s)).2.length + dTotal (fs.drop (below strLt fs s + 1))) := by
    conv => lhs; rw [← h3]
    rw [total_app, total_cons]
  unfold tDel
  rw [show isIn strLt fs s = true from h, if_pos rfl, total_app, dGet_yes h, h4]
  show dTotal _ + _ + (nth fs (below strLt fs s)).2.length = _
  omega
theorem total_set_le {fs : DF} (s : ByteArray) (v : List UInt8) : dTotal (tSet strLt fs s v) ≤ dTotal fs + v.length := by
  cases h : inD fs s with
  | true => have := total_set_in v h; omega
  | false => have := total_set_no v h; omega
theorem get_le_total (fs : DF) (s : ByteArray) : (dGet fs s).1.length ≤ dTotal fs := by
  cases h : inD fs s with
  | true => have := total_del h; omega
  | false => rw [dGet_no h]; simp
theorem set_len_in {fs : DF} {s : ByteArray} (v : List UInt8) (h : inD fs s = true) : (tSet strLt fs s v).length = fs.length := by
  rw [tSet_in fs s v h, List.length_set]
theorem below_set {fs : DF} (hr : Rising strLt fs) (s : ByteArray) (v : List UInt8) : below strLt (tSet strLt fs s v) s = below strLt fs s := by
  have hle := below_le (lt := strLt) fs s
  have htk : (fs.take (below strLt fs s)).length = below strLt fs s := by rw [List.length_take]; omega
  refine below_eq _ _ _ (by unfold tSet; simp; omega) (fun j hj => ?_) (fun _ => ?_)
  · unfold tSet
    rw [nth_append_left _ _ _ (by rw [htk]; exact hj), nth_take _ _ _ hj]
    exact below_lt fs s j hj
  · unfold tSet
    rw [nth_append_right _ _ _ (by rw [htk]; exact Nat.le_refl _), htk, Nat.sub_self, nth_cons_zero]
    exact strOrd.irr s
theorem nth_set_at (fs : DF) (s : ByteArray) (v : List UInt8) : nth (tSet strLt fs s v) (below strLt fs s) = (s, v) := by
  have hle := below_le (lt := strLt) fs s
  have htk : (fs.take (below strLt fs s)).length = below strLt fs s := by rw [List.length_take]; omega
  unfold tSet
  rw [nth_append_right _ _ _ (by rw [htk]; exact Nat.le_refl _), htk, Nat.sub_self, nth_cons_zero]
theorem in_set {fs : DF} (hr : Rising strLt fs) (s : ByteArray) (v : List UInt8) : inD (tSet strLt fs s v) s = true := by
  have hle := below_le (lt := strLt) fs s
  unfold inD isIn
  rw [below_set hr, nth_set_at]
  exact decide_eq_true ⟨by unfold tSet; simp; omega, rfl⟩
theorem get_set {fs : DF} (hr : Rising strLt fs) (s : ByteArray) (v : List UInt8) : dGet (tSet strLt fs s v) s = (v, true) := by
  rw [dGet_yes (in_set hr s v), below_set hr, nth_set_at]
/-- A disk's state. -/
structure DS where
  now : DF
  mark : DF
  log : List Wr
def dDo (x : Wr) (s : DS) : DS := ⟨wApply x s.now, s.mark, s.log ++ [x]⟩
structure DOk (s : DS) : Prop where
  ris : Rising strLt s.now
  rim : Rising strLt s.mark
  eq : s.now = wAll s.mark s.log
  log : LogOk s.mark s.log
  tot : dTotal s.now ≤ 16777216
  totm : dTotal s.mark ≤ 16777216
theorem DOk.do_ {s : DS} (h : DOk s) {x : Wr} (hx : WrOk x s.now) : DOk (dDo x s) :=
  ⟨wApply_rising h.ris x, h.rim, by unfold dDo; dsimp only; rw [wAll_snoc, ← h.eq], h.log.snoc (by rw [← h.eq]; exact hx), hx.tot, h.totm⟩
abbrev wMake (nm : ByteArray) : Wr := ⟨1, nm, ⟨#[]⟩, [], 0⟩
abbrev wPut (nm : ByteArray) (p : List UInt8) : Wr := ⟨2, nm, ⟨#[]⟩, p, 0⟩
abbrev wRen (nm tn : ByteArray) : Wr := ⟨3, nm, tn, [], 0⟩
abbrev wCut (nm : ByteArray) (n : Int) : Wr := ⟨4, nm, ⟨#[]⟩, [], n⟩
abbrev wRem (nm : ByteArray) : Wr := ⟨5, nm, ⟨#[]⟩, [], 0⟩
def chunks (p : List UInt8) : List (List UInt8) := (List.range ((p.length + 31) / 32)).map fun i => (p.drop (32 * i)).take 32
def dPut (nm : ByteArray) (s : DS) (l : List (List UInt8)) : DS := l.foldl (fun s c => dDo (wPut nm c) s) s
theorem chunks_len (p : List UInt8) : (chunks p).length = (p.length + 31) / 32 := by unfold chunks; simp
theorem chunks_nth (p : List UInt8) (i : Nat) (h : i < (chunks p).length) : nth (chunks p) i = (p.drop (32 * i)).take 32 := by
  unfold chunks at h ⊢
  rw [nth_get _ _ h]; simp
theorem dPut_snoc (nm : ByteArray) (s : DS) (l : List (List UInt8)) (c : List UInt8) : dPut nm s (l ++ [c]) = dDo (wPut nm c) (dPut nm s l) := by unfold dPut; rw [List.foldl_append]; rfl
theorem dPut_take (nm : ByteArray) (s : DS) (p : List UInt8) (i : Nat) (h : i < (chunks p).length) : dPut nm s ((chunks p).take (i + 1)) = dDo (wPut nm ((p.drop (32 * i)).take 32)) (dPut nm s ((chunks p).take i)) := by
  rw [take_succ_nth _ _ h, dPut_snoc, chunks_nth p i h]
theorem put_now (nm : ByteArray) (c : List UInt8) (s : DS) : (dDo (wPut nm c) s).now = tSet strLt s.now nm ((dGet s.now nm).1 ++ c) := rfl
/-- Behind so many chunks. -/
structure PutOk (nm : ByteArray) (s0 s : DS) (n : Nat) : Prop where
  ok : DOk s
  has : inD s.now nm = true
  len : s.now.length = s0.now.length
  tot : dTotal s.now = dTotal s0.now + n
  log : s.log.length ≤ s0.log.length + n
  mark : s.mark = s0.mark
theorem PutOk.step {nm : ByteArray} {s0 s : DS} {n : Nat} (h : PutOk nm s0 s n) (c : List UInt8) (hc : c ≠ []) (hl : s0.now.length ≤ 5000) (ht : dTotal s0.now + (n + c.length) ≤ 16777216) : WrOk (wPut nm c) s.now ∧ PutOk nm s0 (dDo (wPut nm c) s) (n + c.length) := by
  have h1 := total_set_in ((dGet s.now nm).1 ++ c) h.has
  have h2 := get_le_total s.now nm
  rw [List.length_append] at h1
  have h3 := h.tot
  have hcl : 0 < c.length := List.length_pos_iff.2 hc
  have hw : WrOk (wPut nm c) s.now := ⟨by rw [h.len]; exact hl, ⟨by show (1 : Int) ≤ 2; decide, by show (2 : Int) ≤ 5; decide⟩, fun _ => ⟨hc, by show (dGet s.now nm).1.length + c.length ≤ _; omega⟩, fun q => absurd q (show ¬ (2 : Int) = 4 by decide), by show dTotal (tSet strLt s.now nm ((dGet s.now nm).1 ++ c)) ≤ _; omega, fun _ => h.has, fun q => absurd q (show ¬ (2 : Int) = 1 by decide)⟩
  refine ⟨hw, h.ok.do_ hw, in_set h.ok.ris _ _, by rw [put_now, set_len_in _ h.has]; exact h.len, by rw [put_now]; omega, ?_, h.mark⟩
  have := h.log
  unfold dDo; simp; omega
theorem PutOk.all {nm : ByteArray} {s0 : DS} (p : List UInt8) (h : DOk s0) (hin : inD s0.now nm = true) (hl : s0.now.length ≤ 5000) (ht : dTotal s0.now + p.length ≤ 16777216) : ∀ i, i ≤ (chunks p).length → PutOk nm s0 (dPut nm s0 ((chunks p).take i)) (min (32 * i) p.length)
  | 0, _ => ⟨h, hin, rfl, by simp [dPut], by simp [dPut], rfl⟩
  | i + 1, hi => by
    have hlen := chunks_len p
    rw [dPut_take nm s0 p i (by omega)]
    have ih := PutOk.all p h hin hl ht i (by omega)
    have hlt : 32 * i < p.length := by omega
    have hcl : ((p.drop (32 * i)).take 32).length = min 32 (p.length - 32 * i) := by rw [List.length_take, List.length_drop]
    have := (ih.step ((p.drop (32 * i)).take 32) (fun q => by rw [q] at hcl; simp at hcl; omega) hl (by rw [hcl]; omega)).2
    rw [hcl] at this
    rw [show min (32 * (i + 1)) p.length = min (32 * i) p.length + min 32 (p.length - 32 * i) by omega]
    exact this
def dAppend (s : DS) (nm : ByteArray) (p : List UInt8) : Int × DS :=
  if nameOk nm then (if 16777216 < dTotal s.now + p.length then (9, s) else (0, dPut nm (if inD s.now nm then s else dDo (wMake nm) s) (chunks p))) else (14, s)
def dRename (s : DS) (nm tn : ByteArray) : Int × DS := if nameOk tn then (if inD s.now nm then (0, dDo (wRen nm tn) s) else (7, s)) else (14, s)
def dCut (s : DS) (nm : ByteArray) (n : Int) : Int × DS := if inD s.now nm then (if n < 0 ∨ (dGet s.now nm).1.length < n then (1, s) else (0, dDo (wCut nm n) s)) else (7, s)
def dRemove (s : DS) (nm : ByteArray) : Int × DS := if inD s.now nm then (0, dDo (wRem nm) s) else (7, s)
def dMark (s : DS) : DS := ⟨s.now, s.now, []⟩
def dBackF (s : DS) (n : Int) : DF := wAll s.mark (s.log.take n.toNat)
def dBack (s : DS) (n : Int) : DS := ⟨dBackF s n, dBackF s n, []⟩
theorem DOk.make {s : DS} (h : DOk s) (nm : ByteArray) (hn : inD s.now nm = false) (hl : s.now.length ≤ 5000) : WrOk (wMake nm) s.now ∧ DOk (dDo (wMake nm) s) ∧ inD (dDo (wMake nm) s).now nm = true ∧ dTotal (dDo (wMake nm) s).now = dTotal s.now ∧ (dDo (wMake nm) s).now.length ≤ s.now.length + 1 := by
  have ht := total_set_no (s := nm) [] hn
  have hw : WrOk (wMake nm) s.now := ⟨hl, ⟨by show (1 : Int) ≤ 1; decide, by show (1 : Int) ≤ 5; decide⟩, fun q => absurd q (show ¬ (1 : Int) = 2 by decide), fun q => absurd q (show ¬ (1 : Int) = 4 by decide), by show dTotal (tSet strLt s.now nm []) ≤ _; have := h.tot; simp at ht; omega, fun q => absurd (show (1 : Int) = 1 from rfl) q, fun _ => hn⟩
  have he : (dDo (wMake nm) s).now = tSet strLt s.now nm [] := rfl
  refine ⟨hw, h.do_ hw, ?_, ?_, ?_⟩
  · rw [he]; exact in_set h.ris _ _
  · rw [he, ht]; rfl
  · rw [he]; exact tSet_len _ _ _
theorem DOk.ren {s : DS} (h : DOk s) (nm tn : ByteArray) (hn : inD s.now nm = true) (hl : s.now.length ≤ 5000) : WrOk (wRen nm tn) s.now ∧ DOk (dDo (wRen nm tn) s) := by
  suffices hw : WrOk (wRen nm tn) s.now from ⟨hw, h.do_ hw⟩
  refine ⟨hl, ⟨by show (1 : Int) ≤ 3; decide, by show (3 : Int) ≤ 5; decide⟩, fun q => absurd q (show ¬ (3 : Int) = 2 by decide), fun q => absurd q (show ¬ (3 : Int) = 4 by decide), ?_, fun _ => hn, fun q => absurd q (show ¬ (3 : Int) = 1 by decide)⟩
  show dTotal (if inD s.now nm = true then tSet strLt (tDel strLt s.now nm) tn (dGet s.now nm).1 else s.now) ≤ _
  rw [if_pos hn]
  have h1 := total_set_le (fs := tDel strLt s.now nm) tn (dGet s.now nm).1
  have h2 := total_del hn
  have := h.tot
  omega
theorem DOk.cut {s : DS} (h : DOk s) (nm : ByteArray) (n : Int) (hn : inD s.now nm = true) (h0 : 0 ≤ n) (hle : n ≤ (dGet s.now nm).1.length) (hl : s.now.length ≤ 5000) : WrOk (wCut nm n) s.now ∧ DOk (dDo (wCut nm n) s) := by
  suffices hw : WrOk (wCut nm n) s.now from ⟨hw, h.do_ hw⟩
  refine ⟨hl, ⟨by show (1 : Int) ≤ 4; decide, by show (4 : Int) ≤ 5; decide⟩, fun q => absurd q (show ¬ (4 : Int) = 2 by decide), fun _ => ⟨h0, hle⟩, ?_, fun _ => hn, fun q => absurd q (show ¬ (4 : Int) = 1 by decide)⟩
  show dTotal (tSet strLt s.now nm ((dGet s.now nm).1.take n.toNat)) ≤ _
  have h1 := total_set_in ((dGet s.now nm).1.take n.toNat) hn
  rw [List.length_take] at h1
  have := h.tot
  omega
theorem DOk.rem {s : DS} (h : DOk s) (nm : ByteArray) (hn : inD s.now nm = true) (hl : s.now.length ≤ 5000) : WrOk (wRem nm) s.now ∧ DOk (dDo (wRem nm) s) := by
  suffices hw : WrOk (wRem nm) s.now from ⟨hw, h.do_ hw⟩
  refine ⟨hl, ⟨by show (1 : Int) ≤ 5; decide, by show (5 : Int) ≤ 5; decide⟩, fun q => absurd q (show ¬ (5 : Int) = 2 by decide), fun q => absurd q (show ¬ (5 : Int) = 4 by decide), ?_, fun _ => hn, fun q => absurd q (show ¬ (5 : Int) = 1 by decide)⟩
  show dTotal (tDel strLt s.now nm) ≤ _
  have h1 := total_del hn
  have := h.tot
  omega
theorem wAll_tot : ∀ {fs : DF} {l : List Wr}, LogOk fs l → dTotal fs ≤ 16777216 → dTotal (wAll fs l) ≤ 16777216
  | fs, [], _, h => h
  | fs, x :: l, h, _ => wAll_tot (fs := wApply x fs) h.2 h.1.tot
theorem DOk.mark {s : DS} (h : DOk s) : DOk (dMark s) := ⟨h.ris, h.ris, rfl, trivial, h.tot, h.tot⟩
theorem DOk.back {s : DS} (h : DOk s) (n : Int) : DOk (dBack s n) :=
  have hr := wAll_rising h.rim (s.log.take n.toNat)
  have ht := wAll_tot (h.log.take n.toNat) h.totm
  ⟨hr, hr, rfl, trivial, ht, ht⟩
theorem DOk.zero : DOk ⟨[], [], []⟩ := ⟨Rising.nil, Rising.nil, rfl, trivial, by simp [dTotal], by simp [dTotal]⟩
theorem DOk.append {s : DS} (h : DOk s) (nm : ByteArray) (p : List UInt8) (hl : s.now.length ≤ 4999) : DOk (dAppend s nm p).2 := by
  unfold dAppend
  split
  · split
    · exact h
    · rename_i ht
      dsimp only
      cases hin : inD s.now nm with
      | true =>
        rw [if_pos rfl]
        have := (PutOk.all p h hin (by omega) (by omega) (chunks p).length (Nat.le_refl _)).ok
        rwa [List.take_length] at this
      | false =>
        rw [if_neg (by simp)]
        obtain ⟨h1, h2, h3, h4, h5⟩ := h.make nm hin (by omega)
        have := (PutOk.all p h2 h3 (by omega) (by omega) (chunks p).length (Nat.le_refl _)).ok
        rwa [List.take_length] at this
  · exact h
end Go.Proofs.Ytmhdhnipljonlaa
