/- What is written is read back, whatever stands behind it. -/
import Derived.Test.YthnmlifnlmdelaaWireBk5
import Derived.Test.YthnmlifnlmdelaaSliceCut
namespace Go.Proofs.Ythnmlifnlmdelaa
open Go.RowKit
set_option linter.unusedSimpArgs false
set_option linter.unusedVariables false
theorem sizeItem : (Try.prog.info? 58).map (·.size) = some 6 := by kernel_rfl
abbrev allIt (L : List Itm) : List UInt8 := L.flatMap encIt
theorem allIt_take (L : List Itm) (n : Nat) (h : n < L.length) : allIt (L.take (n + 1)) = allIt (L.take n) ++ encIt (nth L n) := by
  unfold allIt; rw [List.take_succ_eq_append_getElem h, List.flatMap_append, nth_get L n h]; simp
theorem allIt_drop (L : List Itm) (tl : List UInt8) (n : Nat) (h : n < L.length) : ((allIt L ++ tl).drop (allIt (L.take n)).length) = encIt (nth L n) ++ (allIt (L.drop (n + 1)) ++ tl) := by
  have e : allIt L = allIt (L.take n) ++ (encIt (nth L n) ++ allIt (L.drop (n + 1))) := by
    unfold allIt
    have hd : L.drop n = L[n] :: L.drop (n + 1) := List.drop_eq_getElem_cons h
    rw [nth_get L n h, ← List.flatMap_cons, ← hd, ← List.flatMap_append, List.take_append_drop]
  rw [e, List.append_assoc, List.drop_left, List.append_assoc]
set_option maxHeartbeats 8000000 in
theorem back_walkS (w : World) (u : Value) (l : List Itm) (hl : RdN 6 itCells w u l) (hg : ∀ i, i < l.length → ItGood w (nth l i) 1048576) (hn100 : l.length ≤ 100) (v : Value) (tl : List UInt8) (ht : Bytes w v tl) (htz : tl.length ≤ 1048576) :
    Calls Try.prog 13 #[u, v] w fun e w' => e = .returned (.bool true) ∧ Upd [] w w' := by
  have HT := Lib.hid ht
  obtain ⟨at_, kt, rfl, -, -, -⟩ := ht
  obtain ⟨a2, cap2, rfl, hlc2, hm2, hc2⟩ := hl
  have HNL : Hid (∀ i, i < l.length → (nth l i).l ≠ [] → ∀ y ∈ blk (slv (nth l i).lv), y < w.heap.size) := fun i hi hne y hy => (hg i hi).rd.lt hne y hy
  obtain ⟨L, HL⟩ : ∃ L, Hid (l.take l.length = L) := ⟨_, rfl⟩
  have hLn : L.length = l.length := by rw [← HL.out, List.length_take]; omega
  have hnth : ∀ i, i < l.length → nth L i = nth l i := fun i hi => by rw [← HL.out]; exact nth_take _ _ _ hi
  have HC2 : Hid (∀ i, i < l.length → ∃ b off, a2 = some ⟨b, off, none⟩ ∧ ∀ j, j < 6 → w.cell? ⟨b, off + (i * 6 + j), none⟩ = (itCells (nth L i))[j]?) := fun i hi => by
    obtain ⟨b, off, e, hc⟩ := hc2 (by intro q; have := congrArg List.length q; rw [List.length_nil] at this; omega)
    exact ⟨b, off, e, fun j hj => by rw [hnth i hi]; exact hc i (by omega) j hj⟩
  have HG : Hid (∀ i, i < l.length → ItGood w (nth L i) 1048576) := fun i hi => by rw [hnth i hi]; exact hg i (by omega)
  have HNG : Hid (∀ i, i < l.length → (nth L i).l ≠ [] → ∀ y ∈ blk (slv (nth L i).lv), y < w.heap.size) := fun i hi => by rw [hnth i hi]; exact HNL.out i (by omega)
  have HAT := Lib.hid (fun n (h : n < l.length) => allIt_take L n (by rw [hLn]; exact h))
  have HAD := Lib.hid (fun n (h : n < l.length) => allIt_drop L tl n (by rw [hLn]; exact h))
  have HALL : Hid (allIt (L.take l.length) = allIt L) := by unfold Hid; rw [List.take_of_length_le (by omega)]
  have hcap : l.length ≤ cap2 := by omega
  have hng : ¬ (100 : Int) < l.length := by omega
  have HLN := Lib.hid hLn
  clear hc2 hg hm2 hlc2 HNL hnth hLn
  go_enter Try.func13, Try.ntmps13
  go_wp2_with fail
  go_loopw [5, 6] (fun b i wr => ∃ (n : Nat) (c : List UInt8), i = .int .i64 (n : Int) ∧ n ≤ l.length ∧ c = allIt (L.take n) ∧ c.length ≤ 10000000 * n ∧ Hid (Own bv w.heap.size 5 wr b c) ∧ Hid (Upd [] w wr)) (fun _ i _ => l.length - (intOf i).toNat)
  case atStart => exact ⟨0, [], rfl, Nat.zero_le _, by simp [allIt], by simp, Own.nil _ _ _, Upd.refl _ _⟩
  case round =>
    obtain ⟨n, c, rfl, hn, hce, hcl, hob, hu⟩ := hrel
    have HCE := Lib.hid hce
    clear hce
    obtain ⟨ab, cb, rfl, -⟩ := hob.out.rd
    by_cases hlt : n < l.length
    · obtain ⟨pb, po, hae, hcs⟩ := HC2.out n hlt
      subst hae
      have HIT := Lib.hid ((HG.out n hlt).upd hu.out)
      have hle := encIt_le _ w (HG.out n hlt)
      have HST : Hid (c ++ encIt (nth L n) = allIt (L.take (n + 1))) := by unfold Hid; rw [HCE.out, HAT.out n hlt]
      have hcl2 : (c ++ encIt (nth L n)).length ≤ 10000000 * (n + 1) := by rw [List.length_append]; omega
      generalize nth L n = x at *
      obtain ⟨kd, nn, mo, s, f, lv, ll⟩ := x
      obtain ⟨la, ln, lk⟩ := lv
      obtain ⟨B, HBE⟩ : ∃ B, Hid (c ++ encIt ⟨kd, nn, mo, s, f, ⟨la, ln, lk⟩, ll⟩ = B) := ⟨_, rfl⟩
      rw [HBE.out] at HST hcl2
      have HPU : Hid (Calls Try.prog 38 #[.slice ab c.length cb, .agg #[.int .i64 kd, .int .i64 nn, .int .i64 mo, .string s, .bool f, .slice la ln lk]] wr fun e w' => PutSaid wr B e w') := by
        rw [← HBE.out]; exact put_any wr _ c hob.out.rd (by omega) ⟨kd, nn, mo, s, f, ⟨la, ln, lk⟩, ll⟩ HIT.out
      have c0 : wr.cell? ⟨pb, po + n * 6, none⟩ = some (.int .i64 kd) := hu.out.cell (hcs 0 (by omega)) (by simp)
      have c1 : wr.cell? ⟨pb, po + n * 6 + 1, none⟩ = some (.int .i64 nn) := by rw [Nat.add_assoc]; exact hu.out.cell (hcs 1 (by omega)) (by simp)
      have c2 : wr.cell? ⟨pb, po + n * 6 + 2, none⟩ = some (.int .i64 mo) := by rw [Nat.add_assoc]; exact hu.out.cell (hcs 2 (by omega)) (by simp)
      have c3 : wr.cell? ⟨pb, po + n * 6 + 3, none⟩ = some (.string s) := by rw [Nat.add_assoc]; exact hu.out.cell (hcs 3 (by omega)) (by simp)
      have c4 : wr.cell? ⟨pb, po + n * 6 + 4, none⟩ = some (.bool f) := by rw [Nat.add_assoc]; exact hu.out.cell (hcs 4 (by omega)) (by simp)
      have c5 : wr.cell? ⟨pb, po + n * 6 + 5, none⟩ = some (.slice la ln lk) := by rw [Nat.add_assoc]; exact hu.out.cell (hcs 5 (by omega)) (by simp)
      clear hcs hle
      go_wp2_with fail
      with_reducible refine HPU.out.mono ?_
      rintro e w3 ⟨x3, y3, rfl, ho3, hoy3, hu3⟩
      have HO3 := Lib.hid (ho3.base_le hu.out.size)
      have HU3 := Lib.hid (hu.out.seq hu3)
      clear ho3 hoy3 hu3
      go_wp2_with fail
      go_roundw
      case rel => exact ⟨n + 1, B, by go_num, by omega, HST.out, hcl2, HO3, HU3⟩
      case measure => simp [intOf]; omega
    · obtain rfl : n = l.length := by omega
      have hbl : c.length ≤ 10000000 * 100 := by omega
      have hca : c = allIt L := by rw [HCE.out, HALL.out]
      have HCA := Lib.hid hca
      have hct : (c ++ tl).length = c.length + tl.length := List.length_append
      have hs0 := hu.out.size
      clear hca
      go_wp2_with (at_builtin; refine wpList_app bv_one rfl (.tmp 33) (.tmp 34) rfl Try.underlying22 infoByte rfl (.slice ab c.length cb) (.slice at_ tl.length kt) c tl rfl rfl hob.out (HT.out.upd0 hu.out) (by omega) (by unfold maxLen; omega) hs0 ?_; intro v4 w4 ho4 hu4 hbk; have HU4 : Hid (Upd [] w w4) := hu.out.trans hu4 (by simp) (fun x hx => .inr (hob.out.ge x hx).1); have HO4 := Lib.hid ho4; clear ho4 hu4 hbk)
      with_reducible refine (rRead_any _ _ (c ++ tl) HO4.out.rd (by omega)).mono ?_
      rintro e w5 ⟨g, vg, rfl, h5, hu5⟩
      have HU5 := Lib.hid (HU4.out.seq hu5)
      have hgs : w.heap.size ≤ g := Nat.le_trans HU4.out.size h5.gb
      have HR5 := Lib.hid h5
      have hg0 : (allIt (L.take 0)).length = 0 := by simp [allIt]
      obtain ⟨base, hbs⟩ : ∃ base, Hid (w4.heap.size = base) := ⟨_, rfl⟩
      rw [hbs.out] at HR5
      clear h5 hu5 HU4 HO4
      go_wp2_with fail
      go_loopw [9] (fun i wq => ∃ n : Nat, i = .int .i64 (n : Int) ∧ n ≤ l.length ∧ Hid (RdrAt 79 base wq g vg (c ++ tl) ((allIt (L.take n)).length, 0)) ∧ Hid (Upd [] w wq)) (fun i _ => l.length - (intOf i).toNat)
      case atStart => exact ⟨0, rfl, Nat.zero_le _, by rw [hg0]; exact HR5, HU5⟩
      case round =>
        obtain ⟨n, rfl, hn2, hrd, hq⟩ := hrel
        clear HR5 HU5
        by_cases hl2 : n < l.length
        · obtain ⟨pb, po, hae, hcs⟩ := HC2.out n hl2
          subst hae
          have HIT := Lib.hid ((HG.out n hl2).upd hq.out)
          have hdr := HAD.out n hl2
          rw [← HCA.out] at hdr
          have hgl : (nth L n).l ≠ [] → ∀ y ∈ blk (slv (nth L n).lv), y ≠ g := fun hne y hy => by have := HNG.out n hl2 hne y hy; omega
          have HBK := Lib.hid (back_any wr (nth L n) HIT.out _ _ hrd.out.at_ hdr hgl hrd.out)
          have hnx : (allIt (L.take n)).length + (encIt (nth L n)).length = (allIt (L.take (n + 1))).length := by rw [HAT.out n hl2, List.length_append]
          rw [hnx] at HBK
          generalize nth L n = x at *
          obtain ⟨kd, nn, mo, s, f, lv, ll⟩ := x
          obtain ⟨la, ln, lk⟩ := lv
          dsimp only [itV, slv] at HBK
          have c0 : wr.cell? ⟨pb, po + n * 6, none⟩ = some (.int .i64 kd) := hq.out.cell (hcs 0 (by omega)) (by simp)
          have c1 : wr.cell? ⟨pb, po + n * 6 + 1, none⟩ = some (.int .i64 nn) := by rw [Nat.add_assoc]; exact hq.out.cell (hcs 1 (by omega)) (by simp)
          have c2 : wr.cell? ⟨pb, po + n * 6 + 2, none⟩ = some (.int .i64 mo) := by rw [Nat.add_assoc]; exact hq.out.cell (hcs 2 (by omega)) (by simp)
          have c3 : wr.cell? ⟨pb, po + n * 6 + 3, none⟩ = some (.string s) := by rw [Nat.add_assoc]; exact hq.out.cell (hcs 3 (by omega)) (by simp)
          have c4 : wr.cell? ⟨pb, po + n * 6 + 4, none⟩ = some (.bool f) := by rw [Nat.add_assoc]; exact hq.out.cell (hcs 4 (by omega)) (by simp)
          have c5 : wr.cell? ⟨pb, po + n * 6 + 5, none⟩ = some (.slice la ln lk) := by rw [Nat.add_assoc]; exact hq.out.cell (hcs 5 (by omega)) (by simp)
          clear hcs hdr hgl hnx HIT
          go_wp2_with fail
          with_reducible refine HBK.out.mono ?_
          rintro e w7 ⟨rfl, h7, hu7⟩
          have HU7 : Hid (Upd [] w w7) := hq.out.trans hu7 (by simp) (fun x hx => by simp at hx; subst hx; exact .inr hgs)
          have HR7 := Lib.hid h7
          clear hu7 h7 c0 c1 c2 c3 c4 c5
          go_wp2_with fail
          with_reducible refine (rErr_any _ HR7.out).mono ?_
          rintro e w8 ⟨rfl, rfl⟩
          go_wp2_with fail
          go_roundw
          case rel => exact ⟨n + 1, by go_num, by omega, HR7, HU7⟩
          case measure => simp [intOf]; omega
        · obtain rfl : n = l.length := by omega
          have hat : (allIt (L.take l.length)).length = c.length := by rw [← HCE.out]
          rw [hat] at hrd
          clear hat
          go_wp2_with fail
          with_reducible refine (rAt_any _ hrd.out).mono ?_
          rintro e w8 ⟨rfl, rfl⟩
          dsimp only
          go_wp2_with fail
          with_reducible refine (rEnd_any _ hrd.out).mono ?_
          by_cases h0 : tl.length = 0
          · have he : rdEnd (c ++ tl) (c.length, 0) = (c.length, 0) := if_neg (by simp only; omega)
            rw [he]
            rintro e w9 ⟨rfl, h9, hu9⟩
            have HU9 : Hid (Upd [] w w9) := hq.out.trans hu9 (by simp) (fun x hx => by simp at hx; subst hx; exact .inr hgs)
            clear hu9 he
            dsimp only
            go_wp2_with fail
            with_reducible refine (wireRuns_any _).mono ?_
            rintro e w11 ⟨rfl, hu11⟩
            go_wp2_with fail
            go_ret
            exact ⟨rfl, HU9.out.seq hu11⟩
          · have he : rdEnd (c ++ tl) (c.length, 0) = (c.length, 5) := if_pos ⟨rfl, by show c.length < (c ++ tl).length; omega⟩
            rw [he]
            rintro e w9 ⟨rfl, h9, hu9⟩
            have HU9 : Hid (Upd [] w w9) := hq.out.trans hu9 (by simp) (fun x hx => by simp at hx; subst hx; exact .inr hgs)
            have h02 : ((tl.length : Int) == 0) = false := by rw [beq_eq_false_iff_ne]; omega
            clear hu9 he h0
            dsimp only
            go_wp2_with fail
            with_reducible refine (rAt_any _ h9).mono ?_
            rintro e w10 ⟨rfl, rfl⟩
            dsimp only
            go_wp2_with fail
            with_reducible refine (wireRuns_any _).mono ?_
            rintro e w11 ⟨rfl, hu11⟩
            go_wp2_with fail
            go_ret
            exact ⟨rfl, HU9.out.seq hu11⟩
set_option maxHeartbeats 8000000 in
theorem back_walkL (w : World) (u : Value) (l : List Itm) (hl : RdN 6 itCells w u l) (hg : ∀ i, i < l.length → ItGood w (nth l i) 1048576) (hn100 : 100 < l.length) (v : Value) (tl : List UInt8) (ht : Bytes w v tl) (htz : tl.length ≤ 1048576) :
    Calls Try.prog 13 #[u, v] w fun e w' => e = .returned (.bool true) ∧ Upd [] w w' := by
  have HT := Lib.hid ht
  obtain ⟨at_, kt, rfl, -, -, -⟩ := ht
  obtain ⟨a2, cap2, rfl, hlc2, hm2, hc2⟩ := hl
  have HNL : Hid (∀ i, i < l.length → (nth l i).l ≠ [] → ∀ y ∈ blk (slv (nth l i).lv), y < w.heap.size) := fun i hi hne y hy => (hg i hi).rd.lt hne y hy
  obtain ⟨L, HL⟩ : ∃ L, Hid (l.take 100 = L) := ⟨_, rfl⟩
  have hLn : L.length = 100 := by rw [← HL.out, List.length_take]; omega
  have hnth : ∀ i, i < 100 → nth L i = nth l i := fun i hi => by rw [← HL.out]; exact nth_take _ _ _ hi
  have HC2 : Hid (∀ i, i < 100 → ∃ b off, a2 = some ⟨b, off, none⟩ ∧ ∀ j, j < 6 → w.cell? ⟨b, off + (i * 6 + j), none⟩ = (itCells (nth L i))[j]?) := fun i hi => by
    obtain ⟨b, off, e, hc⟩ := hc2 (by intro q; have := congrArg List.length q; rw [List.length_nil] at this; omega)
    exact ⟨b, off, e, fun j hj => by rw [hnth i hi]; exact hc i (by omega) j hj⟩
  have HG : Hid (∀ i, i < 100 → ItGood w (nth L i) 1048576) := fun i hi => by rw [hnth i hi]; exact hg i (by omega)
  have HNG : Hid (∀ i, i < 100 → (nth L i).l ≠ [] → ∀ y ∈ blk (slv (nth L i).lv), y < w.heap.size) := fun i hi => by rw [hnth i hi]; exact HNL.out i (by omega)
  have HAT := Lib.hid (fun n (h : n < 100) => allIt_take L n (by rw [hLn]; exact h))
  have HAD := Lib.hid (fun n (h : n < 100) => allIt_drop L tl n (by rw [hLn]; exact h))
  have HALL : Hid (allIt (L.take 100) = allIt L) := by unfold Hid; rw [List.take_of_length_le (by omega)]
  have hcap : 100 ≤ cap2 := by omega
  have hng : (100 : Int) < l.length := by omega
  have hcap3 : (100 : Int) ≤ cap2 := by omega
  have hcutL : ∀ W, (Instr.slice 54 (.slice a2 l.length cap2) none (some (.int .i64 100)) none).run Try.prog W = .ok (.slice a2 100 cap2) W := run_cut_h (P := Try.prog) Try.underlying54 sizeItem a2 l.length cap2 100 hcap
  have HLN := Lib.hid hLn
  clear hc2 hg hm2 hlc2 HNL hnth hLn
  go_enter Try.func13, Try.ntmps13
  go_wp2_with fail
  go_loopw [5, 6] (fun b i wr => ∃ (n : Nat) (c : List UInt8), i = .int .i64 (n : Int) ∧ n ≤ 100 ∧ c = allIt (L.take n) ∧ c.length ≤ 10000000 * n ∧ Hid (Own bv w.heap.size 5 wr b c) ∧ Hid (Upd [] w wr)) (fun _ i _ => 100 - (intOf i).toNat)
  case atStart => exact ⟨0, [], rfl, Nat.zero_le _, by simp [allIt], by simp, Own.nil _ _ _, Upd.refl _ _⟩
  case round =>
    obtain ⟨n, c, rfl, hn, hce, hcl, hob, hu⟩ := hrel
    have HCE := Lib.hid hce
    clear hce
    obtain ⟨ab, cb, rfl, -⟩ := hob.out.rd
    by_cases hlt : n < 100
    · obtain ⟨pb, po, hae, hcs⟩ := HC2.out n hlt
      subst hae
      have HIT := Lib.hid ((HG.out n hlt).upd hu.out)
      have hle := encIt_le _ w (HG.out n hlt)
      have HST : Hid (c ++ encIt (nth L n) = allIt (L.take (n + 1))) := by unfold Hid; rw [HCE.out, HAT.out n hlt]
      have hcl2 : (c ++ encIt (nth L n)).length ≤ 10000000 * (n + 1) := by rw [List.length_append]; omega
      generalize nth L n = x at *
      obtain ⟨kd, nn, mo, s, f, lv, ll⟩ := x
      obtain ⟨la, ln, lk⟩ := lv
      obtain ⟨B, HBE⟩ : ∃ B, Hid (c ++ encIt ⟨kd, nn, mo, s, f, ⟨la, ln, lk⟩, ll⟩ = B) := ⟨_, rfl⟩
      rw [HBE.out] at HST hcl2
      have HPU : Hid (Calls Try.prog 38 #[.slice ab c.length cb, .agg #[.int .i64 kd, .int .i64 nn, .int .i64 mo, .string s, .bool f, .slice la ln lk]] wr fun e w' => PutSaid wr B e w') := by
        rw [← HBE.out]; exact put_any wr _ c hob.out.rd (by omega) ⟨kd, nn, mo, s, f, ⟨la, ln, lk⟩, ll⟩ HIT.out
      have c0 : wr.cell? ⟨pb, po + n * 6, none⟩ = some (.int .i64 kd) := hu.out.cell (hcs 0 (by omega)) (by simp)
      have c1 : wr.cell? ⟨pb, po + n * 6 + 1, none⟩ = some (.int .i64 nn) := by rw [Nat.add_assoc]; exact hu.out.cell (hcs 1 (by omega)) (by simp)
      have c2 : wr.cell? ⟨pb, po + n * 6 + 2, none⟩ = some (.int .i64 mo) := by rw [Nat.add_assoc]; exact hu.out.cell (hcs 2 (by omega)) (by simp)
      have c3 : wr.cell? ⟨pb, po + n * 6 + 3, none⟩ = some (.string s) := by rw [Nat.add_assoc]; exact hu.out.cell (hcs 3 (by omega)) (by simp)
      have c4 : wr.cell? ⟨pb, po + n * 6 + 4, none⟩ = some (.bool f) := by rw [Nat.add_assoc]; exact hu.out.cell (hcs 4 (by omega)) (by simp)
      have c5 : wr.cell? ⟨pb, po + n * 6 + 5, none⟩ = some (.slice la ln lk) := by rw [Nat.add_assoc]; exact hu.out.cell (hcs 5 (by omega)) (by simp)
      clear hcs hle
      go_wp2_with fail
      with_reducible refine HPU.out.mono ?_
      rintro e w3 ⟨x3, y3, rfl, ho3, hoy3, hu3⟩
      have HO3 := Lib.hid (ho3.base_le hu.out.size)
      have HU3 := Lib.hid (hu.out.seq hu3)
      clear ho3 hoy3 hu3
      go_wp2_with fail
      go_roundw
      case rel => exact ⟨n + 1, B, by go_num, by omega, HST.out, hcl2, HO3, HU3⟩
      case measure => simp [intOf]; omega
    · obtain rfl : n = 100 := by omega
      have hbl : c.length ≤ 10000000 * 100 := by omega
      have hca : c = allIt L := by rw [HCE.out, HALL.out]
      have HCA := Lib.hid hca
      have hct : (c ++ tl).length = c.length + tl.length := List.length_append
      have hs0 := hu.out.size
      clear hca
      go_wp2_with (at_builtin; refine wpList_app bv_one rfl (.tmp 33) (.tmp 34) rfl Try.underlying22 infoByte rfl (.slice ab c.length cb) (.slice at_ tl.length kt) c tl rfl rfl hob.out (HT.out.upd0 hu.out) (by omega) (by unfold maxLen; omega) hs0 ?_; intro v4 w4 ho4 hu4 hbk; have HU4 : Hid (Upd [] w w4) := hu.out.trans hu4 (by simp) (fun x hx => .inr (hob.out.ge x hx).1); have HO4 := Lib.hid ho4; clear ho4 hu4 hbk)
      with_reducible refine (rRead_any _ _ (c ++ tl) HO4.out.rd (by omega)).mono ?_
      rintro e w5 ⟨g, vg, rfl, h5, hu5⟩
      have HU5 := Lib.hid (HU4.out.seq hu5)
      have hgs : w.heap.size ≤ g := Nat.le_trans HU4.out.size h5.gb
      have HR5 := Lib.hid h5
      have hg0 : (allIt (L.take 0)).length = 0 := by simp [allIt]
      obtain ⟨base, hbs⟩ : ∃ base, Hid (w4.heap.size = base) := ⟨_, rfl⟩
      rw [hbs.out] at HR5
      clear h5 hu5 HU4 HO4
      go_wp2_with fail
      go_loopw [9] (fun i wq => ∃ n : Nat, i = .int .i64 (n : Int) ∧ n ≤ 100 ∧ Hid (RdrAt 79 base wq g vg (c ++ tl) ((allIt (L.take n)).length, 0)) ∧ Hid (Upd [] w wq)) (fun i _ => 100 - (intOf i).toNat)
      case atStart => exact ⟨0, rfl, Nat.zero_le _, by rw [hg0]; exact HR5, HU5⟩
      case round =>
        obtain ⟨n, rfl, hn2, hrd, hq⟩ := hrel
        clear HR5 HU5
        by_cases hl2 : n < 100
        · obtain ⟨pb, po, hae, hcs⟩ := HC2.out n hl2
          subst hae
          have HIT := Lib.hid ((HG.out n hl2).upd hq.out)
          have hdr := HAD.out n hl2
          rw [← HCA.out] at hdr
          have hgl : (nth L n).l ≠ [] → ∀ y ∈ blk (slv (nth L n).lv), y ≠ g := fun hne y hy => by have := HNG.out n hl2 hne y hy; omega
          have HBK := Lib.hid (back_any wr (nth L n) HIT.out _ _ hrd.out.at_ hdr hgl hrd.out)
          have hnx : (allIt (L.take n)).length + (encIt (nth L n)).length = (allIt (L.take (n + 1))).length := by rw [HAT.out n hl2, List.length_append]
          rw [hnx] at HBK
          generalize nth L n = x at *
          obtain ⟨kd, nn, mo, s, f, lv, ll⟩ := x
          obtain ⟨la, ln, lk⟩ := lv
          dsimp only [itV, slv] at HBK
          have c0 : wr.cell? ⟨pb, po + n * 6, none⟩ = some (.int .i64 kd) := hq.out.cell (hcs 0 (by omega)) (by simp)
          have c1 : wr.cell? ⟨pb, po + n * 6 + 1, none⟩ = some (.int .i64 nn) := by rw [Nat.add_assoc]; exact hq.out.cell (hcs 1 (by omega)) (by simp)
          have c2 : wr.cell? ⟨pb, po + n * 6 + 2, none⟩ = some (.int .i64 mo) := by rw [Nat.add_assoc]; exact hq.out.cell (hcs 2 (by omega)) (by simp)
          have c3 : wr.cell? ⟨pb, po + n * 6 + 3, none⟩ = some (.string s) := by rw [Nat.add_assoc]; exact hq.out.cell (hcs 3 (by omega)) (by simp)
          have c4 : wr.cell? ⟨pb, po + n * 6 + 4, none⟩ = some (.bool f) := by rw [Nat.add_assoc]; exact hq.out.cell (hcs 4 (by omega)) (by simp)
          have c5 : wr.cell? ⟨pb, po + n * 6 + 5, none⟩ = some (.slice la ln lk) := by rw [Nat.add_assoc]; exact hq.out.cell (hcs 5 (by omega)) (by simp)
          clear hcs hdr hgl hnx HIT
          go_wp2_with fail
          with_reducible refine HBK.out.mono ?_
          rintro e w7 ⟨rfl, h7, hu7⟩
          have HU7 : Hid (Upd [] w w7) := hq.out.trans hu7 (by simp) (fun x hx => by simp at hx; subst hx; exact .inr hgs)
          have HR7 := Lib.hid h7
          clear hu7 h7 c0 c1 c2 c3 c4 c5
          go_wp2_with fail
          with_reducible refine (rErr_any _ HR7.out).mono ?_
          rintro e w8 ⟨rfl, rfl⟩
          go_wp2_with fail
          go_roundw
          case rel => exact ⟨n + 1, by go_num, by omega, HR7, HU7⟩
          case measure => simp [intOf]; omega
        · obtain rfl : n = 100 := by omega
          have hat : (allIt (L.take 100)).length = c.length := by rw [← HCE.out]
          rw [hat] at hrd
          clear hat
          go_wp2_with fail
          with_reducible refine (rAt_any _ hrd.out).mono ?_
          rintro e w8 ⟨rfl, rfl⟩
          dsimp only
          go_wp2_with fail
          with_reducible refine (rEnd_any _ hrd.out).mono ?_
          by_cases h0 : tl.length = 0
          · have he : rdEnd (c ++ tl) (c.length, 0) = (c.length, 0) := if_neg (by simp only; omega)
            rw [he]
            rintro e w9 ⟨rfl, h9, hu9⟩
            have HU9 : Hid (Upd [] w w9) := hq.out.trans hu9 (by simp) (fun x hx => by simp at hx; subst hx; exact .inr hgs)
            clear hu9 he
            dsimp only
            go_wp2_with fail
            with_reducible refine (wireRuns_any _).mono ?_
            rintro e w11 ⟨rfl, hu11⟩
            go_wp2_with fail
            go_ret
            exact ⟨rfl, HU9.out.seq hu11⟩
          · have he : rdEnd (c ++ tl) (c.length, 0) = (c.length, 5) := if_pos ⟨rfl, by show c.length < (c ++ tl).length; omega⟩
            rw [he]
            rintro e w9 ⟨rfl, h9, hu9⟩
            have HU9 : Hid (Upd [] w w9) := hq.out.trans hu9 (by simp) (fun x hx => by simp at hx; subst hx; exact .inr hgs)
            have h02 : ((tl.length : Int) == 0) = false := by rw [beq_eq_false_iff_ne]; omega
            clear hu9 he h0
            dsimp only
            go_wp2_with fail
            with_reducible refine (rAt_any _ h9).mono ?_
            rintro e w10 ⟨rfl, rfl⟩
            dsimp only
            go_wp2_with fail
            with_reducible refine (wireRuns_any _).mono ?_
            rintro e w11 ⟨rfl, hu11⟩
            go_wp2_with fail
            go_ret
            exact ⟨rfl, HU9.out.seq hu11⟩
theorem wireBack_any (w : World) (u : Value) (l : List Itm) (hl : RdN 6 itCells w u l) (hg : ∀ i, i < l.length → ItGood w (nth l i) 1048576) (hlz : l.length ≤ 1048576) (v : Value) (tl : List UInt8) (ht : Bytes w v tl) (htz : tl.length ≤ 1048576) :
    Calls Try.prog 13 #[u, v] w fun e w' => e = .returned (.bool true) ∧ Upd [] w w' := by
  by_cases h : l.length ≤ 100
  · exact back_walkS w u l hl hg h v tl ht htz
  · exact back_walkL w u l hl hg (by omega) v tl ht htz
end Go.Proofs.Ythnmlifnlmdelaa
