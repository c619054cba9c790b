/- The walk of YardKeeps. -/
import Derived.Test.YtmhdhnipljonlaaYardFirst
import Derived.Test.YtmhdhnipljonlaaOpenAsk21
namespace Go.Proofs.Ytmhdhnipljonlaa
open Go.RowKit
set_option linter.unusedSimpArgs false
set_option linter.unusedVariables false
abbrev sOwn : ByteArray := ⟨#[111, 119, 110]⟩
theorem i64_max : I64 65536 := ⟨by omega, by omega⟩
theorem str_neq {a b : ByteArray} (h : a ≠ b) : (a.toList == b.toList) = false := by rw [beq_eq_false_iff_ne]; exact fun q => h (str_inj _ _ q)
set_option maxRecDepth 20000 in
set_option maxHeartbeats 8000000 in
theorem yardKeeps_any (w : World) (vl : Value) (l : List Ask21) (hl : RdN 7 ask21Cells w vl l) (hg : ∀ x ∈ l, Ask21Good w x) (vn : Value) (names : List ByteArray) (hn : Rd sv w vn names) (_ : ∀ x ∈ names, x.size ≤ maxLen) (vd : Value) (data : List UInt8) (hd : Bytes w vd data) (_ : data.length ≤ 140737488351232) :
    Calls Try.prog 12 #[vl, vn, vd] w fun e w' => e = .returned (.bool true) ∧ Upd [] w w' := by
  have HD := Lib.hid hd
  obtain ⟨a1, cap1, rfl, hlc1, hcm1, hcell1⟩ := hl
  obtain ⟨a2, cap2, rfl, hlc2, hcm2, hcell2⟩ := hn
  obtain ⟨a3, cap3, rfl, hlc3, hcm3, -⟩ := hd
  have hm1 : l.length ≤ 9223372036854775807 := by unfold maxLen at hcm1; omega
  have hm2 : names.length ≤ 9223372036854775807 := by unfold maxLen at hcm2; omega
  have hm3 : data.length ≤ 9223372036854775807 := by unfold maxLen at hcm3; omega
  have HC1 := Lib.hid hcell1
  have HC2 := Lib.hid hcell2
  have HG := Lib.hid hg
  clear hlc1 hcm1 hcell1 hlc2 hcm2 hcell2 hlc3 hcm3 hg
  go_enter Try.func12, Try.ntmps12
  go_wp2_with fail
  (with_reducible refine (yNew_any w _ (Upd.refl [] w)).mono ?_)
  rintro e w1 ⟨gy, rfl, ⟨G1, h1, -⟩, -⟩
  have H1 := Lib.hid h1
  clear h1
  by_cases hbig : 2000 < data.length
  · have q0 : (2000 : Int) < data.length := by omega
    go_wp2_with fail
    (with_reducible refine (yardRuns_any _).mono ?_)
    rintro e w4 ⟨rfl, hu4⟩
    have HU4 := Lib.hid (H1.out.old.trans hu4 (fun _ hx => hx) (by simp))
    clear hu4
    go_wp2_with fail
    go_ret
    exact ⟨rfl, HU4.out⟩
  · have q0 : ¬ (2000 : Int) < data.length := by omega
    have HYA : Hid (yAppend [(1, (sOwn, []))] sOwn data = (0, [(1, (sOwn, data))])) := by
      unfold Hid
      rw [one_append, if_neg (by simp; omega)]; rfl
    go_wp2_with fail
    (with_reducible refine (yCreate_any sOwn H1.out).mono ?_)
    rintro e w2 ⟨rfl, G2, h2, -, -⟩
    have H2 : Hid (YD w w2 gy G2 [(1, (sOwn, []))] []) := h2
    rw [show (yCreate [] sOwn).1 = 0 by kernel_rfl]
    clear h2 H1
    go_wp2_with fail
    (with_reducible refine (yAppend_any sOwn _ data (HD.out.upd0 H2.out.old) (by omega) H2.out).mono ?_)
    rw [HYA.out]
    rintro e w3 ⟨rfl, G3, h3, -, -⟩
    have H3 : Hid (YD w w3 gy G3 [(1, (sOwn, data))] []) := h3
    clear h3 H2
    go_wp2_with fail
    (with_reducible refine (yFindF_any sOwn H3.out).mono ?_)
    rw [First.tell ⟨[], rfl⟩]
    rintro e w4 ⟨rfl, hu4⟩
    have HS4 := Lib.hid ((H3.out.upd0 hu4).upd0 ((Upd.refl [] w4).alloc (.cells #[.int .i64 1, .string sOwn, .int .i64 data.length] 31)))
    have HB4 := Lib.hid (Blk.new w4 31 [.int .i64 1, .string sOwn, .int .i64 data.length])
    have HG4 : Hid (w4.heap.size ∉ G3) := fun hx => by have := ((H3.out.upd0 hu4).ge _ hx).2; omega
    have hsz4 := (H3.out.upd0 hu4).old.size
    clear hu4 H3
    go_wp2_with fail
    generalize w4.alloc (.cells #[.int .i64 1, .string sOwn, .int .i64 data.length] 31) = w5 at *
    generalize w4.heap.size = g8 at *
    go_loopw [10, 11] (fun va vi wr => ∃ (k A : Nat) (G : List Nat) (fl : FL) (tk : List (Int × Int)) (a : ByteArray), k ≤ 20 ∧ k ≤ names.length ∧ va = .string a ∧ vi = .int .i64 k ∧ A ≤ 2000 * k ∧ Hid (TK tk A) ∧ Hid (First a data fl) ∧ Hid (YD w wr gy G fl tk) ∧ Hid (Blk wr g8 31 [.int .i64 1, .string sOwn, .int .i64 data.length]) ∧ Hid (g8 ∉ G)) (fun _ vi _ => 20 - (intOf vi).toNat)
    case atStart => exact ⟨0, 0, G3, _, [], sOwn, by omega, by omega, rfl, rfl, by omega, .inl ⟨rfl, rfl⟩, ⟨[], rfl⟩, HS4, HB4, HG4⟩
    case round =>
      clear HS4 HB4 HG4
      obtain ⟨k, A, G, fl, tk, a, hk, hkl, rfl, rfl, hA, htk, hF, hs, hB, hG⟩ := hrel
      have hend : (k < names.length ∧ k < 20) ∨ (k = names.length ∧ Hid (k ≤ 20)) ∨ (k = 20 ∧ k < names.length) := by unfold Hid; omega
      rcases hend with ⟨hlt, h20⟩ | hend
      · obtain ⟨nb, noff, rfl, hcn⟩ := HC2.out (by intro h; simp [h] at hlt)
        have HCN := Lib.hid (show w.cell? ⟨nb, noff + k, none⟩ = some (.string (nth names k)) from hcn k hlt)
        generalize nth names k = t at *
        have q1 : (k : Int) < names.length := by omega
        have q2 : (k : Int) < 20 := by omega
        clear hcn
        by_cases hkl1 : k < l.length
        · obtain ⟨lb, loff, rfl, hca⟩ := HC1.out (by intro h; simp [h] at hkl1)
          have r1 : (k : Int) < l.length := by omega
          have d0 : wr.cell? ⟨lb, loff + k * 7, none⟩ = some (.int .i64 (nth l k).kd) := hs.out.old.cell (hca k hkl1 0 (by omega)) (by simp)
          have d4 : wr.cell? ⟨lb, loff + k * 7 + 4, none⟩ = some (.string (nth l k).nm) := hs.out.old.cell (hca k hkl1 4 (by omega)) (by simp)
          have d5 : wr.cell? ⟨lb, loff + k * 7 + 5, none⟩ = some (.string (nth l k).to) := hs.out.old.cell (hca k hkl1 5 (by omega)) (by simp)
          have d6 : wr.cell? ⟨lb, loff + k * 7 + 6, none⟩ = some (slv (nth l k).dv) := hs.out.old.cell (hca k hkl1 6 (by omega)) (by simp)
          have hgx := HG.out (nth l k) (by rw [nth_get _ _ hkl1]; exact List.getElem_mem _)
          generalize nth l k = x at *
          obtain ⟨kd, n0, pos, ino, nm, tn, ⟨da, dn, dc⟩, d⟩ := x
          obtain ⟨-, -, -, -, hrd⟩ := hgx
          have HRD : Hid (Bytes w (.slice da dn dc) d) := hrd
          have hdn : dn = d.length := by
            obtain ⟨a', c', he, -⟩ := HRD.out
            injection he with e1 e2 e3
          subst hdn
          have hdm : d.length ≤ 9223372036854775807 := by
            obtain ⟨a', c', he, h1, h2, -⟩ := HRD.out
            unfold maxLen at h2; omega
          simp only [slv] at d0 d4 d5 d6
          clear hca hrd
          by_cases e4 : nm = a
          · have t4 : (nm.toList == a.toList) = true := by rw [e4]; simp
            clear e4
            have c0 : wr.cell? ⟨nb, noff + k, none⟩ = some (.string t) := hs.out.old.cell HCN.out (by simp)
            go_wp2_with fail
            (with_reducible refine (yRename_any a t hs.out).mono ?_)
            have hren := hF.out.rename hs.out.ris.1 t
            obtain ⟨r0, fl4, hy⟩ : ∃ r0 fl4, yRename fl a t = (r0, fl4) := ⟨_, _, rfl⟩
            rw [hy] at hren
            have HYR := Lib.hid hy
            clear hy c0
            rcases hren with ⟨e1, f1⟩ | ⟨e1, f1⟩
            · have e1 : r0 = 0 := e1
              subst e1
              have f1 : First t data fl4 := f1
              have HF4 := Lib.hid f1
              have HT := Lib.hid f1.tell
              have HRE := Lib.hid (f1.read htk.out (by omega))
              clear f1
              rw [HYR.out]
              rintro e w4 ⟨rfl, G4, h4, hu4, hf4⟩
              have HS4 : Hid (YD w w4 gy G4 fl4 tk) := h4
              have HB4 := Lib.hid (hB.out.upd hu4 hG.out)
              have hltB := hB.out.lt
              have HG4 : Hid (g8 ∉ G4) := fun hx => by
                rcases hf4 _ hx with r | r
                · exact hG.out r
                · omega
              have c4 : w4.cell? ⟨nb, noff + k, none⟩ = some (.string t) := HS4.out.old.cell HCN.out (by simp)
              clear h4 hu4 hf4 hs hB hG HYR hltB
              go_wp2_with fail
              (with_reducible refine (yFindF_any t HS4.out).mono ?_)
              rw [HT.out]
              rintro e w5 ⟨rfl, hu5⟩
              have HS5 := Lib.hid (HS4.out.upd0 hu5)
              have HS6 := Lib.hid (HS5.out.upd0 ((Upd.refl [] w5).alloc (.cells #[.int .i64 1, .string t, .int .i64 data.length] 31)))
              have hB5 := HB4.out.upd hu5 (by simp)
              have b0 := hB5.cell 0
              simp only [List.getElem?_cons_zero] at b0
              have hlt5 := hB5.lt
              have HB6 := Lib.hid (hB5.upd ((Upd.refl [] w5).alloc (.cells #[.int .i64 1, .string t, .int .i64 data.length] 31)) (by simp))
              have HN6 := Lib.hid (Blk.new w5 31 [.int .i64 1, .string t, .int .i64 data.length])
              have HGN : Hid (w5.heap.size ∉ G4) := fun hx => by have := (HS5.out.ge _ hx).2; omega
              have HLN : Hid (w5.heap.size < (w5.alloc (.cells #[.int .i64 1, .string t, .int .i64 data.length] 31)).heap.size) := HN6.out.lt
              have HTL : Hid (tk.length ≤ 50000) := by have := htk.out.len; unfold Hid; omega
              have HTB := Lib.hid (htk.out.bd (by omega))
              clear hu5 hB5 HS4 HB4 c4
              go_wp2_with fail
              (with_reducible refine (yRead_any 1 0 65536 (i64_s 1 (by omega) (by omega)) (i64_s 0 (by omega) (by omega)) i64_max HS6.out HTL.out HTB.out).mono ?_)
              rw [HRE.out]
              rintro e w7 ⟨v7, rfl, ho7, G7, h7, hu7, hf7, -⟩
              have HS7 : Hid (YD w w7 gy G7 fl4 [((1 : Int), ((A + data.length : Nat) : Int))]) := h7
              have HO7 := Lib.hid ho7
              have hB7 := HB6.out.upd hu7 HG4.out
              have hN7 := HN6.out.upd hu7 HGN.out
              have b7 := hB7.cell 0
              have n0' := hN7.cell 0
              have n2' := hN7.cell 2
              simp only [List.getElem?_cons_zero, List.getElem?_cons_succ] at b7 n0' n2'
              have HB7 := Lib.hid hB7
              have HG7 : Hid (g8 ∉ G7) := fun hx => by
                rcases hf7 _ hx with r | r
                · exact HG4.out r
                · have := HLN.out; omega
              obtain ⟨a7, c7, rfl, h7c, h7m, -⟩ := ho7.rd
              clear h7 hu7 hf7 ho7 hB7 hN7 HS5 HS6 HB6 HN6 HTL HTB HLN HGN b0 h7c h7m
              go_wp2_with fail
              (with_reducible refine (sameByte_ok _ _ data _ HO7.out.rd (HD.out.upd0 HS7.out.old)).mono ?_)
              rintro e w8 ⟨rfl, n8, rfl⟩
              have HS8 := Lib.hid (HS7.out.upd0 ((Upd.refl [] w7).drewN n8))
              have HB8 := Lib.hid (HB7.out.upd ((Upd.refl [] w7).drewN n8) (by simp))
              generalize w7.drewN n8 = w8 at *
              clear HS7 HB7 HO7 b7 n0' n2'
              go_wp2_with fail
              go_roundw
              case rel => exact ⟨k + 1, A + data.length, G7, fl4, [((1 : Int), ((A + data.length : Nat) : Int))], t, by omega, by omega, rfl, by go_num, by omega, .inr rfl, HF4, HS8, HB8, HG7⟩
              case measure => simp [intOf]; omega
            · have e1 : r0 = 14 := e1
              subst e1
              have f1 : First a data fl4 := f1
              have HF4 := Lib.hid f1
              have HT := Lib.hid f1.tell
              have HRE := Lib.hid (f1.read htk.out (by omega))
              clear f1
              rw [HYR.out]
              rintro e w4 ⟨rfl, G4, h4, hu4, hf4⟩
              have HS4 : Hid (YD w w4 gy G4 fl4 tk) := h4
              have HB4 := Lib.hid (hB.out.upd hu4 hG.out)
              have hltB := hB.out.lt
              have HG4 : Hid (g8 ∉ G4) := fun hx => by
                rcases hf4 _ hx with r | r
                · exact hG.out r
                · omega
              have c4 : w4.cell? ⟨nb, noff + k, none⟩ = some (.string t) := HS4.out.old.cell HCN.out (by simp)
              clear h4 hu4 hf4 hs hB hG HYR hltB
              go_wp2_with fail
              (with_reducible refine (yFindF_any a HS4.out).mono ?_)
              rw [HT.out]
              rintro e w5 ⟨rfl, hu5⟩
              have HS5 := Lib.hid (HS4.out.upd0 hu5)
              have HS6 := Lib.hid (HS5.out.upd0 ((Upd.refl [] w5).alloc (.cells #[.int .i64 1, .string a, .int .i64 data.length] 31)))
              have hB5 := HB4.out.upd hu5 (by simp)
              have b0 := hB5.cell 0
              simp only [List.getElem?_cons_zero] at b0
              have hlt5 := hB5.lt
              have HB6 := Lib.hid (hB5.upd ((Upd.refl [] w5).alloc (.cells #[.int .i64 1, .string a, .int .i64 data.length] 31)) (by simp))
              have HN6 := Lib.hid (Blk.new w5 31 [.int .i64 1, .string a, .int .i64 data.length])
              have HGN : Hid (w5.heap.size ∉ G4) := fun hx => by have := (HS5.out.ge _ hx).2; omega
              have HLN : Hid (w5.heap.size < (w5.alloc (.cells #[.int .i64 1, .string a, .int .i64 data.length] 31)).heap.size) := HN6.out.lt
              have HTL : Hid (tk.length ≤ 50000) := by have := htk.out.len; unfold Hid; omega
              have HTB := Lib.hid (htk.out.bd (by omega))
              clear hu5 hB5 HS4 HB4 c4
              go_wp2_with fail
              (with_reducible refine (yRead_any 1 0 65536 (i64_s 1 (by omega) (by omega)) (i64_s 0 (by omega) (by omega)) i64_max HS6.out HTL.out HTB.out).mono ?_)
              rw [HRE.out]
              rintro e w7 ⟨v7, rfl, ho7, G7, h7, hu7, hf7, -⟩
              have HS7 : Hid (YD w w7 gy G7 fl4 [((1 : Int), ((A + data.length : Nat) : Int))]) := h7
              have HO7 := Lib.hid ho7
              have hB7 := HB6.out.upd hu7 HG4.out
              have hN7 := HN6.out.upd hu7 HGN.out
              have b7 := hB7.cell 0
              have n0' := hN7.cell 0
              have n2' := hN7.cell 2
              simp only [List.getElem?_cons_zero, List.getElem?_cons_succ] at b7 n0' n2'
              have HB7 := Lib.hid hB7
              have HG7 : Hid (g8 ∉ G7) := fun hx => by
                rcases hf7 _ hx with r | r
                · exact HG4.out r
                · have := HLN.out; omega
              obtain ⟨a7, c7, rfl, h7c, h7m, -⟩ := ho7.rd
              clear h7 hu7 hf7 ho7 hB7 hN7 HS5 HS6 HB6 HN6 HTL HTB HLN HGN b0 h7c h7m
              go_wp2_with fail
              (with_reducible refine (sameByte_ok _ _ data _ HO7.out.rd (HD.out.upd0 HS7.out.old)).mono ?_)
              rintro e w8 ⟨rfl, n8, rfl⟩
              have HS8 := Lib.hid (HS7.out.upd0 ((Upd.refl [] w7).drewN n8))
              have HB8 := Lib.hid (HB7.out.upd ((Upd.refl [] w7).drewN n8) (by simp))
              generalize w7.drewN n8 = w8 at *
              clear HS7 HB7 HO7 b7 n0' n2'
              go_wp2_with fail
              go_roundw
              case rel => exact ⟨k + 1, A + data.length, G7, fl4, [((1 : Int), ((A + data.length : Nat) : Int))], a, by omega, by omega, rfl, by go_num, by omega, .inr rfl, HF4, HS8, HB8, HG7⟩
              case measure => simp [intOf]; omega
          · have t4 := str_neq e4
            by_cases e5 : tn = a
            · have t5 : (tn.toList == a.toList) = true := by rw [e5]; simp
              clear e5
              have c0 : wr.cell? ⟨nb, noff + k, none⟩ = some (.string t) := hs.out.old.cell HCN.out (by simp)
              go_wp2_with fail
              (with_reducible refine (yRename_any a t hs.out).mono ?_)
              have hren := hF.out.rename hs.out.ris.1 t
              obtain ⟨r0, fl4, hy⟩ : ∃ r0 fl4, yRename fl a t = (r0, fl4) := ⟨_, _, rfl⟩
              rw [hy] at hren
              have HYR := Lib.hid hy
              clear hy c0
              rcases hren with ⟨e1, f1⟩ | ⟨e1, f1⟩
              · have e1 : r0 = 0 := e1
                subst e1
                have f1 : First t data fl4 := f1
                have HF4 := Lib.hid f1
                have HT := Lib.hid f1.tell
                have HRE := Lib.hid (f1.read htk.out (by omega))
                clear f1
                rw [HYR.out]
                rintro e w4 ⟨rfl, G4, h4, hu4, hf4⟩
                have HS4 : Hid (YD w w4 gy G4 fl4 tk) := h4
                have HB4 := Lib.hid (hB.out.upd hu4 hG.out)
                have hltB := hB.out.lt
                have HG4 : Hid (g8 ∉ G4) := fun hx => by
                  rcases hf4 _ hx with r | r
                  · exact hG.out r
                  · omega
                have c4 : w4.cell? ⟨nb, noff + k, none⟩ = some (.string t) := HS4.out.old.cell HCN.out (by simp)
                clear h4 hu4 hf4 hs hB hG HYR hltB
                go_wp2_with fail
                (with_reducible refine (yFindF_any t HS4.out).mono ?_)
                rw [HT.out]
                rintro e w5 ⟨rfl, hu5⟩
                have HS5 := Lib.hid (HS4.out.upd0 hu5)
                have HS6 := Lib.hid (HS5.out.upd0 ((Upd.refl [] w5).alloc (.cells #[.int .i64 1, .string t, .int .i64 data.length] 31)))
                have hB5 := HB4.out.upd hu5 (by simp)
                have b0 := hB5.cell 0
                simp only [List.getElem?_cons_zero] at b0
                have hlt5 := hB5.lt
                have HB6 := Lib.hid (hB5.upd ((Upd.refl [] w5).alloc (.cells #[.int .i64 1, .string t, .int .i64 data.length] 31)) (by simp))
                have HN6 := Lib.hid (Blk.new w5 31 [.int .i64 1, .string t, .int .i64 data.length])
                have HGN : Hid (w5.heap.size ∉ G4) := fun hx => by have := (HS5.out.ge _ hx).2; omega
                have HLN : Hid (w5.heap.size < (w5.alloc (.cells #[.int .i64 1, .string t, .int .i64 data.length] 31)).heap.size) := HN6.out.lt
                have HTL : Hid (tk.length ≤ 50000) := by have := htk.out.len; unfold Hid; omega
                have HTB := Lib.hid (htk.out.bd (by omega))
                clear hu5 hB5 HS4 HB4 c4
                go_wp2_with fail
                (with_reducible refine (yRead_any 1 0 65536 (i64_s 1 (by omega) (by omega)) (i64_s 0 (by omega) (by omega)) i64_max HS6.out HTL.out HTB.out).mono ?_)
                rw [HRE.out]
                rintro e w7 ⟨v7, rfl, ho7, G7, h7, hu7, hf7, -⟩
                have HS7 : Hid (YD w w7 gy G7 fl4 [((1 : Int), ((A + data.length : Nat) : Int))]) := h7
                have HO7 := Lib.hid ho7
                have hB7 := HB6.out.upd hu7 HG4.out
                have hN7 := HN6.out.upd hu7 HGN.out
                have b7 := hB7.cell 0
                have n0' := hN7.cell 0
                have n2' := hN7.cell 2
                simp only [List.getElem?_cons_zero, List.getElem?_cons_succ] at b7 n0' n2'
                have HB7 := Lib.hid hB7
                have HG7 : Hid (g8 ∉ G7) := fun hx => by
                  rcases hf7 _ hx with r | r
                  · exact HG4.out r
                  · have := HLN.out; omega
                obtain ⟨a7, c7, rfl, h7c, h7m, -⟩ := ho7.rd
                clear h7 hu7 hf7 ho7 hB7 hN7 HS5 HS6 HB6 HN6 HTL HTB HLN HGN b0 h7c h7m
                go_wp2_with fail
                (with_reducible refine (sameByte_ok _ _ data _ HO7.out.rd (HD.out.upd0 HS7.out.old)).mono ?_)
                rintro e w8 ⟨rfl, n8, rfl⟩
                have HS8 := Lib.hid (HS7.out.upd0 ((Upd.refl [] w7).drewN n8))
                have HB8 := Lib.hid (HB7.out.upd ((Upd.refl [] w7).drewN n8) (by simp))
                generalize w7.drewN n8 = w8 at *
                clear HS7 HB7 HO7 b7 n0' n2'
                go_wp2_with fail
                go_roundw
                case rel => exact ⟨k + 1, A + data.length, G7, fl4, [((1 : Int), ((A + data.length : Nat) : Int))], t, by omega, by omega, rfl, by go_num, by omega, .inr rfl, HF4, HS8, HB8, HG7⟩
                case measure => simp [intOf]; omega
              · have e1 : r0 = 14 := e1
                subst e1
                have f1 : First a data fl4 := f1
                have HF4 := Lib.hid f1
                have HT := Lib.hid f1.tell
                have HRE := Lib.hid (f1.read htk.out (by omega))
                clear f1
                rw [HYR.out]
                rintro e w4 ⟨rfl, G4, h4, hu4, hf4⟩
                have HS4 : Hid (YD w w4 gy G4 fl4 tk) := h4
                have HB4 := Lib.hid (hB.out.upd hu4 hG.out)
                have hltB := hB.out.lt
                have HG4 : Hid (g8 ∉ G4) := fun hx => by
                  rcases hf4 _ hx with r | r
                  · exact hG.out r
                  · omega
                have c4 : w4.cell? ⟨nb, noff + k, none⟩ = some (.string t) := HS4.out.old.cell HCN.out (by simp)
                clear h4 hu4 hf4 hs hB hG HYR hltB
                go_wp2_with fail
                (with_reducible refine (yFindF_any a HS4.out).mono ?_)
                rw [HT.out]
                rintro e w5 ⟨rfl, hu5⟩
                have HS5 := Lib.hid (HS4.out.upd0 hu5)
                have HS6 := Lib.hid (HS5.out.upd0 ((Upd.refl [] w5).alloc (.cells #[.int .i64 1, .string a, .int .i64 data.length] 31)))
                have hB5 := HB4.out.upd hu5 (by simp)
                have b0 := hB5.cell 0
                simp only [List.getElem?_cons_zero] at b0
                have hlt5 := hB5.lt
                have HB6 := Lib.hid (hB5.upd ((Upd.refl [] w5).alloc (.cells #[.int .i64 1, .string a, .int .i64 data.length] 31)) (by simp))
                have HN6 := Lib.hid (Blk.new w5 31 [.int .i64 1, .string a, .int .i64 data.length])
                have HGN : Hid (w5.heap.size ∉ G4) := fun hx => by have := (HS5.out.ge _ hx).2; omega
                have HLN : Hid (w5.heap.size < (w5.alloc (.cells #[.int .i64 1, .string a, .int .i64 data.length] 31)).heap.size) := HN6.out.lt
                have HTL : Hid (tk.length ≤ 50000) := by have := htk.out.len; unfold Hid; omega
                have HTB := Lib.hid (htk.out.bd (by omega))
                clear hu5 hB5 HS4 HB4 c4
                go_wp2_with fail
                (with_reducible refine (yRead_any 1 0 65536 (i64_s 1 (by omega) (by omega)) (i64_s 0 (by omega) (by omega)) i64_max HS6.out HTL.out HTB.out).mono ?_)
                rw [HRE.out]
                rintro e w7 ⟨v7, rfl, ho7, G7, h7, hu7, hf7, -⟩
                have HS7 : Hid (YD w w7 gy G7 fl4 [((1 : Int), ((A + data.length : Nat) : Int))]) := h7
                have HO7 := Lib.hid ho7
                have hB7 := HB6.out.upd hu7 HG4.out
                have hN7 := HN6.out.upd hu7 HGN.out
                have b7 := hB7.cell 0
                have n0' := hN7.cell 0
                have n2' := hN7.cell 2
                simp only [List.getElem?_cons_zero, List.getElem?_cons_succ] at b7 n0' n2'
                have HB7 := Lib.hid hB7
                have HG7 : Hid (g8 ∉ G7) := fun hx => by
                  rcases hf7 _ hx with r | r
                  · exact HG4.out r
                  · have := HLN.out; omega
                obtain ⟨a7, c7, rfl, h7c, h7m, -⟩ := ho7.rd
                clear h7 hu7 hf7 ho7 hB7 hN7 HS5 HS6 HB6 HN6 HTL HTB HLN HGN b0 h7c h7m
                go_wp2_with fail
                (with_reducible refine (sameByte_ok _ _ data _ HO7.out.rd (HD.out.upd0 HS7.out.old)).mono ?_)
                rintro e w8 ⟨rfl, n8, rfl⟩
                have HS8 := Lib.hid (HS7.out.upd0 ((Upd.refl [] w7).drewN n8))
                have HB8 := Lib.hid (HB7.out.upd ((Upd.refl [] w7).drewN n8) (by simp))
                generalize w7.drewN n8 = w8 at *
                clear HS7 HB7 HO7 b7 n0' n2'
                go_wp2_with fail
                go_roundw
                case rel => exact ⟨k + 1, A + data.length, G7, fl4, [((1 : Int), ((A + data.length : Nat) : Int))], a, by omega, by omega, rfl, by go_num, by omega, .inr rfl, HF4, HS8, HB8, HG7⟩
                case measure => simp [intOf]; omega
            · have t5 := str_neq e5
              clear e5
              by_cases e6 : d.length < 2000
              · have t6 : (d.length : Int) < 2000 := by omega
                by_cases k1 : kd = 1
                · subst k1
                  go_wp2_with fail
                  (with_reducible refine (yCreate_any nm hs.out).mono ?_)
                  rintro e wr' ⟨rfl, G', h', hu', hf'⟩
                  have hF' := Lib.hid (hF.out.create hs.out.ris.1 nm)
                  have hltB := hB.out.lt
                  have hB' := Lib.hid (hB.out.upd hu' hG.out)
                  have hG' : Hid (g8 ∉ G') := fun hx => by
                    rcases hf' _ hx with r | r
                    · exact hG.out r
                    · omega
                  have hs' := Lib.hid h'
                  clear hs hB hG hF hu' hf' h' hltB d0 d4 d5 d6
                  generalize hfl' : Prod.snd _ = fl' at hs' hF'
                  clear hfl'
                  have c0 : wr'.cell? ⟨nb, noff + k, none⟩ = some (.string t) := hs'.out.old.cell HCN.out (by simp)
                  go_wp2_with fail
                  (with_reducible refine (yRename_any a t hs'.out).mono ?_)
                  have hren := hF'.out.rename hs'.out.ris.1 t
                  obtain ⟨r0, fl4, hy⟩ : ∃ r0 fl4, yRename fl' a t = (r0, fl4) := ⟨_, _, rfl⟩
                  rw [hy] at hren
                  have HYR := Lib.hid hy
                  clear hy c0
                  rcases hren with ⟨e1, f1⟩ | ⟨e1, f1⟩
                  · have e1 : r0 = 0 := e1
                    subst e1
                    have f1 : First t data fl4 := f1
                    have HF4 := Lib.hid f1
                    have HT := Lib.hid f1.tell
                    have HRE := Lib.hid (f1.read htk.out (by omega))
                    clear f1
                    rw [HYR.out]
                    rintro e w4 ⟨rfl, G4, h4, hu4, hf4⟩
                    have HS4 : Hid (YD w w4 gy G4 fl4 tk) := h4
                    have HB4 := Lib.hid (hB'.out.upd hu4 hG'.out)
                    have hltB := hB'.out.lt
                    have HG4 : Hid (g8 ∉ G4) := fun hx => by
                      rcases hf4 _ hx with r | r
                      · exact hG'.out r
                      · omega
                    have c4 : w4.cell? ⟨nb, noff + k, none⟩ = some (.string t) := HS4.out.old.cell HCN.out (by simp)
                    clear h4 hu4 hf4 hs' hB' hG' HYR hltB
                    go_wp2_with fail
                    (with_reducible refine (yFindF_any t HS4.out).mono ?_)
                    rw [HT.out]
                    rintro e w5 ⟨rfl, hu5⟩
                    have HS5 := Lib.hid (HS4.out.upd0 hu5)
                    have HS6 := Lib.hid (HS5.out.upd0 ((Upd.refl [] w5).alloc (.cells #[.int .i64 1, .string t, .int .i64 data.length] 31)))
                    have hB5 := HB4.out.upd hu5 (by simp)
                    have b0 := hB5.cell 0
                    simp only [List.getElem?_cons_zero] at b0
                    have hlt5 := hB5.lt
                    have HB6 := Lib.hid (hB5.upd ((Upd.refl [] w5).alloc (.cells #[.int .i64 1, .string t, .int .i64 data.length] 31)) (by simp))
                    have HN6 := Lib.hid (Blk.new w5 31 [.int .i64 1, .string t, .int .i64 data.length])
                    have HGN : Hid (w5.heap.size ∉ G4) := fun hx => by have := (HS5.out.ge _ hx).2; omega
                    have HLN : Hid (w5.heap.size < (w5.alloc (.cells #[.int .i64 1, .string t, .int .i64 data.length] 31)).heap.size) := HN6.out.lt
                    have HTL : Hid (tk.length ≤ 50000) := by have := htk.out.len; unfold Hid; omega
                    have HTB := Lib.hid (htk.out.bd (by omega))
                    clear hu5 hB5 HS4 HB4 c4
                    go_wp2_with fail
                    (with_reducible refine (yRead_any 1 0 65536 (i64_s 1 (by omega) (by omega)) (i64_s 0 (by omega) (by omega)) i64_max HS6.out HTL.out HTB.out).mono ?_)
                    rw [HRE.out]
                    rintro e w7 ⟨v7, rfl, ho7, G7, h7, hu7, hf7, -⟩
                    have HS7 : Hid (YD w w7 gy G7 fl4 [((1 : Int), ((A + data.length : Nat) : Int))]) := h7
                    have HO7 := Lib.hid ho7
                    have hB7 := HB6.out.upd hu7 HG4.out
                    have hN7 := HN6.out.upd hu7 HGN.out
                    have b7 := hB7.cell 0
                    have n0' := hN7.cell 0
                    have n2' := hN7.cell 2
                    simp only [List.getElem?_cons_zero, List.getElem?_cons_succ] at b7 n0' n2'
                    have HB7 := Lib.hid hB7
                    have HG7 : Hid (g8 ∉ G7) := fun hx => by
                      rcases hf7 _ hx with r | r
                      · exact HG4.out r
                      · have := HLN.out; omega
                    obtain ⟨a7, c7, rfl, h7c, h7m, -⟩ := ho7.rd
                    clear h7 hu7 hf7 ho7 hB7 hN7 HS5 HS6 HB6 HN6 HTL HTB HLN HGN b0 h7c h7m
                    go_wp2_with fail
                    (with_reducible refine (sameByte_ok _ _ data _ HO7.out.rd (HD.out.upd0 HS7.out.old)).mono ?_)
                    rintro e w8 ⟨rfl, n8, rfl⟩
                    have HS8 := Lib.hid (HS7.out.upd0 ((Upd.refl [] w7).drewN n8))
                    have HB8 := Lib.hid (HB7.out.upd ((Upd.refl [] w7).drewN n8) (by simp))
                    generalize w7.drewN n8 = w8 at *
                    clear HS7 HB7 HO7 b7 n0' n2'
                    go_wp2_with fail
                    go_roundw
                    case rel => exact ⟨k + 1, A + data.length, G7, fl4, [((1 : Int), ((A + data.length : Nat) : Int))], t, by omega, by omega, rfl, by go_num, by omega, .inr rfl, HF4, HS8, HB8, HG7⟩
                    case measure => simp [intOf]; omega
                  · have e1 : r0 = 14 := e1
                    subst e1
                    have f1 : First a data fl4 := f1
                    have HF4 := Lib.hid f1
                    have HT := Lib.hid f1.tell
                    have HRE := Lib.hid (f1.read htk.out (by omega))
                    clear f1
                    rw [HYR.out]
                    rintro e w4 ⟨rfl, G4, h4, hu4, hf4⟩
                    have HS4 : Hid (YD w w4 gy G4 fl4 tk) := h4
                    have HB4 := Lib.hid (hB'.out.upd hu4 hG'.out)
                    have hltB := hB'.out.lt
                    have HG4 : Hid (g8 ∉ G4) := fun hx => by
                      rcases hf4 _ hx with r | r
                      · exact hG'.out r
                      · omega
                    have c4 : w4.cell? ⟨nb, noff + k, none⟩ = some (.string t) := HS4.out.old.cell HCN.out (by simp)
                    clear h4 hu4 hf4 hs' hB' hG' HYR hltB
                    go_wp2_with fail
                    (with_reducible refine (yFindF_any a HS4.out).mono ?_)
                    rw [HT.out]
                    rintro e w5 ⟨rfl, hu5⟩
                    have HS5 := Lib.hid (HS4.out.upd0 hu5)
                    have HS6 := Lib.hid (HS5.out.upd0 ((Upd.refl [] w5).alloc (.cells #[.int .i64 1, .string a, .int .i64 data.length] 31)))
                    have hB5 := HB4.out.upd hu5 (by simp)
                    have b0 := hB5.cell 0
                    simp only [List.getElem?_cons_zero] at b0
                    have hlt5 := hB5.lt
                    have HB6 := Lib.hid (hB5.upd ((Upd.refl [] w5).alloc (.cells #[.int .i64 1, .string a, .int .i64 data.length] 31)) (by simp))
                    have HN6 := Lib.hid (Blk.new w5 31 [.int .i64 1, .string a, .int .i64 data.length])
                    have HGN : Hid (w5.heap.size ∉ G4) := fun hx => by have := (HS5.out.ge _ hx).2; omega
                    have HLN : Hid (w5.heap.size < (w5.alloc (.cells #[.int .i64 1, .string a, .int .i64 data.length] 31)).heap.size) := HN6.out.lt
                    have HTL : Hid (tk.length ≤ 50000) := by have := htk.out.len; unfold Hid; omega
                    have HTB := Lib.hid (htk.out.bd (by omega))
                    clear hu5 hB5 HS4 HB4 c4
                    go_wp2_with fail
                    (with_reducible refine (yRead_any 1 0 65536 (i64_s 1 (by omega) (by omega)) (i64_s 0 (by omega) (by omega)) i64_max HS6.out HTL.out HTB.out).mono ?_)
                    rw [HRE.out]
                    rintro e w7 ⟨v7, rfl, ho7, G7, h7, hu7, hf7, -⟩
                    have HS7 : Hid (YD w w7 gy G7 fl4 [((1 : Int), ((A + data.length : Nat) : Int))]) := h7
                    have HO7 := Lib.hid ho7
                    have hB7 := HB6.out.upd hu7 HG4.out
                    have hN7 := HN6.out.upd hu7 HGN.out
                    have b7 := hB7.cell 0
                    have n0' := hN7.cell 0
                    have n2' := hN7.cell 2
                    simp only [List.getElem?_cons_zero, List.getElem?_cons_succ] at b7 n0' n2'
                    have HB7 := Lib.hid hB7
                    have HG7 : Hid (g8 ∉ G7) := fun hx => by
                      rcases hf7 _ hx with r | r
                      · exact HG4.out r
                      · have := HLN.out; omega
                    obtain ⟨a7, c7, rfl, h7c, h7m, -⟩ := ho7.rd
                    clear h7 hu7 hf7 ho7 hB7 hN7 HS5 HS6 HB6 HN6 HTL HTB HLN HGN b0 h7c h7m
                    go_wp2_with fail
                    (with_reducible refine (sameByte_ok _ _ data _ HO7.out.rd (HD.out.upd0 HS7.out.old)).mono ?_)
                    rintro e w8 ⟨rfl, n8, rfl⟩
                    have HS8 := Lib.hid (HS7.out.upd0 ((Upd.refl [] w7).drewN n8))
                    have HB8 := Lib.hid (HB7.out.upd ((Upd.refl [] w7).drewN n8) (by simp))
                    generalize w7.drewN n8 = w8 at *
                    clear HS7 HB7 HO7 b7 n0' n2'
                    go_wp2_with fail
                    go_roundw
                    case rel => exact ⟨k + 1, A + data.length, G7, fl4, [((1 : Int), ((A + data.length : Nat) : Int))], a, by omega, by omega, rfl, by go_num, by omega, .inr rfl, HF4, HS8, HB8, HG7⟩
                    case measure => simp [intOf]; omega
                · by_cases k2 : kd = 2
                  · subst k2
                    have HSD := Lib.hid (hs.out.upd0 (Upd.refl [] wr).drew)
                    have HBD := Lib.hid (hB.out.upd (Upd.refl [] wr).drew (by simp))
                    go_wp2_with fail
                    go_still_tail 11, (by kernel_rfl)
                    change wpList _ _ _ _ _ wr.drew
                    go_wp2_with fail
                    (with_reducible refine (yAppend_any nm _ d (HRD.out.upd0 HSD.out.old) (by omega) HSD.out).mono ?_)
                    rintro e wr' ⟨rfl, G', h', hu', hf'⟩
                    have hF' := Lib.hid (hF.out.append hs.out.ris.1 nm d e4)
                    clear hs hB
                    have hs := HSD
                    have hB := HBD
                    clear HSD HBD
                    have hltB := hB.out.lt
                    have hB' := Lib.hid (hB.out.upd hu' hG.out)
                    have hG' : Hid (g8 ∉ G') := fun hx => by
                      rcases hf' _ hx with r | r
                      · exact hG.out r
                      · omega
                    have hs' := Lib.hid h'
                    clear hs hB hG hF hu' hf' h' hltB d0 d4 d5 d6
                    generalize hfl' : Prod.snd _ = fl' at hs' hF'
                    clear hfl'
                    have c0 : wr'.cell? ⟨nb, noff + k, none⟩ = some (.string t) := hs'.out.old.cell HCN.out (by simp)
                    go_wp2_with fail
                    (with_reducible refine (yRename_any a t hs'.out).mono ?_)
                    have hren := hF'.out.rename hs'.out.ris.1 t
                    obtain ⟨r0, fl4, hy⟩ : ∃ r0 fl4, yRename fl' a t = (r0, fl4) := ⟨_, _, rfl⟩
                    rw [hy] at hren
                    have HYR := Lib.hid hy
                    clear hy c0
                    rcases hren with ⟨e1, f1⟩ | ⟨e1, f1⟩
                    · have e1 : r0 = 0 := e1
                      subst e1
                      have f1 : First t data fl4 := f1
                      have HF4 := Lib.hid f1
                      have HT := Lib.hid f1.tell
                      have HRE := Lib.hid (f1.read htk.out (by omega))
                      clear f1
                      rw [HYR.out]
                      rintro e w4 ⟨rfl, G4, h4, hu4, hf4⟩
                      have HS4 : Hid (YD w w4 gy G4 fl4 tk) := h4
                      have HB4 := Lib.hid (hB'.out.upd hu4 hG'.out)
                      have hltB := hB'.out.lt
                      have HG4 : Hid (g8 ∉ G4) := fun hx => by
                        rcases hf4 _ hx with r | r
                        · exact hG'.out r
                        · omega
                      have c4 : w4.cell? ⟨nb, noff + k, none⟩ = some (.string t) := HS4.out.old.cell HCN.out (by simp)
                      clear h4 hu4 hf4 hs' hB' hG' HYR hltB
                      go_wp2_with fail
                      (with_reducible refine (yFindF_any t HS4.out).mono ?_)
                      rw [HT.out]
                      rintro e w5 ⟨rfl, hu5⟩
                      have HS5 := Lib.hid (HS4.out.upd0 hu5)
                      have HS6 := Lib.hid (HS5.out.upd0 ((Upd.refl [] w5).alloc (.cells #[.int .i64 1, .string t, .int .i64 data.length] 31)))
                      have hB5 := HB4.out.upd hu5 (by simp)
                      have b0 := hB5.cell 0
                      simp only [List.getElem?_cons_zero] at b0
                      have hlt5 := hB5.lt
                      have HB6 := Lib.hid (hB5.upd ((Upd.refl [] w5).alloc (.cells #[.int .i64 1, .string t, .int .i64 data.length] 31)) (by simp))
                      have HN6 := Lib.hid (Blk.new w5 31 [.int .i64 1, .string t, .int .i64 data.length])
                      have HGN : Hid (w5.heap.size ∉ G4) := fun hx => by have := (HS5.out.ge _ hx).2; omega
                      have HLN : Hid (w5.heap.size < (w5.alloc (.cells #[.int .i64 1, .string t, .int .i64 data.length] 31)).heap.size) := HN6.out.lt
                      have HTL : Hid (tk.length ≤ 50000) := by have := htk.out.len; unfold Hid; omega
                      have HTB := Lib.hid (htk.out.bd (by omega))
                      clear hu5 hB5 HS4 HB4 c4
                      go_wp2_with fail
                      (with_reducible refine (yRead_any 1 0 65536 (i64_s 1 (by omega) (by omega)) (i64_s 0 (by omega) (by omega)) i64_max HS6.out HTL.out HTB.out).mono ?_)
                      rw [HRE.out]
                      rintro e w7 ⟨v7, rfl, ho7, G7, h7, hu7, hf7, -⟩
                      have HS7 : Hid (YD w w7 gy G7 fl4 [((1 : Int), ((A + data.length : Nat) : Int))]) := h7
                      have HO7 := Lib.hid ho7
                      have hB7 := HB6.out.upd hu7 HG4.out
                      have hN7 := HN6.out.upd hu7 HGN.out
                      have b7 := hB7.cell 0
                      have n0' := hN7.cell 0
                      have n2' := hN7.cell 2
                      simp only [List.getElem?_cons_zero, List.getElem?_cons_succ] at b7 n0' n2'
                      have HB7 := Lib.hid hB7
                      have HG7 : Hid (g8 ∉ G7) := fun hx => by
                        rcases hf7 _ hx with r | r
                        · exact HG4.out r
                        · have := HLN.out; omega
                      obtain ⟨a7, c7, rfl, h7c, h7m, -⟩ := ho7.rd
                      clear h7 hu7 hf7 ho7 hB7 hN7 HS5 HS6 HB6 HN6 HTL HTB HLN HGN b0 h7c h7m
                      go_wp2_with fail
                      (with_reducible refine (sameByte_ok _ _ data _ HO7.out.rd (HD.out.upd0 HS7.out.old)).mono ?_)
                      rintro e w8 ⟨rfl, n8, rfl⟩
                      have HS8 := Lib.hid (HS7.out.upd0 ((Upd.refl [] w7).drewN n8))
                      have HB8 := Lib.hid (HB7.out.upd ((Upd.refl [] w7).drewN n8) (by simp))
                      generalize w7.drewN n8 = w8 at *
                      clear HS7 HB7 HO7 b7 n0' n2'
                      go_wp2_with fail
                      go_roundw
                      case rel => exact ⟨k + 1, A + data.length, G7, fl4, [((1 : Int), ((A + data.length : Nat) : Int))], t, by omega, by omega, rfl, by go_num, by omega, .inr rfl, HF4, HS8, HB8, HG7⟩
                      case measure => simp [intOf]; omega
                    · have e1 : r0 = 14 := e1
                      subst e1
                      have f1 : First a data fl4 := f1
                      have HF4 := Lib.hid f1
                      have HT := Lib.hid f1.tell
                      have HRE := Lib.hid (f1.read htk.out (by omega))
                      clear f1
                      rw [HYR.out]
                      rintro e w4 ⟨rfl, G4, h4, hu4, hf4⟩
                      have HS4 : Hid (YD w w4 gy G4 fl4 tk) := h4
                      have HB4 := Lib.hid (hB'.out.upd hu4 hG'.out)
                      have hltB := hB'.out.lt
                      have HG4 : Hid (g8 ∉ G4) := fun hx => by
                        rcases hf4 _ hx with r | r
                        · exact hG'.out r
                        · omega
                      have c4 : w4.cell? ⟨nb, noff + k, none⟩ = some (.string t) := HS4.out.old.cell HCN.out (by simp)
                      clear h4 hu4 hf4 hs' hB' hG' HYR hltB
                      go_wp2_with fail
                      (with_reducible refine (yFindF_any a HS4.out).mono ?_)
                      rw [HT.out]
                      rintro e w5 ⟨rfl, hu5⟩
                      have HS5 := Lib.hid (HS4.out.upd0 hu5)
                      have HS6 := Lib.hid (HS5.out.upd0 ((Upd.refl [] w5).alloc (.cells #[.int .i64 1, .string a, .int .i64 data.length] 31)))
                      have hB5 := HB4.out.upd hu5 (by simp)
                      have b0 := hB5.cell 0
                      simp only [List.getElem?_cons_zero] at b0
                      have hlt5 := hB5.lt
                      have HB6 := Lib.hid (hB5.upd ((Upd.refl [] w5).alloc (.cells #[.int .i64 1, .string a, .int .i64 data.length] 31)) (by simp))
                      have HN6 := Lib.hid (Blk.new w5 31 [.int .i64 1, .string a, .int .i64 data.length])
                      have HGN : Hid (w5.heap.size ∉ G4) := fun hx => by have := (HS5.out.ge _ hx).2; omega
                      have HLN : Hid (w5.heap.size < (w5.alloc (.cells #[.int .i64 1, .string a, .int .i64 data.length] 31)).heap.size) := HN6.out.lt
                      have HTL : Hid (tk.length ≤ 50000) := by have := htk.out.len; unfold Hid; omega
                      have HTB := Lib.hid (htk.out.bd (by omega))
                      clear hu5 hB5 HS4 HB4 c4
                      go_wp2_with fail
                      (with_reducible refine (yRead_any 1 0 65536 (i64_s 1 (by omega) (by omega)) (i64_s 0 (by omega) (by omega)) i64_max HS6.out HTL.out HTB.out).mono ?_)
                      rw [HRE.out]
                      rintro e w7 ⟨v7, rfl, ho7, G7, h7, hu7, hf7, -⟩
                      have HS7 : Hid (YD w w7 gy G7 fl4 [((1 : Int), ((A + data.length : Nat) : Int))]) := h7
                      have HO7 := Lib.hid ho7
                      have hB7 := HB6.out.upd hu7 HG4.out
                      have hN7 := HN6.out.upd hu7 HGN.out
                      have b7 := hB7.cell 0
                      have n0' := hN7.cell 0
                      have n2' := hN7.cell 2
                      simp only [List.getElem?_cons_zero, List.getElem?_cons_succ] at b7 n0' n2'
                      have HB7 := Lib.hid hB7
                      have HG7 : Hid (g8 ∉ G7) := fun hx => by
                        rcases hf7 _ hx with r | r
                        · exact HG4.out r
                        · have := HLN.out; omega
                      obtain ⟨a7, c7, rfl, h7c, h7m, -⟩ := ho7.rd
                      clear h7 hu7 hf7 ho7 hB7 hN7 HS5 HS6 HB6 HN6 HTL HTB HLN HGN b0 h7c h7m
                      go_wp2_with fail
                      (with_reducible refine (sameByte_ok _ _ data _ HO7.out.rd (HD.out.upd0 HS7.out.old)).mono ?_)
                      rintro e w8 ⟨rfl, n8, rfl⟩
                      have HS8 := Lib.hid (HS7.out.upd0 ((Upd.refl [] w7).drewN n8))
                      have HB8 := Lib.hid (HB7.out.upd ((Upd.refl [] w7).drewN n8) (by simp))
                      generalize w7.drewN n8 = w8 at *
                      clear HS7 HB7 HO7 b7 n0' n2'
                      go_wp2_with fail
                      go_roundw
                      case rel => exact ⟨k + 1, A + data.length, G7, fl4, [((1 : Int), ((A + data.length : Nat) : Int))], a, by omega, by omega, rfl, by go_num, by omega, .inr rfl, HF4, HS8, HB8, HG7⟩
                      case measure => simp [intOf]; omega
                  · by_cases k5 : kd = 5
                    · subst k5
                      go_wp2_with fail
                      (with_reducible refine (yRemove_any nm hs.out).mono ?_)
                      rintro e wr' ⟨rfl, G', h', hu', hf'⟩
                      have hF' := Lib.hid (hF.out.remove hs.out.ris.1 nm e4)
                      have hltB := hB.out.lt
                      have hB' := Lib.hid (hB.out.upd hu' hG.out)
                      have hG' : Hid (g8 ∉ G') := fun hx => by
                        rcases hf' _ hx with r | r
                        · exact hG.out r
                        · omega
                      have hs' := Lib.hid h'
                      clear hs hB hG hF hu' hf' h' hltB d0 d4 d5 d6
                      generalize hfl' : Prod.snd _ = fl' at hs' hF'
                      clear hfl'
                      have c0 : wr'.cell? ⟨nb, noff + k, none⟩ = some (.string t) := hs'.out.old.cell HCN.out (by simp)
                      go_wp2_with fail
                      (with_reducible refine (yRename_any a t hs'.out).mono ?_)
                      have hren := hF'.out.rename hs'.out.ris.1 t
                      obtain ⟨r0, fl4, hy⟩ : ∃ r0 fl4, yRename fl' a t = (r0, fl4) := ⟨_, _, rfl⟩
                      rw [hy] at hren
                      have HYR := Lib.hid hy
                      clear hy c0
                      rcases hren with ⟨e1, f1⟩ | ⟨e1, f1⟩
                      · have e1 : r0 = 0 := e1
                        subst e1
                        have f1 : First t data fl4 := f1
                        have HF4 := Lib.hid f1
                        have HT := Lib.hid f1.tell
                        have HRE := Lib.hid (f1.read htk.out (by omega))
                        clear f1
                        rw [HYR.out]
                        rintro e w4 ⟨rfl, G4, h4, hu4, hf4⟩
                        have HS4 : Hid (YD w w4 gy G4 fl4 tk) := h4
                        have HB4 := Lib.hid (hB'.out.upd hu4 hG'.out)
                        have hltB := hB'.out.lt
                        have HG4 : Hid (g8 ∉ G4) := fun hx => by
                          rcases hf4 _ hx with r | r
                          · exact hG'.out r
                          · omega
                        have c4 : w4.cell? ⟨nb, noff + k, none⟩ = some (.string t) := HS4.out.old.cell HCN.out (by simp)
                        clear h4 hu4 hf4 hs' hB' hG' HYR hltB
                        go_wp2_with fail
                        (with_reducible refine (yFindF_any t HS4.out).mono ?_)
                        rw [HT.out]
                        rintro e w5 ⟨rfl, hu5⟩
                        have HS5 := Lib.hid (HS4.out.upd0 hu5)
                        have HS6 := Lib.hid (HS5.out.upd0 ((Upd.refl [] w5).alloc (.cells #[.int .i64 1, .string t, .int .i64 data.length] 31)))
                        have hB5 := HB4.out.upd hu5 (by simp)
                        have b0 := hB5.cell 0
                        simp only [List.getElem?_cons_zero] at b0
                        have hlt5 := hB5.lt
                        have HB6 := Lib.hid (hB5.upd ((Upd.refl [] w5).alloc (.cells #[.int .i64 1, .string t, .int .i64 data.length] 31)) (by simp))
                        have HN6 := Lib.hid (Blk.new w5 31 [.int .i64 1, .string t, .int .i64 data.length])
                        have HGN : Hid (w5.heap.size ∉ G4) := fun hx => by have := (HS5.out.ge _ hx).2; omega
                        have HLN : Hid (w5.heap.size < (w5.alloc (.cells #[.int .i64 1, .string t, .int .i64 data.length] 31)).heap.size) := HN6.out.lt
                        have HTL : Hid (tk.length ≤ 50000) := by have := htk.out.len; unfold Hid; omega
                        have HTB := Lib.hid (htk.out.bd (by omega))
                        clear hu5 hB5 HS4 HB4 c4
                        go_wp2_with fail
                        (with_reducible refine (yRead_any 1 0 65536 (i64_s 1 (by omega) (by omega)) (i64_s 0 (by omega) (by omega)) i64_max HS6.out HTL.out HTB.out).mono ?_)
                        rw [HRE.out]
                        rintro e w7 ⟨v7, rfl, ho7, G7, h7, hu7, hf7, -⟩
                        have HS7 : Hid (YD w w7 gy G7 fl4 [((1 : Int), ((A + data.length : Nat) : Int))]) := h7
                        have HO7 := Lib.hid ho7
                        have hB7 := HB6.out.upd hu7 HG4.out
                        have hN7 := HN6.out.upd hu7 HGN.out
                        have b7 := hB7.cell 0
                        have n0' := hN7.cell 0
                        have n2' := hN7.cell 2
                        simp only [List.getElem?_cons_zero, List.getElem?_cons_succ] at b7 n0' n2'
                        have HB7 := Lib.hid hB7
                        have HG7 : Hid (g8 ∉ G7) := fun hx => by
                          rcases hf7 _ hx with r | r
                          · exact HG4.out r
                          · have := HLN.out; omega
                        obtain ⟨a7, c7, rfl, h7c, h7m, -⟩ := ho7.rd
                        clear h7 hu7 hf7 ho7 hB7 hN7 HS5 HS6 HB6 HN6 HTL HTB HLN HGN b0 h7c h7m
                        go_wp2_with fail
                        (with_reducible refine (sameByte_ok _ _ data _ HO7.out.rd (HD.out.upd0 HS7.out.old)).mono ?_)
                        rintro e w8 ⟨rfl, n8, rfl⟩
                        have HS8 := Lib.hid (HS7.out.upd0 ((Upd.refl [] w7).drewN n8))
                        have HB8 := Lib.hid (HB7.out.upd ((Upd.refl [] w7).drewN n8) (by simp))
                        generalize w7.drewN n8 = w8 at *
                        clear HS7 HB7 HO7 b7 n0' n2'
                        go_wp2_with fail
                        go_roundw
                        case rel => exact ⟨k + 1, A + data.length, G7, fl4, [((1 : Int), ((A + data.length : Nat) : Int))], t, by omega, by omega, rfl, by go_num, by omega, .inr rfl, HF4, HS8, HB8, HG7⟩
                        case measure => simp [intOf]; omega
                      · have e1 : r0 = 14 := e1
                        subst e1
                        have f1 : First a data fl4 := f1
                        have HF4 := Lib.hid f1
                        have HT := Lib.hid f1.tell
                        have HRE := Lib.hid (f1.read htk.out (by omega))
                        clear f1
                        rw [HYR.out]
                        rintro e w4 ⟨rfl, G4, h4, hu4, hf4⟩
                        have HS4 : Hid (YD w w4 gy G4 fl4 tk) := h4
                        have HB4 := Lib.hid (hB'.out.upd hu4 hG'.out)
                        have hltB := hB'.out.lt
                        have HG4 : Hid (g8 ∉ G4) := fun hx => by
                          rcases hf4 _ hx with r | r
                          · exact hG'.out r
                          · omega
                        have c4 : w4.cell? ⟨nb, noff + k, none⟩ = some (.string t) := HS4.out.old.cell HCN.out (by simp)
                        clear h4 hu4 hf4 hs' hB' hG' HYR hltB
                        go_wp2_with fail
                        (with_reducible refine (yFindF_any a HS4.out).mono ?_)
                        rw [HT.out]
                        rintro e w5 ⟨rfl, hu5⟩
                        have HS5 := Lib.hid (HS4.out.upd0 hu5)
                        have HS6 := Lib.hid (HS5.out.upd0 ((Upd.refl [] w5).alloc (.cells #[.int .i64 1, .string a, .int .i64 data.length] 31)))
                        have hB5 := HB4.out.upd hu5 (by simp)
                        have b0 := hB5.cell 0
                        simp only [List.getElem?_cons_zero] at b0
                        have hlt5 := hB5.lt
                        have HB6 := Lib.hid (hB5.upd ((Upd.refl [] w5).alloc (.cells #[.int .i64 1, .string a, .int .i64 data.length] 31)) (by simp))
                        have HN6 := Lib.hid (Blk.new w5 31 [.int .i64 1, .string a, .int .i64 data.length])
                        have HGN : Hid (w5.heap.size ∉ G4) := fun hx => by have := (HS5.out.ge _ hx).2; omega
                        have HLN : Hid (w5.heap.size < (w5.alloc (.cells #[.int .i64 1, .string a, .int .i64 data.length] 31)).heap.size) := HN6.out.lt
                        have HTL : Hid (tk.length ≤ 50000) := by have := htk.out.len; unfold Hid; omega
                        have HTB := Lib.hid (htk.out.bd (by omega))
                        clear hu5 hB5 HS4 HB4 c4
                        go_wp2_with fail
                        (with_reducible refine (yRead_any 1 0 65536 (i64_s 1 (by omega) (by omega)) (i64_s 0 (by omega) (by omega)) i64_max HS6.out HTL.out HTB.out).mono ?_)
                        rw [HRE.out]
                        rintro e w7 ⟨v7, rfl, ho7, G7, h7, hu7, hf7, -⟩
                        have HS7 : Hid (YD w w7 gy G7 fl4 [((1 : Int), ((A + data.length : Nat) : Int))]) := h7
                        have HO7 := Lib.hid ho7
                        have hB7 := HB6.out.upd hu7 HG4.out
                        have hN7 := HN6.out.upd hu7 HGN.out
                        have b7 := hB7.cell 0
                        have n0' := hN7.cell 0
                        have n2' := hN7.cell 2
                        simp only [List.getElem?_cons_zero, List.getElem?_cons_succ] at b7 n0' n2'
                        have HB7 := Lib.hid hB7
                        have HG7 : Hid (g8 ∉ G7) := fun hx => by
                          rcases hf7 _ hx with r | r
                          · exact HG4.out r
                          · have := HLN.out; omega
                        obtain ⟨a7, c7, rfl, h7c, h7m, -⟩ := ho7.rd
                        clear h7 hu7 hf7 ho7 hB7 hN7 HS5 HS6 HB6 HN6 HTL HTB HLN HGN b0 h7c h7m
                        go_wp2_with fail
                        (with_reducible refine (sameByte_ok _ _ data _ HO7.out.rd (HD.out.upd0 HS7.out.old)).mono ?_)
                        rintro e w8 ⟨rfl, n8, rfl⟩
                        have HS8 := Lib.hid (HS7.out.upd0 ((Upd.refl [] w7).drewN n8))
                        have HB8 := Lib.hid (HB7.out.upd ((Upd.refl [] w7).drewN n8) (by simp))
                        generalize w7.drewN n8 = w8 at *
                        clear HS7 HB7 HO7 b7 n0' n2'
                        go_wp2_with fail
                        go_roundw
                        case rel => exact ⟨k + 1, A + data.length, G7, fl4, [((1 : Int), ((A + data.length : Nat) : Int))], a, by omega, by omega, rfl, by go_num, by omega, .inr rfl, HF4, HS8, HB8, HG7⟩
                        case measure => simp [intOf]; omega
                    · have t1 : (kd == 1) = false := by rw [beq_eq_false_iff_ne]; exact k1
                      have t2 : (kd == 2) = false := by rw [beq_eq_false_iff_ne]; exact k2
                      have t7 : (kd == 5) = false := by rw [beq_eq_false_iff_ne]; exact k5
                      clear k1 k2 k5 e4
                      have c0 : wr.cell? ⟨nb, noff + k, none⟩ = some (.string t) := hs.out.old.cell HCN.out (by simp)
                      go_wp2_with fail
                      (with_reducible refine (yRename_any a t hs.out).mono ?_)
                      have hren := hF.out.rename hs.out.ris.1 t
                      obtain ⟨r0, fl4, hy⟩ : ∃ r0 fl4, yRename fl a t = (r0, fl4) := ⟨_, _, rfl⟩
                      rw [hy] at hren
                      have HYR := Lib.hid hy
                      clear hy c0
                      rcases hren with ⟨e1, f1⟩ | ⟨e1, f1⟩
                      · have e1 : r0 = 0 := e1
                        subst e1
                        have f1 : First t data fl4 := f1
                        have HF4 := Lib.hid f1
                        have HT := Lib.hid f1.tell
                        have HRE := Lib.hid (f1.read htk.out (by omega))
                        clear f1
                        rw [HYR.out]
                        rintro e w4 ⟨rfl, G4, h4, hu4, hf4⟩
                        have HS4 : Hid (YD w w4 gy G4 fl4 tk) := h4
                        have HB4 := Lib.hid (hB.out.upd hu4 hG.out)
                        have hltB := hB.out.lt
                        have HG4 : Hid (g8 ∉ G4) := fun hx => by
                          rcases hf4 _ hx with r | r
                          · exact hG.out r
                          · omega
                        have c4 : w4.cell? ⟨nb, noff + k, none⟩ = some (.string t) := HS4.out.old.cell HCN.out (by simp)
                        clear h4 hu4 hf4 hs hB hG HYR hltB
                        go_wp2_with fail
                        (with_reducible refine (yFindF_any t HS4.out).mono ?_)
                        rw [HT.out]
                        rintro e w5 ⟨rfl, hu5⟩
                        have HS5 := Lib.hid (HS4.out.upd0 hu5)
                        have HS6 := Lib.hid (HS5.out.upd0 ((Upd.refl [] w5).alloc (.cells #[.int .i64 1, .string t, .int .i64 data.length] 31)))
                        have hB5 := HB4.out.upd hu5 (by simp)
                        have b0 := hB5.cell 0
                        simp only [List.getElem?_cons_zero] at b0
                        have hlt5 := hB5.lt
                        have HB6 := Lib.hid (hB5.upd ((Upd.refl [] w5).alloc (.cells #[.int .i64 1, .string t, .int .i64 data.length] 31)) (by simp))
                        have HN6 := Lib.hid (Blk.new w5 31 [.int .i64 1, .string t, .int .i64 data.length])
                        have HGN : Hid (w5.heap.size ∉ G4) := fun hx => by have := (HS5.out.ge _ hx).2; omega
                        have HLN : Hid (w5.heap.size < (w5.alloc (.cells #[.int .i64 1, .string t, .int .i64 data.length] 31)).heap.size) := HN6.out.lt
                        have HTL : Hid (tk.length ≤ 50000) := by have := htk.out.len; unfold Hid; omega
                        have HTB := Lib.hid (htk.out.bd (by omega))
                        clear hu5 hB5 HS4 HB4 c4
                        go_wp2_with fail
                        (with_reducible refine (yRead_any 1 0 65536 (i64_s 1 (by omega) (by omega)) (i64_s 0 (by omega) (by omega)) i64_max HS6.out HTL.out HTB.out).mono ?_)
                        rw [HRE.out]
                        rintro e w7 ⟨v7, rfl, ho7, G7, h7, hu7, hf7, -⟩
                        have HS7 : Hid (YD w w7 gy G7 fl4 [((1 : Int), ((A + data.length : Nat) : Int))]) := h7
                        have HO7 := Lib.hid ho7
                        have hB7 := HB6.out.upd hu7 HG4.out
                        have hN7 := HN6.out.upd hu7 HGN.out
                        have b7 := hB7.cell 0
                        have n0' := hN7.cell 0
                        have n2' := hN7.cell 2
                        simp only [List.getElem?_cons_zero, List.getElem?_cons_succ] at b7 n0' n2'
                        have HB7 := Lib.hid hB7
                        have HG7 : Hid (g8 ∉ G7) := fun hx => by
                          rcases hf7 _ hx with r | r
                          · exact HG4.out r
                          · have := HLN.out; omega
                        obtain ⟨a7, c7, rfl, h7c, h7m, -⟩ := ho7.rd
                        clear h7 hu7 hf7 ho7 hB7 hN7 HS5 HS6 HB6 HN6 HTL HTB HLN HGN b0 h7c h7m
                        go_wp2_with fail
                        (with_reducible refine (sameByte_ok _ _ data _ HO7.out.rd (HD.out.upd0 HS7.out.old)).mono ?_)
                        rintro e w8 ⟨rfl, n8, rfl⟩
                        have HS8 := Lib.hid (HS7.out.upd0 ((Upd.refl [] w7).drewN n8))
                        have HB8 := Lib.hid (HB7.out.upd ((Upd.refl [] w7).drewN n8) (by simp))
                        generalize w7.drewN n8 = w8 at *
                        clear HS7 HB7 HO7 b7 n0' n2'
                        go_wp2_with fail
                        go_roundw
                        case rel => exact ⟨k + 1, A + data.length, G7, fl4, [((1 : Int), ((A + data.length : Nat) : Int))], t, by omega, by omega, rfl, by go_num, by omega, .inr rfl, HF4, HS8, HB8, HG7⟩
                        case measure => simp [intOf]; omega
                      · have e1 : r0 = 14 := e1
                        subst e1
                        have f1 : First a data fl4 := f1
                        have HF4 := Lib.hid f1
                        have HT := Lib.hid f1.tell
                        have HRE := Lib.hid (f1.read htk.out (by omega))
                        clear f1
                        rw [HYR.out]
                        rintro e w4 ⟨rfl, G4, h4, hu4, hf4⟩
                        have HS4 : Hid (YD w w4 gy G4 fl4 tk) := h4
                        have HB4 := Lib.hid (hB.out.upd hu4 hG.out)
                        have hltB := hB.out.lt
                        have HG4 : Hid (g8 ∉ G4) := fun hx => by
                          rcases hf4 _ hx with r | r
                          · exact hG.out r
                          · omega
                        have c4 : w4.cell? ⟨nb, noff + k, none⟩ = some (.string t) := HS4.out.old.cell HCN.out (by simp)
                        clear h4 hu4 hf4 hs hB hG HYR hltB
                        go_wp2_with fail
                        (with_reducible refine (yFindF_any a HS4.out).mono ?_)
                        rw [HT.out]
                        rintro e w5 ⟨rfl, hu5⟩
                        have HS5 := Lib.hid (HS4.out.upd0 hu5)
                        have HS6 := Lib.hid (HS5.out.upd0 ((Upd.refl [] w5).alloc (.cells #[.int .i64 1, .string a, .int .i64 data.length] 31)))
                        have hB5 := HB4.out.upd hu5 (by simp)
                        have b0 := hB5.cell 0
                        simp only [List.getElem?_cons_zero] at b0
                        have hlt5 := hB5.lt
                        have HB6 := Lib.hid (hB5.upd ((Upd.refl [] w5).alloc (.cells #[.int .i64 1, .string a, .int .i64 data.length] 31)) (by simp))
                        have HN6 := Lib.hid (Blk.new w5 31 [.int .i64 1, .string a, .int .i64 data.length])
                        have HGN : Hid (w5.heap.size ∉ G4) := fun hx => by have := (HS5.out.ge _ hx).2; omega
                        have HLN : Hid (w5.heap.size < (w5.alloc (.cells #[.int .i64 1, .string a, .int .i64 data.length] 31)).heap.size) := HN6.out.lt
                        have HTL : Hid (tk.length ≤ 50000) := by have := htk.out.len; unfold Hid; omega
                        have HTB := Lib.hid (htk.out.bd (by omega))
                        clear hu5 hB5 HS4 HB4 c4
                        go_wp2_with fail
                        (with_reducible refine (yRead_any 1 0 65536 (i64_s 1 (by omega) (by omega)) (i64_s 0 (by omega) (by omega)) i64_max HS6.out HTL.out HTB.out).mono ?_)
                        rw [HRE.out]
                        rintro e w7 ⟨v7, rfl, ho7, G7, h7, hu7, hf7, -⟩
                        have HS7 : Hid (YD w w7 gy G7 fl4 [((1 : Int), ((A + data.length : Nat) : Int))]) := h7
                        have HO7 := Lib.hid ho7
                        have hB7 := HB6.out.upd hu7 HG4.out
                        have hN7 := HN6.out.upd hu7 HGN.out
                        have b7 := hB7.cell 0
                        have n0' := hN7.cell 0
                        have n2' := hN7.cell 2
                        simp only [List.getElem?_cons_zero, List.getElem?_cons_succ] at b7 n0' n2'
                        have HB7 := Lib.hid hB7
                        have HG7 : Hid (g8 ∉ G7) := fun hx => by
                          rcases hf7 _ hx with r | r
                          · exact HG4.out r
                          · have := HLN.out; omega
                        obtain ⟨a7, c7, rfl, h7c, h7m, -⟩ := ho7.rd
                        clear h7 hu7 hf7 ho7 hB7 hN7 HS5 HS6 HB6 HN6 HTL HTB HLN HGN b0 h7c h7m
                        go_wp2_with fail
                        (with_reducible refine (sameByte_ok _ _ data _ HO7.out.rd (HD.out.upd0 HS7.out.old)).mono ?_)
                        rintro e w8 ⟨rfl, n8, rfl⟩
                        have HS8 := Lib.hid (HS7.out.upd0 ((Upd.refl [] w7).drewN n8))
                        have HB8 := Lib.hid (HB7.out.upd ((Upd.refl [] w7).drewN n8) (by simp))
                        generalize w7.drewN n8 = w8 at *
                        clear HS7 HB7 HO7 b7 n0' n2'
                        go_wp2_with fail
                        go_roundw
                        case rel => exact ⟨k + 1, A + data.length, G7, fl4, [((1 : Int), ((A + data.length : Nat) : Int))], a, by omega, by omega, rfl, by go_num, by omega, .inr rfl, HF4, HS8, HB8, HG7⟩
                        case measure => simp [intOf]; omega
              · have t6 : ¬ (d.length : Int) < 2000 := by omega
                clear e4
                have c0 : wr.cell? ⟨nb, noff + k, none⟩ = some (.string t) := hs.out.old.cell HCN.out (by simp)
                go_wp2_with fail
                (with_reducible refine (yRename_any a t hs.out).mono ?_)
                have hren := hF.out.rename hs.out.ris.1 t
                obtain ⟨r0, fl4, hy⟩ : ∃ r0 fl4, yRename fl a t = (r0, fl4) := ⟨_, _, rfl⟩
                rw [hy] at hren
                have HYR := Lib.hid hy
                clear hy c0
                rcases hren with ⟨e1, f1⟩ | ⟨e1, f1⟩
                · have e1 : r0 = 0 := e1
                  subst e1
                  have f1 : First t data fl4 := f1
                  have HF4 := Lib.hid f1
                  have HT := Lib.hid f1.tell
                  have HRE := Lib.hid (f1.read htk.out (by omega))
                  clear f1
                  rw [HYR.out]
                  rintro e w4 ⟨rfl, G4, h4, hu4, hf4⟩
                  have HS4 : Hid (YD w w4 gy G4 fl4 tk) := h4
                  have HB4 := Lib.hid (hB.out.upd hu4 hG.out)
                  have hltB := hB.out.lt
                  have HG4 : Hid (g8 ∉ G4) := fun hx => by
                    rcases hf4 _ hx with r | r
                    · exact hG.out r
                    · omega
                  have c4 : w4.cell? ⟨nb, noff + k, none⟩ = some (.string t) := HS4.out.old.cell HCN.out (by simp)
                  clear h4 hu4 hf4 hs hB hG HYR hltB
                  go_wp2_with fail
                  (with_reducible refine (yFindF_any t HS4.out).mono ?_)
                  rw [HT.out]
                  rintro e w5 ⟨rfl, hu5⟩
                  have HS5 := Lib.hid (HS4.out.upd0 hu5)
                  have HS6 := Lib.hid (HS5.out.upd0 ((Upd.refl [] w5).alloc (.cells #[.int .i64 1, .string t, .int .i64 data.length] 31)))
                  have hB5 := HB4.out.upd hu5 (by simp)
                  have b0 := hB5.cell 0
                  simp only [List.getElem?_cons_zero] at b0
                  have hlt5 := hB5.lt
                  have HB6 := Lib.hid (hB5.upd ((Upd.refl [] w5).alloc (.cells #[.int .i64 1, .string t, .int .i64 data.length] 31)) (by simp))
                  have HN6 := Lib.hid (Blk.new w5 31 [.int .i64 1, .string t, .int .i64 data.length])
                  have HGN : Hid (w5.heap.size ∉ G4) := fun hx => by have := (HS5.out.ge _ hx).2; omega
                  have HLN : Hid (w5.heap.size < (w5.alloc (.cells #[.int .i64 1, .string t, .int .i64 data.length] 31)).heap.size) := HN6.out.lt
                  have HTL : Hid (tk.length ≤ 50000) := by have := htk.out.len; unfold Hid; omega
                  have HTB := Lib.hid (htk.out.bd (by omega))
                  clear hu5 hB5 HS4 HB4 c4
                  go_wp2_with fail
                  (with_reducible refine (yRead_any 1 0 65536 (i64_s 1 (by omega) (by omega)) (i64_s 0 (by omega) (by omega)) i64_max HS6.out HTL.out HTB.out).mono ?_)
                  rw [HRE.out]
                  rintro e w7 ⟨v7, rfl, ho7, G7, h7, hu7, hf7, -⟩
                  have HS7 : Hid (YD w w7 gy G7 fl4 [((1 : Int), ((A + data.length : Nat) : Int))]) := h7
                  have HO7 := Lib.hid ho7
                  have hB7 := HB6.out.upd hu7 HG4.out
                  have hN7 := HN6.out.upd hu7 HGN.out
                  have b7 := hB7.cell 0
                  have n0' := hN7.cell 0
                  have n2' := hN7.cell 2
                  simp only [List.getElem?_cons_zero, List.getElem?_cons_succ] at b7 n0' n2'
                  have HB7 := Lib.hid hB7
                  have HG7 : Hid (g8 ∉ G7) := fun hx => by
                    rcases hf7 _ hx with r | r
                    · exact HG4.out r
                    · have := HLN.out; omega
                  obtain ⟨a7, c7, rfl, h7c, h7m, -⟩ := ho7.rd
                  clear h7 hu7 hf7 ho7 hB7 hN7 HS5 HS6 HB6 HN6 HTL HTB HLN HGN b0 h7c h7m
                  go_wp2_with fail
                  (with_reducible refine (sameByte_ok _ _ data _ HO7.out.rd (HD.out.upd0 HS7.out.old)).mono ?_)
                  rintro e w8 ⟨rfl, n8, rfl⟩
                  have HS8 := Lib.hid (HS7.out.upd0 ((Upd.refl [] w7).drewN n8))
                  have HB8 := Lib.hid (HB7.out.upd ((Upd.refl [] w7).drewN n8) (by simp))
                  generalize w7.drewN n8 = w8 at *
                  clear HS7 HB7 HO7 b7 n0' n2'
                  go_wp2_with fail
                  go_roundw
                  case rel => exact ⟨k + 1, A + data.length, G7, fl4, [((1 : Int), ((A + data.length : Nat) : Int))], t, by omega, by omega, rfl, by go_num, by omega, .inr rfl, HF4, HS8, HB8, HG7⟩
                  case measure => simp [intOf]; omega
                · have e1 : r0 = 14 := e1
                  subst e1
                  have f1 : First a data fl4 := f1
                  have HF4 := Lib.hid f1
                  have HT := Lib.hid f1.tell
                  have HRE := Lib.hid (f1.read htk.out (by omega))
                  clear f1
                  rw [HYR.out]
                  rintro e w4 ⟨rfl, G4, h4, hu4, hf4⟩
                  have HS4 : Hid (YD w w4 gy G4 fl4 tk) := h4
                  have HB4 := Lib.hid (hB.out.upd hu4 hG.out)
                  have hltB := hB.out.lt
                  have HG4 : Hid (g8 ∉ G4) := fun hx => by
                    rcases hf4 _ hx with r | r
                    · exact hG.out r
                    · omega
                  have c4 : w4.cell? ⟨nb, noff + k, none⟩ = some (.string t) := HS4.out.old.cell HCN.out (by simp)
                  clear h4 hu4 hf4 hs hB hG HYR hltB
                  go_wp2_with fail
                  (with_reducible refine (yFindF_any a HS4.out).mono ?_)
                  rw [HT.out]
                  rintro e w5 ⟨rfl, hu5⟩
                  have HS5 := Lib.hid (HS4.out.upd0 hu5)
                  have HS6 := Lib.hid (HS5.out.upd0 ((Upd.refl [] w5).alloc (.cells #[.int .i64 1, .string a, .int .i64 data.length] 31)))
                  have hB5 := HB4.out.upd hu5 (by simp)
                  have b0 := hB5.cell 0
                  simp only [List.getElem?_cons_zero] at b0
                  have hlt5 := hB5.lt
                  have HB6 := Lib.hid (hB5.upd ((Upd.refl [] w5).alloc (.cells #[.int .i64 1, .string a, .int .i64 data.length] 31)) (by simp))
                  have HN6 := Lib.hid (Blk.new w5 31 [.int .i64 1, .string a, .int .i64 data.length])
                  have HGN : Hid (w5.heap.size ∉ G4) := fun hx => by have := (HS5.out.ge _ hx).2; omega
                  have HLN : Hid (w5.heap.size < (w5.alloc (.cells #[.int .i64 1, .string a, .int .i64 data.length] 31)).heap.size) := HN6.out.lt
                  have HTL : Hid (tk.length ≤ 50000) := by have := htk.out.len; unfold Hid; omega
                  have HTB := Lib.hid (htk.out.bd (by omega))
                  clear hu5 hB5 HS4 HB4 c4
                  go_wp2_with fail
                  (with_reducible refine (yRead_any 1 0 65536 (i64_s 1 (by omega) (by omega)) (i64_s 0 (by omega) (by omega)) i64_max HS6.out HTL.out HTB.out).mono ?_)
                  rw [HRE.out]
                  rintro e w7 ⟨v7, rfl, ho7, G7, h7, hu7, hf7, -⟩
                  have HS7 : Hid (YD w w7 gy G7 fl4 [((1 : Int), ((A + data.length : Nat) : Int))]) := h7
                  have HO7 := Lib.hid ho7
                  have hB7 := HB6.out.upd hu7 HG4.out
                  have hN7 := HN6.out.upd hu7 HGN.out
                  have b7 := hB7.cell 0
                  have n0' := hN7.cell 0
                  have n2' := hN7.cell 2
                  simp only [List.getElem?_cons_zero, List.getElem?_cons_succ] at b7 n0' n2'
                  have HB7 := Lib.hid hB7
                  have HG7 : Hid (g8 ∉ G7) := fun hx => by
                    rcases hf7 _ hx with r | r
                    · exact HG4.out r
                    · have := HLN.out; omega
                  obtain ⟨a7, c7, rfl, h7c, h7m, -⟩ := ho7.rd
                  clear h7 hu7 hf7 ho7 hB7 hN7 HS5 HS6 HB6 HN6 HTL HTB HLN HGN b0 h7c h7m
                  go_wp2_with fail
                  (with_reducible refine (sameByte_ok _ _ data _ HO7.out.rd (HD.out.upd0 HS7.out.old)).mono ?_)
                  rintro e w8 ⟨rfl, n8, rfl⟩
                  have HS8 := Lib.hid (HS7.out.upd0 ((Upd.refl [] w7).drewN n8))
                  have HB8 := Lib.hid (HB7.out.upd ((Upd.refl [] w7).drewN n8) (by simp))
                  generalize w7.drewN n8 = w8 at *
                  clear HS7 HB7 HO7 b7 n0' n2'
                  go_wp2_with fail
                  go_roundw
                  case rel => exact ⟨k + 1, A + data.length, G7, fl4, [((1 : Int), ((A + data.length : Nat) : Int))], a, by omega, by omega, rfl, by go_num, by omega, .inr rfl, HF4, HS8, HB8, HG7⟩
                  case measure => simp [intOf]; omega
        · have r1 : ¬ (k : Int) < l.length := by omega
          have c0 : wr.cell? ⟨nb, noff + k, none⟩ = some (.string t) := hs.out.old.cell HCN.out (by simp)
          go_wp2_with fail
          (with_reducible refine (yRename_any a t hs.out).mono ?_)
          have hren := hF.out.rename hs.out.ris.1 t
          obtain ⟨r0, fl4, hy⟩ : ∃ r0 fl4, yRename fl a t = (r0, fl4) := ⟨_, _, rfl⟩
          rw [hy] at hren
          have HYR := Lib.hid hy
          clear hy c0
          rcases hren with ⟨e1, f1⟩ | ⟨e1, f1⟩
          · have e1 : r0 = 0 := e1
            subst e1
            have f1 : First t data fl4 := f1
            have HF4 := Lib.hid f1
            have HT := Lib.hid f1.tell
            have HRE := Lib.hid (f1.read htk.out (by omega))
            clear f1
            rw [HYR.out]
            rintro e w4 ⟨rfl, G4, h4, hu4, hf4⟩
            have HS4 : Hid (YD w w4 gy G4 fl4 tk) := h4
            have HB4 := Lib.hid (hB.out.upd hu4 hG.out)
            have hltB := hB.out.lt
            have HG4 : Hid (g8 ∉ G4) := fun hx => by
              rcases hf4 _ hx with r | r
              · exact hG.out r
              · omega
            have c4 : w4.cell? ⟨nb, noff + k, none⟩ = some (.string t) := HS4.out.old.cell HCN.out (by simp)
            clear h4 hu4 hf4 hs hB hG HYR hltB
            go_wp2_with fail
            (with_reducible refine (yFindF_any t HS4.out).mono ?_)
            rw [HT.out]
            rintro e w5 ⟨rfl, hu5⟩
            have HS5 := Lib.hid (HS4.out.upd0 hu5)
            have HS6 := Lib.hid (HS5.out.upd0 ((Upd.refl [] w5).alloc (.cells #[.int .i64 1, .string t, .int .i64 data.length] 31)))
            have hB5 := HB4.out.upd hu5 (by simp)
            have b0 := hB5.cell 0
            simp only [List.getElem?_cons_zero] at b0
            have hlt5 := hB5.lt
            have HB6 := Lib.hid (hB5.upd ((Upd.refl [] w5).alloc (.cells #[.int .i64 1, .string t, .int .i64 data.length] 31)) (by simp))
            have HN6 := Lib.hid (Blk.new w5 31 [.int .i64 1, .string t, .int .i64 data.length])
            have HGN : Hid (w5.heap.size ∉ G4) := fun hx => by have := (HS5.out.ge _ hx).2; omega
            have HLN : Hid (w5.heap.size < (w5.alloc (.cells #[.int .i64 1, .string t, .int .i64 data.length] 31)).heap.size) := HN6.out.lt
            have HTL : Hid (tk.length ≤ 50000) := by have := htk.out.len; unfold Hid; omega
            have HTB := Lib.hid (htk.out.bd (by omega))
            clear hu5 hB5 HS4 HB4 c4
            go_wp2_with fail
            (with_reducible refine (yRead_any 1 0 65536 (i64_s 1 (by omega) (by omega)) (i64_s 0 (by omega) (by omega)) i64_max HS6.out HTL.out HTB.out).mono ?_)
            rw [HRE.out]
            rintro e w7 ⟨v7, rfl, ho7, G7, h7, hu7, hf7, -⟩
            have HS7 : Hid (YD w w7 gy G7 fl4 [((1 : Int), ((A + data.length : Nat) : Int))]) := h7
            have HO7 := Lib.hid ho7
            have hB7 := HB6.out.upd hu7 HG4.out
            have hN7 := HN6.out.upd hu7 HGN.out
            have b7 := hB7.cell 0
            have n0' := hN7.cell 0
            have n2' := hN7.cell 2
            simp only [List.getElem?_cons_zero, List.getElem?_cons_succ] at b7 n0' n2'
            have HB7 := Lib.hid hB7
            have HG7 : Hid (g8 ∉ G7) := fun hx => by
              rcases hf7 _ hx with r | r
              · exact HG4.out r
              · have := HLN.out; omega
            obtain ⟨a7, c7, rfl, h7c, h7m, -⟩ := ho7.rd
            clear h7 hu7 hf7 ho7 hB7 hN7 HS5 HS6 HB6 HN6 HTL HTB HLN HGN b0 h7c h7m
            go_wp2_with fail
            (with_reducible refine (sameByte_ok _ _ data _ HO7.out.rd (HD.out.upd0 HS7.out.old)).mono ?_)
            rintro e w8 ⟨rfl, n8, rfl⟩
            have HS8 := Lib.hid (HS7.out.upd0 ((Upd.refl [] w7).drewN n8))
            have HB8 := Lib.hid (HB7.out.upd ((Upd.refl [] w7).drewN n8) (by simp))
            generalize w7.drewN n8 = w8 at *
            clear HS7 HB7 HO7 b7 n0' n2'
            go_wp2_with fail
            go_roundw
            case rel => exact ⟨k + 1, A + data.length, G7, fl4, [((1 : Int), ((A + data.length : Nat) : Int))], t, by omega, by omega, rfl, by go_num, by omega, .inr rfl, HF4, HS8, HB8, HG7⟩
            case measure => simp [intOf]; omega
          · have e1 : r0 = 14 := e1
            subst e1
            have f1 : First a data fl4 := f1
            have HF4 := Lib.hid f1
            have HT := Lib.hid f1.tell
            have HRE := Lib.hid (f1.read htk.out (by omega))
            clear f1
            rw [HYR.out]
            rintro e w4 ⟨rfl, G4, h4, hu4, hf4⟩
            have HS4 : Hid (YD w w4 gy G4 fl4 tk) := h4
            have HB4 := Lib.hid (hB.out.upd hu4 hG.out)
            have hltB := hB.out.lt
            have HG4 : Hid (g8 ∉ G4) := fun hx => by
              rcases hf4 _ hx with r | r
              · exact hG.out r
              · omega
            have c4 : w4.cell? ⟨nb, noff + k, none⟩ = some (.string t) := HS4.out.old.cell HCN.out (by simp)
            clear h4 hu4 hf4 hs hB hG HYR hltB
            go_wp2_with fail
            (with_reducible refine (yFindF_any a HS4.out).mono ?_)
            rw [HT.out]
            rintro e w5 ⟨rfl, hu5⟩
            have HS5 := Lib.hid (HS4.out.upd0 hu5)
            have HS6 := Lib.hid (HS5.out.upd0 ((Upd.refl [] w5).alloc (.cells #[.int .i64 1, .string a, .int .i64 data.length] 31)))
            have hB5 := HB4.out.upd hu5 (by simp)
            have b0 := hB5.cell 0
            simp only [List.getElem?_cons_zero] at b0
            have hlt5 := hB5.lt
            have HB6 := Lib.hid (hB5.upd ((Upd.refl [] w5).alloc (.cells #[.int .i64 1, .string a, .int .i64 data.length] 31)) (by simp))
            have HN6 := Lib.hid (Blk.new w5 31 [.int .i64 1, .string a, .int .i64 data.length])
            have HGN : Hid (w5.heap.size ∉ G4) := fun hx => by have := (HS5.out.ge _ hx).2; omega
            have HLN : Hid (w5.heap.size < (w5.alloc (.cells #[.int .i64 1, .string a, .int .i64 data.length] 31)).heap.size) := HN6.out.lt
            have HTL : Hid (tk.length ≤ 50000) := by have := htk.out.len; unfold Hid; omega
            have HTB := Lib.hid (htk.out.bd (by omega))
            clear hu5 hB5 HS4 HB4 c4
            go_wp2_with fail
            (with_reducible refine (yRead_any 1 0 65536 (i64_s 1 (by omega) (by omega)) (i64_s 0 (by omega) (by omega)) i64_max HS6.out HTL.out HTB.out).mono ?_)
            rw [HRE.out]
            rintro e w7 ⟨v7, rfl, ho7, G7, h7, hu7, hf7, -⟩
            have HS7 : Hid (YD w w7 gy G7 fl4 [((1 : Int), ((A + data.length : Nat) : Int))]) := h7
            have HO7 := Lib.hid ho7
            have hB7 := HB6.out.upd hu7 HG4.out
            have hN7 := HN6.out.upd hu7 HGN.out
            have b7 := hB7.cell 0
            have n0' := hN7.cell 0
            have n2' := hN7.cell 2
            simp only [List.getElem?_cons_zero, List.getElem?_cons_succ] at b7 n0' n2'
            have HB7 := Lib.hid hB7
            have HG7 : Hid (g8 ∉ G7) := fun hx => by
              rcases hf7 _ hx with r | r
              · exact HG4.out r
              · have := HLN.out; omega
            obtain ⟨a7, c7, rfl, h7c, h7m, -⟩ := ho7.rd
            clear h7 hu7 hf7 ho7 hB7 hN7 HS5 HS6 HB6 HN6 HTL HTB HLN HGN b0 h7c h7m
            go_wp2_with fail
            (with_reducible refine (sameByte_ok _ _ data _ HO7.out.rd (HD.out.upd0 HS7.out.old)).mono ?_)
            rintro e w8 ⟨rfl, n8, rfl⟩
            have HS8 := Lib.hid (HS7.out.upd0 ((Upd.refl [] w7).drewN n8))
            have HB8 := Lib.hid (HB7.out.upd ((Upd.refl [] w7).drewN n8) (by simp))
            generalize w7.drewN n8 = w8 at *
            clear HS7 HB7 HO7 b7 n0' n2'
            go_wp2_with fail
            go_roundw
            case rel => exact ⟨k + 1, A + data.length, G7, fl4, [((1 : Int), ((A + data.length : Nat) : Int))], a, by omega, by omega, rfl, by go_num, by omega, .inr rfl, HF4, HS8, HB8, HG7⟩
            case measure => simp [intOf]; omega
      · rcases hend with ⟨hke, h20⟩ | ⟨hke, hkn⟩
        · have q1 : ¬ (k : Int) < names.length := by omega
          clear h20
          go_wp2_with fail
          (with_reducible refine (yardRuns_any _).mono ?_)
          rintro e w4 ⟨rfl, hu4⟩
          have HU4 := Lib.hid (hs.out.old.trans hu4 (fun _ hx => hx) (by simp))
          clear hu4
          go_wp2_with fail
          go_ret
          exact ⟨rfl, HU4.out⟩
        · have q1 : (k : Int) < names.length := by omega
          have q2 : ¬ (k : Int) < 20 := by omega
          go_wp2_with fail
          (with_reducible refine (yardRuns_any _).mono ?_)
          rintro e w4 ⟨rfl, hu4⟩
          have HU4 := Lib.hid (hs.out.old.trans hu4 (fun _ hx => hx) (by simp))
          clear hu4
          go_wp2_with fail
          go_ret
          exact ⟨rfl, HU4.out⟩
end Go.Proofs.Ytmhdhnipljonlaa
