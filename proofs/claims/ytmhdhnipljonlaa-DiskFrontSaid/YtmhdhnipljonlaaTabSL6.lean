/- slices.Insert of one row, and chapter 4's Set, at string,[]uint8. -/
import Derived.Test.YtmhdhnipljonlaaTabSL5
import Derived.Test.YtmhdhnipljonlaaTabSL4
import Derived.Laws.Externs
import Derived.Lib.JoinLaws
namespace Go.Proofs.Ytmhdhnipljonlaa
open Go.RowKit
set_option linter.unusedSimpArgs false
set_option linter.unusedVariables false
section
variable {base : Nat} {g : Nat} {lv : Value} {l : List (ByteArray × Sl)} {w w' : World}
set_option maxRecDepth 20000 in
set_option maxHeartbeats 1000000 in
theorem slInsSL_end (w : World) (v : Value) (vb : Nat) (x : ByteArray × Sl) (hs : OwnN 2 rcSL base 143 w v l) (hlen : l.length ≤ 100000) (hbs : base ≤ w.heap.size) (hv : Blk w vb 143 (rcSL x)) :
    Calls Try.prog 100 #[v, .int .i64 (l.length : Int), .slice (some ⟨vb, 0, none⟩) 1 1] w fun e w' => ∃ v', e = .returned v' ∧ OwnN 2 rcSL base 143 w' v' (l ++ [x]) ∧ Upd (blk v) w w' ∧ (∀ y ∈ blk v', y ∈ blk v ∨ w.heap.size ≤ y) := by
  have hrd : RdN 2 rcSL w (.slice (some ⟨vb, 0, none⟩) 1 1) [x] := ⟨_, 1, rfl, by simp, by simp [maxLen], fun _ => ⟨vb, 0, rfl, fun j hj i hi => by
    simp at hj; subst hj
    rw [hv.cell]; simp [nth_cons_zero]⟩⟩
  have HR := Lib.hid (fun ty => run_appN (P := Try.prog) (ty := ty) rcSL_len (by decide) rcSL_one undSL infoRowSL rfl v _ l [x] hs hrd (by simp; omega) (by simp [maxLen]; omega) hbs)
  obtain ⟨ao, n, co, rfl⟩ := hs.slice_
  have hn : n = l.length ∧ l.length ≤ co := by
    rcases hs.2 with ⟨he, h0⟩ | ⟨_, _, _, he, _, _, hc, _⟩
    · injection he with e1 e2 e3; subst e2; subst e3; exact ⟨h0.symm, by omega⟩
    · injection he with e1 e2 e3; subst e2; subst e3; exact ⟨rfl, hc⟩
  obtain ⟨rfl, hco⟩ := hn
  clear hs hrd hv
  have hd : co = l.length ∨ ¬ co = l.length := by omega
  rcases hd with hd | hd
  all_goals
    go_enter Try.func100, Try.ntmps100
    go_wp2_with (at_builtin; refine wpList_app_of rfl _ _ rfl (.slice ao l.length co) (.slice (some ⟨vb, 0, none⟩) 1 1) rfl rfl (HR.out _) ?_; rintro v1 w3 ⟨ho3, hu3, hb3⟩; have HO3 := Lib.hid ho3; obtain ⟨a1, n1, c1, rfl⟩ := ho3.slice_; clear ho3)
    go_ret
    exact ⟨_, rfl, HO3.out, hu3, hb3⟩
theorem ovlSL (w : World) (vb gb vo go_ la ca lb cb kA kB : Nat) (tA tB : TypeId) (hne : vb ≠ gb) (hsa : w.shape? vb = some (tA, kA)) (hsb : w.shape? gb = some (tB, kB)) (hkB : kB ≠ 0) (hfa : w.frozen? ⟨vb, vo, none⟩ = false) (hfe : w.frozen? ⟨vb, kA, none⟩ = false) :
    (callFunc 104 #[.slice (some ⟨vb, vo, none⟩) la ca, .slice (some ⟨gb, go_, none⟩) lb cb]).run Try.prog w = .ok (.value (.bool false)) w := by
  have hz : ∀ w, (sizeOf 143).run Try.prog w = .ok 2 w := by
    intro w
    obtain ⟨i, h1, h2, h3, h4⟩ := info_parts infoRowSL
    simp [sizeOf, typeInfo, h1, h3]
  rw [run_callFunc_extern Try.func104 (by kernel_rfl) (by kernel_rfl) (by kernel_rfl) (e := Extern.SlicesOverlaps.overlaps #[138, 138] #[4]) (by kernel_rfl),
    Lib.run_overlaps_apart w 138 4 143 undSL 2 hz ⟨vb, vo, none⟩ ⟨gb, go_, none⟩ la ca lb cb hne tA tB kA kB hsa hsb hkB hfa hfe]
  rfl
set_option maxRecDepth 20000 in
set_option maxHeartbeats 2000000 in
theorem slInsSL_shift (w : World) (g n cap i : Nat) (vb : Nat) (x : ByteArray × Sl) (hs : OwnN 2 rcSL base 143 w (.slice (some ⟨g, 0, none⟩) n cap) l) (hi : i < l.length) (hroom : l.length + 1 ≤ cap) (hlen : l.length ≤ 100000) (hv : Blk w vb 143 (rcSL x)) (hvg : vb ≠ g) :
    Calls Try.prog 100 #[.slice (some ⟨g, 0, none⟩) n cap, .int .i64 (i : Int), .slice (some ⟨vb, 0, none⟩) 1 1] w fun e w' => ∃ v', e = .returned v' ∧ OwnN 2 rcSL base 143 w' v' (l.take i ++ x :: l.drop i) ∧ Upd [g] w w' ∧ (∀ y ∈ blk v', y ∈ [g] ∨ w.heap.size ≤ y) := by
  obtain ⟨rfl, hb, hc, hm, cur, hg, hsz, hp⟩ := hs.open_ rcSL_len
  have hdl : ((l.drop i).flatMap rcSL).length = (l.length - i) * 2 := by rw [flatMap_len rcSL_len, List.length_drop]
  have htl : ((l.take i).flatMap rcSL).length = i * 2 := by rw [flatMap_len rcSL_len, List.length_take]; congr 1; omega
  have hp1 : Piece cur 0 ((l.take i).flatMap rcSL) := by rw [flat_split rcSL l i] at hp; exact hp.left
  have hp2 : Piece cur (i * 2) ((l.drop i).flatMap rcSL) := by rw [flat_split rcSL l i] at hp; have := hp.right; rwa [htl, Nat.zero_add] at this
  have h1c : ∀ u ∈ (l.drop i).flatMap rcSL, u.oneCell' = true := mem_flat_one rcSL_one _
  generalize hcs : (l.drop i).flatMap rcSL = cs at *
  have hcap : (l.length + 1) * 2 ≤ cur.size := by rw [hsz]; exact Nat.mul_le_mul_right 2 (by omega)
  have hfit : (i + 1) * 2 + cs.length ≤ cur.size := by rw [hdl]; omega
  have hA := (fun ty dc sc => run_copy_lay (P := Try.prog) (sz := 2) (dT := 138) (sT := 138) (ty := ty) (dLen := l.length + 1 - (i + 1)) (dCap := dc) (a := ⟨g, i * 2, none⟩) (sLen := l.length + 1 - i) (sCap := sc) (k := l.length - i) undSL (by kernel_rfl) w.drew hg (by simp only [Nat.min_def]; split <;> omega) hdl (fun j u hu => by rw [add_none]; exact hp2.cell hg j u hu) hfit h1c)
  have hz := lay_sz cur ((i + 1) * 2) cs hfit
  have k1 := hp1.stay ((i + 1) * 2) cs hfit (.inl (by omega))
  have k2 := Piece.lay cur ((i + 1) * 2) cs hfit
  generalize lay_ cur ((i + 1) * 2) cs = cur1 at *
  have hg1 : (w.drew.setRow g cur1).heap[g]? = some (.cells cur1 143 (0, 0)) := setRow_heap w.drew g cur cur1 _ _ hg
  have hu1 : Upd [g] w (w.drew.setRow g cur1) := (Upd.refl [g] w).drew.setRow g _ (.inl (by simp))
  have hv1 := hv.upd hu1 (by simpa using hvg)
  obtain ⟨W1, hW1⟩ : ∃ W1, W1 = w.drew.setRow g cur1 := ⟨_, rfl⟩
  rw [← hW1] at hA hg1 hu1 hv1
  have hfx : i * 2 + (rcSL x).length ≤ cur1.size := by rw [hz, rcSL_len]; omega
  have hB := (fun ty dc => run_copy_lay (P := Try.prog) (sz := 2) (dT := 138) (sT := 138) (ty := ty) (dLen := l.length + 1 - i) (dCap := dc) (a := ⟨vb, 0, none⟩) (sLen := 1) (sCap := 1) (k := 1) (cs := rcSL x) undSL (by kernel_rfl) W1 hg1 (by simp only [Nat.min_def]; split <;> omega) rfl (fun j u hu => by rw [add_none, hv1.cell, Nat.zero_add]; exact hu) hfx (rcSL_one x))
  have hz2 := lay_sz cur1 (i * 2) (rcSL x) hfx
  have m1 := k1.stay (i * 2) (rcSL x) hfx (.inl (by omega))
  have m2 := Piece.lay cur1 (i * 2) (rcSL x) hfx
  have m3 := k2.stay (i * 2) (rcSL x) hfx (.inr (by rw [rcSL_len]; omega))
  generalize lay_ cur1 (i * 2) (rcSL x) = cur2 at *
  have HK := Lib.hid (show OwnN 2 rcSL base 143 (W1.setRow g cur2) (.slice (some ⟨g, 0, none⟩) (l.length + 1) cap) (l.take i ++ x :: l.drop i) from by
    refine OwnN.of_piece rcSL_len cur2 (by simp; omega) hb (by simp; omega) hm (setRow_heap _ g cur1 _ _ _ hg1) (by rw [hz2, hz, hsz]) ?_
    rw [List.flatMap_append, List.flatMap_cons, hcs]
    refine m1.app ?_
    rw [htl, Nat.zero_add (i * 2)]
    refine m2.app ?_
    rw [rcSL_len, show i * 2 + 2 = (i + 1) * 2 by omega]
    exact m3)
  have HU := Lib.hid (show Upd [g] w (W1.setRow g cur2) from hu1.setRow g _ (.inl (by simp)))
  obtain ⟨W2, hW2⟩ : ∃ W2, W2 = W1.setRow g cur2 := ⟨_, rfl⟩
  rw [← hW2] at hB HK HU
  have HA := Lib.hid hA
  have HB := Lib.hid hB
  have HO := Lib.hid (fun lb cb => ovlSL w vb g 0 ((i + 1) * 2) 1 1 lb cb (rcSL x).toArray.size cur.size 143 143 hvg (by unfold World.shape?; rw [show w.heap[vb]? = _ from hv]) (by unfold World.shape?; rw [hg]) (by omega) (hv.frozen 0) (hv.frozen _))
  clear hs hp hp1 hp2 hsz hg hdl htl h1c hfit hz k1 k2 hg1 hcs hcap hA hB hv hv1 hu1 hfx hz2 m1 m2 m3 hW1 hW2
  have HL := Lib.hid (show True from trivial)
  generalize l.length = n at *
  have hc63 : cap ≤ 9223372036854775807 := by unfold maxLen at hm; omega
  have hz1 : ¬ ((i : Int) = (n : Int)) := by omega
  have hw1 : IntKind.i64.wrap ((i : Int) + 1) = (i : Int) + 1 := by rw [IntKind.wrap_i64]; omega
  have hw2 : IntKind.i64.wrap ((n : Int) + 1) = (n : Int) + 1 := by rw [IntKind.wrap_i64]; omega
  have b1 : (0 : Int) ≤ (i : Int) + 1 := by omega
  have b2 : (0 : Int) ≤ (n : Int) + 1 := by omega
  have t1 : ((i : Int) + 1).toNat = i + 1 := by omega
  have t2 : ((n : Int) + 1).toNat = n + 1 := by omega
  have b3 : ¬ (cap = i + 1) := by omega
  have b4 : ¬ (cap = i) := by omega
  have b5 : (i : Int) + 1 ≤ (n : Int) + 1 := by omega
  have b6 : (i : Int) ≤ (n : Int) + 1 := by omega
  have b7 : (n : Int) + 1 ≤ (cap : Int) := by omega
  have b8 : i ≤ n := by omega
  go_enter Try.func100, Try.ntmps100
  go_wp2_with (simp only [HO.out])
  go_region_law (refine step_copy_eq rfl (.tmp 73) (.tmp 76) 138 138 rfl (.slice (some ⟨g, (i + 1) * 2, none⟩) (n + 1 - (i + 1)) (cap - (i + 1))) (.slice (some ⟨g, i * 2, none⟩) (n + 1 - i) (cap - i)) (by simp [Act.eval, Act.put]) (by simp [Act.eval, Act.put]) (HA.out _ _ _) ?_)
  go_wp2_with (with_reducible refine wpList_copy_eq rfl (.tmp 80) (.tmp 81) 138 138 rfl (.slice (some ⟨g, i * 2, none⟩) (n + 1 - i) (cap - i)) (.slice (some ⟨vb, 0, none⟩) 1 1) rfl rfl (HB.out _ _) ?_)
  go_ret
  exact ⟨_, rfl, HK.out, HU.out, fun y hy => .inl (by simpa [blk] using hy)⟩
set_option maxRecDepth 20000 in
set_option maxHeartbeats 2000000 in
theorem slInsSL_grow (w : World) (g n cap i : Nat) (vb : Nat) (x : ByteArray × Sl) (hs : OwnN 2 rcSL base 143 w (.slice (some ⟨g, 0, none⟩) n cap) l) (hi : i < l.length) (hroom : cap < l.length + 1) (hlen : l.length ≤ 100000) (hbs : base ≤ w.heap.size) (hv : Blk w vb 143 (rcSL x)) :
    Calls Try.prog 100 #[.slice (some ⟨g, 0, none⟩) n cap, .int .i64 (i : Int), .slice (some ⟨vb, 0, none⟩) 1 1] w fun e w' => ∃ v', e = .returned v' ∧ OwnN 2 rcSL base 143 w' v' (l.take i ++ x :: l.drop i) ∧ Upd [g] w w' ∧ (∀ y ∈ blk v', y ∈ [g] ∨ w.heap.size ≤ y) := by
  obtain ⟨rfl, hb, hc, hm, cur, hg, hsz, hp⟩ := hs.open_ rcSL_len
  obtain ⟨i0, hi0, hz0, hzs, hzb⟩ := info_parts infoRowSL
  have hdl : ((l.drop i).flatMap rcSL).length = (l.length - i) * 2 := by rw [flatMap_len rcSL_len, List.length_drop]
  have htl : ((l.take i).flatMap rcSL).length = i * 2 := by rw [flatMap_len rcSL_len, List.length_take]; congr 1; omega
  have hp1 : Piece cur 0 ((l.take i).flatMap rcSL) := by rw [flat_split rcSL l i] at hp; exact hp.left
  have hp2 : Piece cur (i * 2) ((l.drop i).flatMap rcSL) := by rw [flat_split rcSL l i] at hp; have := hp.right; rwa [htl, Nat.zero_add] at this
  have h1c : ∀ u ∈ (l.drop i).flatMap rcSL, u.oneCell' = true := mem_flat_one rcSL_one _
  have hgw : g < w.heap.size := (Array.getElem?_eq_some_iff.1 hg).1
  have hold : (Builtin.firstCells i0.size i (.slice (some ⟨g, 0, none⟩) i cap)).run Try.prog w.drew = .ok ((l.take i).flatMap rcSL).toArray w.drew := by
    rw [hzs]
    exact run_firstCells_some w.drew 2 i ⟨g, 0, none⟩ i cap _ htl (fun j u hu => by rw [add_none]; exact hp1.cell hg j u hu)
  have hkk : (l.length : Int) + 1 - (i : Int) = ((l.length + 1 - i : Nat) : Int) := by omega
  have hik : i + (l.length + 1 - i) = l.length + 1 := by omega
  have u3 : Try.prog.underlying 3 = some (.int .i64) := by kernel_rfl
  have hrz := fun ty => Lib.run_append_grow_zeros (P := Try.prog) w 138 3 ty 143 i0 _ .i64 .i64 undSL u3 hi0 hz0 (some ⟨g, 0, none⟩) i cap _ hold (l.length + 1 - i) (by omega) (by omega) (by omega) (by omega) (by rw [hzb]; omega) (by rw [hzb, hik]; exact growslice_fits (by omega) (by omega))
  rw [hik] at hrz
  have hGe := grownCap_ge w (l.length + 1) cap 143
  have hGm : grownCap w (l.length + 1) cap 143 ≤ maxLen := grownCap_le_maxLen w (l.length + 1) cap _ (by unfold maxLen; omega)
  generalize grownCap w (l.length + 1) cap 143 = G at *
  obtain ⟨ROW, hROW⟩ : ∃ ROW : Array Value, ROW = ((l.take i).flatMap rcSL).toArray ++ Builtin.zeroCells (Value.agg #[.string ⟨#[]⟩, .slice none 0 0]).cells (l.length + 1 - i) ++ Builtin.zeroCells (Value.agg #[.string ⟨#[]⟩, .slice none 0 0]).cells (G - (l.length + 1)) := ⟨_, rfl⟩
  rw [← hROW] at hrz
  have hzz : (Value.agg #[.string ⟨#[]⟩, .slice none 0 0]).cells.size = 2 := rfl
  have hRs : ROW.size = G * 2 := by
    rw [hROW]
    simp only [Array.size_append, List.size_toArray, size_zeroCells, hzz, htl]
    omega
  have hRp : Piece ROW 0 ((l.take i).flatMap rcSL) := fun j u hu => by
    have hj := (List.getElem?_eq_some_iff.1 hu).1
    rw [hROW, Array.append_assoc, Array.getElem?_append_left (by simp only [Array.size_append, List.size_toArray]; omega), Nat.zero_add]
    simpa using hu
  clear hROW hold hp1
  obtain ⟨W1, hW1⟩ : ∃ W1, W1 = w.drew.alloc (.cells ROW 143) := ⟨_, rfl⟩
  rw [← hW1] at hrz
  have hg1 : W1.heap[w.heap.size]? = some (.cells ROW 143 (0, 0)) := by rw [hW1]; exact heap_alloc_new w.drew _
  have hu1 : Upd [] w W1 := by rw [hW1]; exact (Upd.refl [] w).drew.alloc _
  have hv1 := hv.upd hu1 (by simp)
  have hgg := hu1.heap hg (by simp)
  generalize hgn : w.heap.size = gn at *
  have hgne : g ≠ gn := by omega
  have hvw : vb < gn := by rw [← hgn]; exact hv.lt
  have hvne : vb ≠ gn := by omega
  have hfx : i * 2 + (rcSL x).length ≤ ROW.size := by rw [hRs, rcSL_len]; omega
  have hB := (fun ty dc => run_copy_lay (P := Try.prog) (sz := 2) (dT := 138) (sT := 138) (ty := ty) (dLen := l.length + 1 - i) (dCap := dc) (a := ⟨vb, 0, none⟩) (sLen := 1) (sCap := 1) (k := 1) (cs := rcSL x) undSL (by kernel_rfl) W1 hg1 (by simp only [Nat.min_def]; split <;> omega) rfl (fun j u hu => by rw [add_none, hv1.cell, Nat.zero_add]; exact hu) hfx (rcSL_one x))
  have hz2 := lay_sz ROW (i * 2) (rcSL x) hfx
  have m1 := hRp.stay (i * 2) (rcSL x) hfx (.inl (by omega))
  have m2 := Piece.lay ROW (i * 2) (rcSL x) hfx
  generalize lay_ ROW (i * 2) (rcSL x) = cur1 at *
  have hg2 : (W1.setRow gn cur1).heap[gn]? = some (.cells cur1 143 (0, 0)) := setRow_heap W1 gn ROW cur1 _ _ hg1
  have hu2 : Upd [gn] W1 (W1.setRow gn cur1) := (Upd.refl [gn] W1).setRow gn _ (.inl (by simp))
  have hgg2 := hu2.heap hgg (by simpa using hgne)
  obtain ⟨W2, hW2⟩ : ∃ W2, W2 = W1.setRow gn cur1 := ⟨_, rfl⟩
  rw [← hW2] at hB hg2 hu2 hgg2
  generalize hcs : (l.drop i).flatMap rcSL = cs at *
  have hfit : (i + 1) * 2 + cs.length ≤ cur1.size := by rw [hdl, hz2, hRs]; omega
  have hA := (fun ty dc sc => run_copy_lay (P := Try.prog) (sz := 2) (dT := 138) (sT := 138) (ty := ty) (dLen := l.length + 1 - (i + 1)) (dCap := dc) (a := ⟨g, i * 2, none⟩) (sLen := l.length - i) (sCap := sc) (k := l.length - i) undSL (by kernel_rfl) W2.drew hg2 (by simp only [Nat.min_def]; split <;> omega) hdl (fun j u hu => by rw [add_none]; exact hp2.cell hgg2 j u hu) hfit h1c)
  have hz3 := lay_sz cur1 ((i + 1) * 2) cs hfit
  have k1 := m1.stay ((i + 1) * 2) cs hfit (.inl (by omega))
  have k2 := m2.stay ((i + 1) * 2) cs hfit (.inl (by rw [rcSL_len]; omega))
  have k3 := Piece.lay cur1 ((i + 1) * 2) cs hfit
  generalize lay_ cur1 ((i + 1) * 2) cs = cur2 at *
  have HK := Lib.hid (show OwnN 2 rcSL base 143 (W2.drew.setRow gn cur2) (.slice (some ⟨gn, 0, none⟩) (l.length + 1) G) (l.take i ++ x :: l.drop i) from by
    refine OwnN.of_piece rcSL_len cur2 (by simp; omega) hbs (by simp; omega) hGm (setRow_heap W2.drew gn cur1 _ _ _ hg2) (by rw [hz3, hz2, hRs]) ?_
    rw [List.flatMap_append, List.flatMap_cons, hcs]
    refine k1.app ?_
    rw [htl, Nat.zero_add (i * 2)]
    refine k2.app ?_
    rw [rcSL_len, show i * 2 + 2 = (i + 1) * 2 by omega]
    exact k3)
  have HU := Lib.hid (show Upd [g] w (W2.drew.setRow gn cur2) from (((hu1.trans (T := [g]) hu2 (by simp) (fun y hy => .inr (by simp at hy; omega))).drew).setRow gn _ (.inr (by omega))))
  obtain ⟨W3, hW3⟩ : ∃ W3, W3 = W2.drew.setRow gn cur2 := ⟨_, rfl⟩
  rw [← hW3] at hA HK HU
  have HA := Lib.hid hA
  have HB := Lib.hid hB
  have hrz' : ∀ ty, (Builtin.append_ #[138, 3] ty #[.slice (some ⟨g, 0, none⟩) i cap, .int .i64 ((l.length : Int) + 1 - (i : Int))]).run Try.prog w = .ok (.slice (some ⟨gn, 0, none⟩) (l.length + 1) G) W1 := fun ty => by rw [hkk]; exact hrz ty
  have HZ := Lib.hid hrz'
  have HG := Lib.hid hgn
  clear hs hp hp2 hsz hg hdl htl h1c hfit k1 k2 k3 hg1 hg2 hcs hA hB hv hv1 hu1 hu2 hfx hz2 hz3 m1 m2 hW1 hW2 hW3 hrz hrz' hgg hgg2 hRs hRp hgn hgw hi0 hz0 hzs hzb hkk hik hzz hgne hvw hvne
  generalize l.length = n at *
  obtain rfl : cap = n := by omega
  have hc63 : G ≤ 9223372036854775807 := by unfold maxLen at hGm; omega
  have hz1 : ¬ ((i : Int) = (cap : Int)) := by omega
  have hw1 : IntKind.i64.wrap ((i : Int) + 1) = (i : Int) + 1 := by rw [IntKind.wrap_i64]; omega
  have hw2 : IntKind.i64.wrap ((cap : Int) + 1) = (cap : Int) + 1 := by rw [IntKind.wrap_i64]; omega
  have hw3 : IntKind.i64.wrap ((cap : Int) + 1 - (i : Int)) = (cap : Int) + 1 - (i : Int) := by rw [IntKind.wrap_i64]; omega
  have b1 : (0 : Int) ≤ (i : Int) + 1 := by omega
  have b2 : (0 : Int) ≤ (cap : Int) + 1 := by omega
  have t1 : ((i : Int) + 1).toNat = i + 1 := by omega
  have t2 : ((cap : Int) + 1).toNat = cap + 1 := by omega
  have b3 : ¬ (G = i + 1) := by omega
  have b4 : ¬ (G = i) := by omega
  have b5 : (i : Int) + 1 ≤ (cap : Int) + 1 := by omega
  have b6 : (i : Int) ≤ (cap : Int) + 1 := by omega
  have b7 : ¬ (cap = i) := by omega
  have b8 : i ≤ cap := by omega
  go_enter Try.func100, Try.ntmps100
  go_wp2_with (first
    | (at_builtin; refine wpList_app_eq rfl _ _ 138 3 rfl (.slice (some ⟨g, 0, none⟩) i cap) (.int .i64 ((cap : Int) + 1 - (i : Int))) rfl rfl (HZ.out _) ?_)
    | (with_reducible refine wpList_copy_eq rfl (.tmp 43) (.tmp 44) 138 138 rfl (.slice (some ⟨gn, i * 2, none⟩) (cap + 1 - i) (G - i)) (.slice (some ⟨vb, 0, none⟩) 1 1) rfl rfl (HB.out _ _) ?_))
  go_region_law (refine step_copy_eq rfl (.tmp 50) (.tmp 53) 138 138 rfl (.slice (some ⟨gn, (i + 1) * 2, none⟩) (cap + 1 - (i + 1)) (G - (i + 1))) (.slice (some ⟨g, i * 2, none⟩) (cap - i) (cap - i)) (by simp [Act.eval, Act.put]) (by simp [Act.eval, Act.put]) (HA.out _ _ _) ?_)
  go_wp2_with fail
  go_ret
  exact ⟨_, rfl, HK.out, HU.out, fun y hy => .inr (by simp [blk] at hy; have := HG.out; omega)⟩
theorem slInsSL_any (w : World) (v : Value) (i : Nat) (vb : Nat) (x : ByteArray × Sl) (hs : OwnN 2 rcSL base 143 w v l) (hi : i ≤ l.length) (hlen : l.length ≤ 100000) (hbs : base ≤ w.heap.size) (hv : Blk w vb 143 (rcSL x)) (hvg : vb ∉ blk v) :
    Calls Try.prog 100 #[v, .int .i64 (i : Int), .slice (some ⟨vb, 0, none⟩) 1 1] w fun e w' => ∃ v', e = .returned v' ∧ OwnN 2 rcSL base 143 w' v' (l.take i ++ x :: l.drop i) ∧ Upd (blk v) w w' ∧ (∀ y ∈ blk v', y ∈ blk v ∨ w.heap.size ≤ y) := by
  by_cases he : i = l.length
  · subst he
    rw [List.take_length, List.drop_length]
    exact slInsSL_end w v vb x hs hlen hbs hv
  · rcases hs.2 with ⟨-, h0⟩ | ⟨g, cap, cur, rfl, -⟩
    · omega
    · by_cases hc : l.length + 1 ≤ cap
      · exact slInsSL_shift w g l.length cap i vb x hs (by omega) hc hlen hv (by simpa [blk] using hvg)
      · exact slInsSL_grow w g l.length cap i vb x hs (by omega) (by omega) hlen hbs hv
set_option maxRecDepth 20000 in
set_option maxHeartbeats 400000 in
theorem tSetSL_new (w : World) (k : ByteArray) (y : Sl) (hs : TBSL base w g lv l) (hr : Rising ltSL l) (hlen : l.length ≤ 100000) (hbs : base ≤ w.heap.size) (hk : True) (hn : isIn ltSL l k = false) :
    Calls Try.prog 88 #[.pointer (some ⟨g, 0, none⟩), sv k, slv y] w fun e w' => e = .returned (.bool true) ∧ ∃ lv', TBSL base w' g lv' (l.take (below ltSL l k) ++ (k, y) :: l.drop (below ltSL l k)) ∧ Upd (g :: blk lv) w w' ∧ (∀ x ∈ blk lv', x ∈ blk lv ∨ w.heap.size ≤ x) := by
  have hc := tFindSL_any w k hs hr hlen hk
  rw [hn] at hc
  have HC := Lib.hid hc
  have HS := Lib.hid hs
  have hle := below_le (lt := ltSL) l k
  have HD := Lib.hid (fun w1 (h : Upd [] w w1) => slInsSL_any (w1.alloc (.cells #[sv k, slv y] 143)) lv (below ltSL l k) w1.heap.size (k, y) (hs.rows.upd (h.alloc _) (by simp)) hle hlen (by have := h.size; simp; omega) (Blk.new w1 _ [sv k, slv y]) (fun hx => by have := (hs.rows.ge _ hx).2; have := h.size; omega))
  have D0 := Lib.hid (show w.cell? ⟨g, 0, none⟩ = some lv from hs.tab.cell 0)
  obtain ⟨ao, n, co, rfl⟩ := hs.rows.slice_
  clear hs hr hk hc hn hbs hle
  generalize below ltSL l k = i at *
  go_enter Try.func88, Try.ntmps88
  go_wp2_with fail
  with_reducible refine HC.out.mono ?_
  rintro e w1 ⟨rfl, hu1⟩
  have d0 := hu1.cell D0.out (by simp)
  have HU1 := Lib.hid hu1
  go_wp2_with fail
  with_reducible refine (HD.out w1 HU1.out).mono ?_
  rintro e w2 ⟨v2, rfl, ho2, hu2, hb2⟩
  have hgl := HS.out.g_lv
  have hu1' := HU1.out.alloc (.cells #[sv k, slv y] 143)
  have f0 : w2.frozen? ⟨g, 0, none⟩ = false := ((HS.out.tab.upd hu1' (by simp)).upd hu2 hgl).frozen 0
  have d2 : w2.cell? ⟨g, 0, none⟩ = some (.slice ao n co) := hu2.cell (hu1'.cell D0.out (by simp)) hgl
  obtain ⟨ao2, n2, co2, rfl⟩ := ho2.slice_
  have hg2 : g ∉ blk (.slice ao2 n2 co2) := fun hx => by
    rcases hb2 g hx with q | q
    · exact hgl q
    · have := HS.out.tab.lt; have := hu1'.size; omega
  have HT := Lib.hid (show TBSL base (w2.setCell ⟨g, 0, none⟩ (.slice ao2 n2 co2)) g (.slice ao2 n2 co2) (l.take i ++ (k, y) :: l.drop i) from
    ⟨by simpa using ((HS.out.tab.upd hu1' (by simp)).upd hu2 hgl).set_ 0 (.slice ao2 n2 co2), ho2.upd ((Upd.refl [g] _).setCell _ _ (.inl (by simp))) (by intro x hx; simp; rintro rfl; exact hg2 hx), HS.out.gb⟩)
  have HU2 := Lib.hid (show Upd (g :: blk (.slice ao n co)) w (w2.setCell ⟨g, 0, none⟩ (.slice ao2 n2 co2)) from (hu1'.trans (T := g :: blk (.slice ao n co)) hu2 (by simp) (fun x hx => .inl (by simp [hx]))).setCell _ _ (.inl (by simp)))
  have HB2 := Lib.hid (show ∀ x ∈ blk (.slice ao2 n2 co2), x ∈ blk (.slice ao n co) ∨ w.heap.size ≤ x from fun x hx => (hb2 x hx).imp id (fun h => by have := hu1'.size; omega))
  clear ho2 hu1 hu2 hgl hg2 hb2 hu1'
  go_wp2_with fail
  go_ret
  exact ⟨rfl, _, HT.out, HU2.out, HB2.out⟩
theorem tSetSL_any (w : World) (k : ByteArray) (y : Sl) (hs : TBSL base w g lv l) (hr : Rising ltSL l) (hlen : l.length ≤ 100000) (hbs : base ≤ w.heap.size) (hk : True) :
    Calls Try.prog 88 #[.pointer (some ⟨g, 0, none⟩), sv k, slv y] w fun e w' => e = .returned (.bool (!isIn ltSL l k)) ∧ ∃ lv', TBSL base w' g lv' (tSet ltSL l k y) ∧ Upd (g :: blk lv) w w' ∧ (∀ x ∈ blk lv', x ∈ blk lv ∨ w.heap.size ≤ x) := by
  cases hn : isIn ltSL l k with
  | false =>
    refine (tSetSL_new w k y hs hr hlen hbs hk hn).mono ?_
    rintro e w' ⟨rfl, v', ht, hu, hb⟩
    exact ⟨rfl, v', by unfold tSet; rw [hn]; exact ht, hu, hb⟩
  | true =>
    refine (tSetSL_old w k y hs hr hlen hk hn).mono ?_
    rintro e w' ⟨rfl, ht, hu⟩
    refine ⟨rfl, lv, ?_, hu.mono (fun x hx => .inl (by simp [hx])), fun x hx => .inl hx⟩
    rw [tSet_in l k y hn]; exact ht
end
end Go.Proofs.Ytmhdhnipljonlaa
