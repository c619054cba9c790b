/- slices.Insert of one row, and chapter 4's Set, at int,spoor/yard.file. -/
import Derived.Test.YtmhdhnipljonlaaTabIF5
import Derived.Laws.Externs
import Derived.Lib.JoinLaws
namespace Go.Proofs.Ytmhdhnipljonlaa
open Go.RowKit
set_option linter.unusedSimpArgs false
set_option linter.unusedVariables false
section
variable {base : Nat} {g : Nat} {lv : Value} {l : List (Int × (ByteArray × Sl))} {w w' : World}
set_option maxRecDepth 20000 in
set_option maxHeartbeats 1000000 in
theorem slInsIF_end (w : World) (v : Value) (vb : Nat) (x : Int × (ByteArray × Sl)) (hs : OwnN 3 rcIF base 132 w v l) (hlen : l.length ≤ 100000) (hbs : base ≤ w.heap.size) (hv : Blk w vb 132 (rcIF x)) :
    Calls Try.prog 83 #[v, .int .i64 (l.length : Int), .slice (some ⟨vb, 0, none⟩) 1 1] w fun e w' => ∃ v', e = .returned v' ∧ OwnN 3 rcIF base 132 w' v' (l ++ [x]) ∧ Upd (blk v) w w' ∧ (∀ y ∈ blk v', y ∈ blk v ∨ w.heap.size ≤ y) := by
  have hrd : RdN 3 rcIF w (.slice (some ⟨vb, 0, none⟩) 1 1) [x] := ⟨_, 1, rfl, by simp, by simp [maxLen], fun _ => ⟨vb, 0, rfl, fun j hj i hi => by
    simp at hj; subst hj
    rw [hv.cell]; simp [nth_cons_zero]⟩⟩
  have HR := Lib.hid (fun ty => run_appN (P := Try.prog) (ty := ty) rcIF_len (by decide) rcIF_one undIF infoRowIF rfl v _ l [x] hs hrd (by simp; omega) (by simp [maxLen]; omega) hbs)
  obtain ⟨ao, n, co, rfl⟩ := hs.slice_
  have hn : n = l.length ∧ l.length ≤ co := by
    rcases hs.2 with ⟨he, h0⟩ | ⟨_, _, _, he, _, _, hc, _⟩
    · injection he with e1 e2 e3; subst e2; subst e3; exact ⟨h0.symm, by omega⟩
    · injection he with e1 e2 e3; subst e2; subst e3; exact ⟨rfl, hc⟩
  obtain ⟨rfl, hco⟩ := hn
  clear hs hrd hv
  have hd : co = l.length ∨ ¬ co = l.length := by omega
  rcases hd with hd | hd
  all_goals
    go_enter Try.func83, Try.ntmps83
    go_wp2_with (at_builtin; refine wpList_app_of rfl _ _ rfl (.slice ao l.length co) (.slice (some ⟨vb, 0, none⟩) 1 1) rfl rfl (HR.out _) ?_; rintro v1 w3 ⟨ho3, hu3, hb3⟩; have HO3 := Lib.hid ho3; obtain ⟨a1, n1, c1, rfl⟩ := ho3.slice_; clear ho3)
    go_ret
    exact ⟨_, rfl, HO3.out, hu3, hb3⟩
theorem ovlIF (w : World) (vb gb vo go_ la ca lb cb kA kB : Nat) (tA tB : TypeId) (hne : vb ≠ gb) (hsa : w.shape? vb = some (tA, kA)) (hsb : w.shape? gb = some (tB, kB)) (hkB : kB ≠ 0) (hfa : w.frozen? ⟨vb, vo, none⟩ = false) (hfe : w.frozen? ⟨vb, kA, none⟩ = false) :
    (callFunc 96 #[.slice (some ⟨vb, vo, none⟩) la ca, .slice (some ⟨gb, go_, none⟩) lb cb]).run Try.prog w = .ok (.value (.bool false)) w := by
  have hz : ∀ w, (sizeOf 132).run Try.prog w = .ok 3 w := by
    intro w
    obtain ⟨i, h1, h2, h3, h4⟩ := info_parts infoRowIF
    simp [sizeOf, typeInfo, h1, h3]
  rw [run_callFunc_extern Try.func96 (by kernel_rfl) (by kernel_rfl) (by kernel_rfl) (e := Extern.SlicesOverlaps.overlaps #[125, 125] #[4]) (by kernel_rfl),
    Lib.run_overlaps_apart w 125 4 132 undIF 3 hz ⟨vb, vo, none⟩ ⟨gb, go_, none⟩ la ca lb cb hne tA tB kA kB hsa hsb hkB hfa hfe]
  rfl
set_option maxRecDepth 20000 in
set_option maxHeartbeats 2000000 in
theorem slInsIF_shift (w : World) (g n cap i : Nat) (vb : Nat) (x : Int × (ByteArray × Sl)) (hs : OwnN 3 rcIF base 132 w (.slice (some ⟨g, 0, none⟩) n cap) l) (hi : i < l.length) (hroom : l.length + 1 ≤ cap) (hlen : l.length ≤ 100000) (hv : Blk w vb 132 (rcIF x)) (hvg : vb ≠ g) :
    Calls Try.prog 83 #[.slice (some ⟨g, 0, none⟩) n cap, .int .i64 (i : Int), .slice (some ⟨vb, 0, none⟩) 1 1] w fun e w' => ∃ v', e = .returned v' ∧ OwnN 3 rcIF base 132 w' v' (l.take i ++ x :: l.drop i) ∧ Upd [g] w w' ∧ (∀ y ∈ blk v', y ∈ [g] ∨ w.heap.size ≤ y) := by
  obtain ⟨rfl, hb, hc, hm, cur, hg, hsz, hp⟩ := hs.open_ rcIF_len
  have hdl : ((l.drop i).flatMap rcIF).length = (l.length - i) * 3 := by rw [flatMap_len rcIF_len, List.length_drop]
  have htl : ((l.take i).flatMap rcIF).length = i * 3 := by rw [flatMap_len rcIF_len, List.length_take]; congr 1; omega
  have hp1 : Piece cur 0 ((l.take i).flatMap rcIF) := by rw [flat_split rcIF l i] at hp; exact hp.left
  have hp2 : Piece cur (i * 3) ((l.drop i).flatMap rcIF) := by rw [flat_split rcIF l i] at hp; have := hp.right; rwa [htl, Nat.zero_add] at this
  have h1c : ∀ u ∈ (l.drop i).flatMap rcIF, u.oneCell' = true := mem_flat_one rcIF_one _
  generalize hcs : (l.drop i).flatMap rcIF = cs at *
  have hcap : (l.length + 1) * 3 ≤ cur.size := by rw [hsz]; exact Nat.mul_le_mul_right 3 (by omega)
  have hfit : (i + 1) * 3 + cs.length ≤ cur.size := by rw [hdl]; omega
  have hA := (fun ty dc sc => run_copy_lay (P := Try.prog) (sz := 3) (dT := 125) (sT := 125) (ty := ty) (dLen := l.length + 1 - (i + 1)) (dCap := dc) (a := ⟨g, i * 3, none⟩) (sLen := l.length + 1 - i) (sCap := sc) (k := l.length - i) undIF (by kernel_rfl) w.drew hg (by simp only [Nat.min_def]; split <;> omega) hdl (fun j u hu => by rw [add_none]; exact hp2.cell hg j u hu) hfit h1c)
  have hz := lay_sz cur ((i + 1) * 3) cs hfit
  have k1 := hp1.stay ((i + 1) * 3) cs hfit (.inl (by omega))
  have k2 := Piece.lay cur ((i + 1) * 3) cs hfit
  generalize lay_ cur ((i + 1) * 3) cs = cur1 at *
  have hg1 : (w.drew.setRow g cur1).heap[g]? = some (.cells cur1 132 (0, 0)) := setRow_heap w.drew g cur cur1 _ _ hg
  have hu1 : Upd [g] w (w.drew.setRow g cur1) := (Upd.refl [g] w).drew.setRow g _ (.inl (by simp))
  have hv1 := hv.upd hu1 (by simpa using hvg)
  obtain ⟨W1, hW1⟩ : ∃ W1, W1 = w.drew.setRow g cur1 := ⟨_, rfl⟩
  rw [← hW1] at hA hg1 hu1 hv1
  have hfx : i * 3 + (rcIF x).length ≤ cur1.size := by rw [hz, rcIF_len]; omega
  have hB := (fun ty dc => run_copy_lay (P := Try.prog) (sz := 3) (dT := 125) (sT := 125) (ty := ty) (dLen := l.length + 1 - i) (dCap := dc) (a := ⟨vb, 0, none⟩) (sLen := 1) (sCap := 1) (k := 1) (cs := rcIF x) undIF (by kernel_rfl) W1 hg1 (by simp only [Nat.min_def]; split <;> omega) rfl (fun j u hu => by rw [add_none, hv1.cell, Nat.zero_add]; exact hu) hfx (rcIF_one x))
  have hz2 := lay_sz cur1 (i * 3) (rcIF x) hfx
  have m1 := k1.stay (i * 3) (rcIF x) hfx (.inl (by omega))
  have m2 := Piece.lay cur1 (i * 3) (rcIF x) hfx
  have m3 := k2.stay (i * 3) (rcIF x) hfx (.inr (by rw [rcIF_len]; omega))
  generalize lay_ cur1 (i * 3) (rcIF x) = cur2 at *
  have HK := Lib.hid (show OwnN 3 rcIF base 132 (W1.setRow g cur2) (.slice (some ⟨g, 0, none⟩) (l.length + 1) cap) (l.take i ++ x :: l.drop i) from by
    refine OwnN.of_piece rcIF_len cur2 (by simp; omega) hb (by simp; omega) hm (setRow_heap _ g cur1 _ _ _ hg1) (by rw [hz2, hz, hsz]) ?_
    rw [List.flatMap_append, List.flatMap_cons, hcs]
    refine m1.app ?_
    rw [htl, Nat.zero_add (i * 3)]
    refine m2.app ?_
    rw [rcIF_len, show i * 3 + 3 = (i + 1) * 3 by omega]
    exact m3)
  have HU := Lib.hid (show Upd [g] w (W1.setRow g cur2) from hu1.setRow g _ (.inl (by simp)))
  obtain ⟨W2, hW2⟩ : ∃ W2, W2 = W1.setRow g cur2 := ⟨_, rfl⟩
  rw [← hW2] at hB HK HU
  have HA := Lib.hid hA
  have HB := Lib.hid hB
  have HO := Lib.hid (fun lb cb => ovlIF w vb g 0 ((i + 1) * 3) 1 1 lb cb (rcIF x).toArray.size cur.size 132 132 hvg (by unfold World.shape?; rw [show w.heap[vb]? = _ from hv]) (by unfold World.shape?; rw [hg]) (by omega) (hv.frozen 0) (hv.frozen _))
  clear hs hp hp1 hp2 hsz hg hdl htl h1c hfit hz k1 k2 hg1 hcs hcap hA hB hv hv1 hu1 hfx hz2 m1 m2 m3 hW1 hW2
  have HL := Lib.hid (show True from trivial)
  generalize l.length = n at *
  have hc63 : cap ≤ 9223372036854775807 := by unfold maxLen at hm; omega
  have hz1 : ¬ ((i : Int) = (n : Int)) := by omega
  have hw1 : IntKind.i64.wrap ((i : Int) + 1) = (i : Int) + 1 := by rw [IntKind.wrap_i64]; omega
  have hw2 : IntKind.i64.wrap ((n : Int) + 1) = (n : Int) + 1 := by rw [IntKind.wrap_i64]; omega
  have b1 : (0 : Int) ≤ (i : Int) + 1 := by omega
  have b2 : (0 : Int) ≤ (n : Int) + 1 := by omega
  have t1 : ((i : Int) + 1).toNat = i + 1 := by omega
  have t2 : ((n : Int) + 1).toNat = n + 1 := by omega
  have b3 : ¬ (cap = i + 1) := by omega
  have b4 : ¬ (cap = i) := by omega
  have b5 : (i : Int) + 1 ≤ (n : Int) + 1 := by omega
  have b6 : (i : Int) ≤ (n : Int) + 1 := by omega
  have b7 : (n : Int) + 1 ≤ (cap : Int) := by omega
  have b8 : i ≤ n := by omega
  go_enter Try.func83, Try.ntmps83
  go_wp2_with (simp only [HO.out])
  go_region_law (refine step_copy_eq rfl (.tmp 73) (.tmp 76) 125 125 rfl (.slice (some ⟨g, (i + 1) * 3, none⟩) (n + 1 - (i + 1)) (cap - (i + 1))) (.slice (some ⟨g, i * 3, none⟩) (n + 1 - i) (cap - i)) (by simp [Act.eval, Act.put]) (by simp [Act.eval, Act.put]) (HA.out _ _ _) ?_)
  go_wp2_with (with_reducible refine wpList_copy_eq rfl (.tmp 80) (.tmp 81) 125 125 rfl (.slice (some ⟨g, i * 3, none⟩) (n + 1 - i) (cap - i)) (.slice (some ⟨vb, 0, none⟩) 1 1) rfl rfl (HB.out _ _) ?_)
  go_ret
  exact ⟨_, rfl, HK.out, HU.out, fun y hy => .inl (by simpa [blk] using hy)⟩
set_option maxRecDepth 20000 in
set_option maxHeartbeats 2000000 in
theorem slInsIF_grow (w : World) (g n cap i : Nat) (vb : Nat) (x : Int × (ByteArray × Sl)) (hs : OwnN 3 rcIF base 132 w (.slice (some ⟨g, 0, none⟩) n cap) l) (hi : i < l.length) (hroom : cap < l.length + 1) (hlen : l.length ≤ 100000) (hbs : base ≤ w.heap.size) (hv : Blk w vb 132 (rcIF x)) :
    Calls Try.prog 83 #[.slice (some ⟨g, 0, none⟩) n cap, .int .i64 (i : Int), .slice (some ⟨vb, 0, none⟩) 1 1] w fun e w' => ∃ v', e = .returned v' ∧ OwnN 3 rcIF base 132 w' v' (l.take i ++ x :: l.drop i) ∧ Upd [g] w w' ∧ (∀ y ∈ blk v', y ∈ [g] ∨ w.heap.size ≤ y) := by
  obtain ⟨rfl, hb, hc, hm, cur, hg, hsz, hp⟩ := hs.open_ rcIF_len
  obtain ⟨i0, hi0, hz0, hzs, hzb⟩ := info_parts infoRowIF
  have hdl : ((l.drop i).flatMap rcIF).length = (l.length - i) * 3 := by rw [flatMap_len rcIF_len, List.length_drop]
  have htl : ((l.take i).flatMap rcIF).length = i * 3 := by rw [flatMap_len rcIF_len, List.length_take]; congr 1; omega
  have hp1 : Piece cur 0 ((l.take i).flatMap rcIF) := by rw [flat_split rcIF l i] at hp; exact hp.left
  have hp2 : Piece cur (i * 3) ((l.drop i).flatMap rcIF) := by rw [flat_split rcIF l i] at hp; have := hp.right; rwa [htl, Nat.zero_add] at this
  have h1c : ∀ u ∈ (l.drop i).flatMap rcIF, u.oneCell' = true := mem_flat_one rcIF_one _
  have hgw : g < w.heap.size := (Array.getElem?_eq_some_iff.1 hg).1
  have hold : (Builtin.firstCells i0.size i (.slice (some ⟨g, 0, none⟩) i cap)).run Try.prog w.drew = .ok ((l.take i).flatMap rcIF).toArray w.drew := by
    rw [hzs]
    exact run_firstCells_some w.drew 3 i ⟨g, 0, none⟩ i cap _ htl (fun j u hu => by rw [add_none]; exact hp1.cell hg j u hu)
  have hkk : (l.length : Int) + 1 - (i : Int) = ((l.length + 1 - i : Nat) : Int) := by omega
  have hik : i + (l.length + 1 - i) = l.length + 1 := by omega
  have u3 : Try.prog.underlying 3 = some (.int .i64) := by kernel_rfl
  have hrz := fun ty => Lib.run_append_grow_zeros (P := Try.prog) w 125 3 ty 132 i0 _ .i64 .i64 undIF u3 hi0 hz0 (some ⟨g, 0, none⟩) i cap _ hold (l.length + 1 - i) (by omega) (by omega) (by omega) (by omega) (by rw [hzb]; omega) (by rw [hzb, hik]; exact growslice_fits (by omega) (by omega))
  rw [hik] at hrz
  have hGe := grownCap_ge w (l.length + 1) cap 132
  have hGm : grownCap w (l.length + 1) cap 132 ≤ maxLen := grownCap_le_maxLen w (l.length + 1) cap _ (by unfold maxLen; omega)
  generalize grownCap w (l.length + 1) cap 132 = G at *
  obtain ⟨ROW, hROW⟩ : ∃ ROW : Array Value, ROW = ((l.take i).flatMap rcIF).toArray ++ Builtin.zeroCells (Value.agg #[.int .i64 0, .string ⟨#[]⟩, .slice none 0 0]).cells (l.length + 1 - i) ++ Builtin.zeroCells (Value.agg #[.int .i64 0, .string ⟨#[]⟩, .slice none 0 0]).cells (G - (l.length + 1)) := ⟨_, rfl⟩
  rw [← hROW] at hrz
  have hzz : (Value.agg #[.int .i64 0, .string ⟨#[]⟩, .slice none 0 0]).cells.size = 3 := rfl
  have hRs : ROW.size = G * 3 := by
    rw [hROW]
    simp only [Array.size_append, List.size_toArray, size_zeroCells, hzz, htl]
    omega
  have hRp : Piece ROW 0 ((l.take i).flatMap rcIF) := fun j u hu => by
    have hj := (List.getElem?_eq_some_iff.1 hu).1
    rw [hROW, Array.append_assoc, Array.getElem?_append_left (by simp only [Array.size_append, List.size_toArray]; omega), Nat.zero_add]
    simpa using hu
  clear hROW hold hp1
  obtain ⟨W1, hW1⟩ : ∃ W1, W1 = w.drew.alloc (.cells ROW 132) := ⟨_, rfl⟩
  rw [← hW1] at hrz
  have hg1 : W1.heap[w.heap.size]? = some (.cells ROW 132 (0, 0)) := by rw [hW1]; exact heap_alloc_new w.drew _
  have hu1 : Upd [] w W1 := by rw [hW1]; exact (Upd.refl [] w).drew.alloc _
  have hv1 := hv.upd hu1 (by simp)
  have hgg := hu1.heap hg (by simp)
  generalize hgn : w.heap.size = gn at *
  have hgne : g ≠ gn := by omega
  have hvw : vb < gn := by rw [← hgn]; exact hv.lt
  have hvne : vb ≠ gn := by omega
  have hfx : i * 3 + (rcIF x).length ≤ ROW.size := by rw [hRs, rcIF_len]; omega
  have hB := (fun ty dc => run_copy_lay (P := Try.prog) (sz := 3) (dT := 125) (sT := 125) (ty := ty) (dLen := l.length + 1 - i) (dCap := dc) (a := ⟨vb, 0, none⟩) (sLen := 1) (sCap := 1) (k := 1) (cs := rcIF x) undIF (by kernel_rfl) W1 hg1 (by simp only [Nat.min_def]; split <;> omega) rfl (fun j u hu => by rw [add_none, hv1.cell, Nat.zero_add]; exact hu) hfx (rcIF_one x))
  have hz2 := lay_sz ROW (i * 3) (rcIF x) hfx
  have m1 := hRp.stay (i * 3) (rcIF x) hfx (.inl (by omega))
  have m2 := Piece.lay ROW (i * 3) (rcIF x) hfx
  generalize lay_ ROW (i * 3) (rcIF x) = cur1 at *
  have hg2 : (W1.setRow gn cur1).heap[gn]? = some (.cells cur1 132 (0, 0)) := setRow_heap W1 gn ROW cur1 _ _ hg1
  have hu2 : Upd [gn] W1 (W1.setRow gn cur1) := (Upd.refl [gn] W1).setRow gn _ (.inl (by simp))
  have hgg2 := hu2.heap hgg (by simpa using hgne)
  obtain ⟨W2, hW2⟩ : ∃ W2, W2 = W1.setRow gn cur1 := ⟨_, rfl⟩
  rw [← hW2] at hB hg2 hu2 hgg2
  generalize hcs : (l.drop i).flatMap rcIF = cs at *
  have hfit : (i + 1) * 3 + cs.length ≤ cur1.size := by rw [hdl, hz2, hRs]; omega
  have hA := (fun ty dc sc => run_copy_lay (P := Try.prog) (sz := 3) (dT := 125) (sT := 125) (ty := ty) (dLen := l.length + 1 - (i + 1)) (dCap := dc) (a := ⟨g, i * 3, none⟩) (sLen := l.length - i) (sCap := sc) (k := l.length - i) undIF (by kernel_rfl) W2.drew hg2 (by simp only [Nat.min_def]; split <;> omega) hdl (fun j u hu => by rw [add_none]; exact hp2.cell hgg2 j u hu) hfit h1c)
  have hz3 := lay_sz cur1 ((i + 1) * 3) cs hfit
  have k1 := m1.stay ((i + 1) * 3) cs hfit (.inl (by omega))
  have k2 := m2.stay ((i + 1) * 3) cs hfit (.inl (by rw [rcIF_len]; omega))
  have k3 := Piece.lay cur1 ((i + 1) * 3) cs hfit
  generalize lay_ cur1 ((i + 1) * 3) cs = cur2 at *
  have HK := Lib.hid (show OwnN 3 rcIF base 132 (W2.drew.setRow gn cur2) (.slice (some ⟨gn, 0, none⟩) (l.length + 1) G) (l.take i ++ x :: l.drop i) from by
    refine OwnN.of_piece rcIF_len cur2 (by simp; omega) hbs (by simp; omega) hGm (setRow_heap W2.drew gn cur1 _ _ _ hg2) (by rw [hz3, hz2, hRs]) ?_
    rw [List.flatMap_append, List.flatMap_cons, hcs]
    refine k1.app ?_
    rw [htl, Nat.zero_add (i * 3)]
    refine k2.app ?_
    rw [rcIF_len, show i * 3 + 3 = (i + 1) * 3 by omega]
    exact k3)
  have HU := Lib.hid (show Upd [g] w (W2.drew.setRow gn cur2) from (((hu1.trans (T := [g]) hu2 (by simp) (fun y hy => .inr (by simp at hy; omega))).drew).setRow gn _ (.inr (by omega))))
  obtain ⟨W3, hW3⟩ : ∃ W3, W3 = W2.drew.setRow gn cur2 := ⟨_, rfl⟩
  rw [← hW3] at hA HK HU
  have HA := Lib.hid hA
  have HB := Lib.hid hB
  have hrz' : ∀ ty, (Builtin.append_ #[125, 3] ty #[.slice (some ⟨g, 0, none⟩) i cap, .int .i64 ((l.length : Int) + 1 - (i : Int))]).run Try.prog w = .ok (.slice (some ⟨gn, 0, none⟩) (l.length + 1) G) W1 := fun ty => by rw [hkk]; exact hrz ty
  have HZ := Lib.hid hrz'
  have HG := Lib.hid hgn
  clear hs hp hp2 hsz hg hdl htl h1c hfit k1 k2 k3 hg1 hg2 hcs hA hB hv hv1 hu1 hu2 hfx hz2 hz3 m1 m2 hW1 hW2 hW3 hrz hrz' hgg hgg2 hRs hRp hgn hgw hi0 hz0 hzs hzb hkk hik hzz hgne hvw hvne
  generalize l.length = n at *
  obtain rfl : cap = n := by omega
  have hc63 : G ≤ 9223372036854775807 := by unfold maxLen at hGm; omega
  have hz1 : ¬ ((i : Int) = (cap : Int)) := by omega
  have hw1 : IntKind.i64.wrap ((i : Int) + 1) = (i : Int) + 1 := by rw [IntKind.wrap_i64]; omega
  have hw2 : IntKind.i64.wrap ((cap : Int) + 1) = (cap : Int) + 1 := by rw [IntKind.wrap_i64]; omega
  have hw3 : IntKind.i64.wrap ((cap : Int) + 1 - (i : Int)) = (cap : Int) + 1 - (i : Int) := by rw [IntKind.wrap_i64]; omega
  have b1 : (0 : Int) ≤ (i : Int) + 1 := by omega
  have b2 : (0 : Int) ≤ (cap : Int) + 1 := by omega
  have t1 : ((i : Int) + 1).toNat = i + 1 := by omega
  have t2 : ((cap : Int) + 1).toNat = cap + 1 := by omega
  have b3 : ¬ (G = i + 1) := by omega
  have b4 : ¬ (G = i) := by omega
  have b5 : (i : Int) + 1 ≤ (cap : Int) + 1 := by omega
  have b6 : (i : Int) ≤ (cap : Int) + 1 := by omega
  have b7 : ¬ (cap = i) := by omega
  have b8 : i ≤ cap := by omega
  go_enter Try.func83, Try.ntmps83
  go_wp2_with (first
    | (at_builtin; refine wpList_app_eq rfl _ _ 125 3 rfl (.slice (some ⟨g, 0, none⟩) i cap) (.int .i64 ((cap : Int) + 1 - (i : Int))) rfl rfl (HZ.out _) ?_)
    | (with_reducible refine wpList_copy_eq rfl (.tmp 43) (.tmp 44) 125 125 rfl (.slice (some ⟨gn, i * 3, none⟩) (cap + 1 - i) (G - i)) (.slice (some ⟨vb, 0, none⟩) 1 1) rfl rfl (HB.out _ _) ?_))
  go_region_law (refine step_copy_eq rfl (.tmp 50) (.tmp 53) 125 125 rfl (.slice (some ⟨gn, (i + 1) * 3, none⟩) (cap + 1 - (i + 1)) (G - (i + 1))) (.slice (some ⟨g, i * 3, none⟩) (cap - i) (cap - i)) (by simp [Act.eval, Act.put]) (by simp [Act.eval, Act.put]) (HA.out _ _ _) ?_)
  go_wp2_with fail
  go_ret
  exact ⟨_, rfl, HK.out, HU.out, fun y hy => .inr (by simp [blk] at hy; have := HG.out; omega)⟩
theorem slInsIF_any (w : World) (v : Value) (i : Nat) (vb : Nat) (x : Int × (ByteArray × Sl)) (hs : OwnN 3 rcIF base 132 w v l) (hi : i ≤ l.length) (hlen : l.length ≤ 100000) (hbs : base ≤ w.heap.size) (hv : Blk w vb 132 (rcIF x)) (hvg : vb ∉ blk v) :
    Calls Try.prog 83 #[v, .int .i64 (i : Int), .slice (some ⟨vb, 0, none⟩) 1 1] w fun e w' => ∃ v', e = .returned v' ∧ OwnN 3 rcIF base 132 w' v' (l.take i ++ x :: l.drop i) ∧ Upd (blk v) w w' ∧ (∀ y ∈ blk v', y ∈ blk v ∨ w.heap.size ≤ y) := by
  by_cases he : i = l.length
  · subst he
    rw [List.take_length, List.drop_length]
    exact slInsIF_end w v vb x hs hlen hbs hv
  · rcases hs.2 with ⟨-, h0⟩ | ⟨g, cap, cur, rfl, -⟩
    · omega
    · by_cases hc : l.length + 1 ≤ cap
      · exact slInsIF_shift w g l.length cap i vb x hs (by omega) hc hlen hv (by simpa [blk] using hvg)
      · exact slInsIF_grow w g l.length cap i vb x hs (by omega) (by omega) hlen hbs hv
end
end Go.Proofs.Ytmhdhnipljonlaa
