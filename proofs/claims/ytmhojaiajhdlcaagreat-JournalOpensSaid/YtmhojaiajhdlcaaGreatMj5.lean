/- Texts of the proof, joined: slices. Chapter 4's Keys at int,string. Chapter 4's At out of range at int,string. A table of the call's own, at int,string: the contracts that the laws use. Footprints that share no block. Bytes in blocks that only grow at their end: slices that show a part of a block, and append onto them. Chapter 4's reads at string,[]uint8. slices. Chapter 4's Get, At and Least at string,[]uint8. Chapter 4's Set on a key that is there, at string,[]uint8. slices. Chapter 4's Keys at string,[]uint8. Chapter 4's At out of range at string,[]uint8. A table of the call's own, at string,[]uint8: the contracts that the laws use. -/
import Derived.Test.YtmhojaiajhdlcaaGreatMj4
import Derived.Laws.Externs
import Derived.Lib.JoinLaws
import Derived.Test.YtmhojaiajhdlcaaGreatMj2
import Derived.Test.YtmhojaiajhdlcaaGreatMj1
import Derived.Test.YtmhojaiajhdlcaaGreatRows
import Derived.ArgAppend
import Derived.Test.YtmhojaiajhdlcaaGreatMj3
import Derived.StillTailTactics
namespace Go.Proofs.YtmhojaiajhdlcaaGreat
open Go.RowKit
set_option linter.unusedSimpArgs false
set_option linter.unusedVariables false
section
variable {base : Nat} {g : Nat} {lv : Value} {l : List (Int × ByteArray)} {w w' : World}
set_option maxRecDepth 20000 in
set_option maxHeartbeats 1000000 in
theorem slInsIS_end (w : World) (v : Value) (vb : Nat) (x : Int × ByteArray) (hs : OwnN 2 rcIS base 196 w v l) (hlen : l.length ≤ 100000) (hbs : base ≤ w.heap.size) (hv : Blk w vb 196 (rcIS x)) :
    Calls Tryz.prog 135 #[v, .int .i64 (l.length : Int), .slice (some ⟨vb, 0, none⟩) 1 1] w fun e w' => ∃ v', e = .returned v' ∧ OwnN 2 rcIS base 196 w' v' (l ++ [x]) ∧ Upd (blk v) w w' ∧ (∀ y ∈ blk v', y ∈ blk v ∨ w.heap.size ≤ y) := by
  have hrd : RdN 2 rcIS w (.slice (some ⟨vb, 0, none⟩) 1 1) [x] := ⟨_, 1, rfl, by simp, by simp [maxLen], fun _ => ⟨vb, 0, rfl, fun j hj i hi => by
    simp at hj; subst hj
    rw [hv.cell]; simp [nth_cons_zero]⟩⟩
  have HR := Lib.hid (fun ty => run_appN (P := Tryz.prog) (ty := ty) rcIS_len (by decide) rcIS_one undIS infoRowIS rfl v _ l [x] hs hrd (by simp; omega) (by simp [maxLen]; omega) hbs)
  obtain ⟨ao, n, co, rfl⟩ := hs.slice_
  have hn : n = l.length ∧ l.length ≤ co := by
    rcases hs.2 with ⟨he, h0⟩ | ⟨_, _, _, he, _, _, hc, _⟩
    · injection he with e1 e2 e3; subst e2; subst e3; exact ⟨h0.symm, by omega⟩
    · injection he with e1 e2 e3; subst e2; subst e3; exact ⟨rfl, hc⟩
  obtain ⟨rfl, hco⟩ := hn
  clear hs hrd hv
  have hd : co = l.length ∨ ¬ co = l.length := by omega
  rcases hd with hd | hd
  all_goals
    go_enter Tryz.func135, Tryz.ntmps135
    go_wp2_with (at_builtin; refine wpList_app_of rfl _ _ rfl (.slice ao l.length co) (.slice (some ⟨vb, 0, none⟩) 1 1) rfl rfl (HR.out _) ?_; rintro v1 w3 ⟨ho3, hu3, hb3⟩; have HO3 := Lib.hid ho3; obtain ⟨a1, n1, c1, rfl⟩ := ho3.slice_; clear ho3)
    go_ret
    exact ⟨_, rfl, HO3.out, hu3, hb3⟩
theorem ovlIS (w : World) (vb gb vo go_ la ca lb cb kA kB : Nat) (tA tB : TypeId) (hne : vb ≠ gb) (hsa : w.shape? vb = some (tA, kA)) (hsb : w.shape? gb = some (tB, kB)) (hkB : kB ≠ 0) (hfa : w.frozen? ⟨vb, vo, none⟩ = false) (hfe : w.frozen? ⟨vb, kA, none⟩ = false) :
    (callFunc 148 #[.slice (some ⟨vb, vo, none⟩) la ca, .slice (some ⟨gb, go_, none⟩) lb cb]).run Tryz.prog w = .ok (.value (.bool false)) w := by
  have hz : ∀ w, (sizeOf 196).run Tryz.prog w = .ok 2 w := by
    intro w
    obtain ⟨i, h1, h2, h3, h4⟩ := info_parts infoRowIS
    simp [sizeOf, typeInfo, h1, h3]
  rw [run_callFunc_extern Tryz.func148 (by kernel_rfl) (by kernel_rfl) (by kernel_rfl) (e := Extern.SlicesOverlaps.overlaps #[188, 188] #[4]) (by kernel_rfl),
    Lib.run_overlaps_apart w 188 4 196 undIS 2 hz ⟨vb, vo, none⟩ ⟨gb, go_, none⟩ la ca lb cb hne tA tB kA kB hsa hsb hkB hfa hfe]
  rfl
set_option maxRecDepth 20000 in
set_option maxHeartbeats 2000000 in
theorem slInsIS_shift (w : World) (g n cap i : Nat) (vb : Nat) (x : Int × ByteArray) (hs : OwnN 2 rcIS base 196 w (.slice (some ⟨g, 0, none⟩) n cap) l) (hi : i < l.length) (hroom : l.length + 1 ≤ cap) (hlen : l.length ≤ 100000) (hv : Blk w vb 196 (rcIS x)) (hvg : vb ≠ g) :
    Calls Tryz.prog 135 #[.slice (some ⟨g, 0, none⟩) n cap, .int .i64 (i : Int), .slice (some ⟨vb, 0, none⟩) 1 1] w fun e w' => ∃ v', e = .returned v' ∧ OwnN 2 rcIS base 196 w' v' (l.take i ++ x :: l.drop i) ∧ Upd [g] w w' ∧ (∀ y ∈ blk v', y ∈ [g] ∨ w.heap.size ≤ y) := by
  obtain ⟨rfl, hb, hc, hm, cur, hg, hsz, hp⟩ := hs.open_ rcIS_len
  have hdl : ((l.drop i).flatMap rcIS).length = (l.length - i) * 2 := by rw [flatMap_len rcIS_len, List.length_drop]
  have htl : ((l.take i).flatMap rcIS).length = i * 2 := by rw [flatMap_len rcIS_len, List.length_take]; congr 1; omega
  have hp1 : Piece cur 0 ((l.take i).flatMap rcIS) := by rw [flat_split rcIS l i] at hp; exact hp.left
  have hp2 : Piece cur (i * 2) ((l.drop i).flatMap rcIS) := by rw [flat_split rcIS l i] at hp; have := hp.right; rwa [htl, Nat.zero_add] at this
  have h1c : ∀ u ∈ (l.drop i).flatMap rcIS, u.oneCell' = true := mem_flat_one rcIS_one _
  generalize hcs : (l.drop i).flatMap rcIS = cs at *
  have hcap : (l.length + 1) * 2 ≤ cur.size := by rw [hsz]; exact Nat.mul_le_mul_right 2 (by omega)
  have hfit : (i + 1) * 2 + cs.length ≤ cur.size := by rw [hdl]; omega
  have hA := (fun ty dc sc => run_copy_lay (P := Tryz.prog) (sz := 2) (dT := 188) (sT := 188) (ty := ty) (dLen := l.length + 1 - (i + 1)) (dCap := dc) (a := ⟨g, i * 2, none⟩) (sLen := l.length + 1 - i) (sCap := sc) (k := l.length - i) undIS (by kernel_rfl) w.drew hg (by simp only [Nat.min_def]; split <;> omega) hdl (fun j u hu => by rw [add_none]; exact hp2.cell hg j u hu) hfit h1c)
  have hz := lay_sz cur ((i + 1) * 2) cs hfit
  have k1 := hp1.stay ((i + 1) * 2) cs hfit (.inl (by omega))
  have k2 := Piece.lay cur ((i + 1) * 2) cs hfit
  generalize lay_ cur ((i + 1) * 2) cs = cur1 at *
  have hg1 : (w.drew.setRow g cur1).heap[g]? = some (.cells cur1 196 (0, 0)) := setRow_heap w.drew g cur cur1 _ _ hg
  have hu1 : Upd [g] w (w.drew.setRow g cur1) := (Upd.refl [g] w).drew.setRow g _ (.inl (by simp))
  have hv1 := hv.upd hu1 (by simpa using hvg)
  obtain ⟨W1, hW1⟩ : ∃ W1, W1 = w.drew.setRow g cur1 := ⟨_, rfl⟩
  rw [← hW1] at hA hg1 hu1 hv1
  have hfx : i * 2 + (rcIS x).length ≤ cur1.size := by rw [hz, rcIS_len]; omega
  have hB := (fun ty dc => run_copy_lay (P := Tryz.prog) (sz := 2) (dT := 188) (sT := 188) (ty := ty) (dLen := l.length + 1 - i) (dCap := dc) (a := ⟨vb, 0, none⟩) (sLen := 1) (sCap := 1) (k := 1) (cs := rcIS x) undIS (by kernel_rfl) W1 hg1 (by simp only [Nat.min_def]; split <;> omega) rfl (fun j u hu => by rw [add_none, hv1.cell, Nat.zero_add]; exact hu) hfx (rcIS_one x))
  have hz2 := lay_sz cur1 (i * 2) (rcIS x) hfx
  have m1 := k1.stay (i * 2) (rcIS x) hfx (.inl (by omega))
  have m2 := Piece.lay cur1 (i * 2) (rcIS x) hfx
  have m3 := k2.stay (i * 2) (rcIS x) hfx (.inr (by rw [rcIS_len]; omega))
  generalize lay_ cur1 (i * 2) (rcIS x) = cur2 at *
  have HK := Lib.hid (show OwnN 2 rcIS base 196 (W1.setRow g cur2) (.slice (some ⟨g, 0, none⟩) (l.length + 1) cap) (l.take i ++ x :: l.drop i) from by
    refine OwnN.of_piece rcIS_len cur2 (by simp; omega) hb (by simp; omega) hm (setRow_heap _ g cur1 _ _ _ hg1) (by rw [hz2, hz, hsz]) ?_
    rw [List.flatMap_append, List.flatMap_cons, hcs]
    refine m1.app ?_
    rw [htl, Nat.zero_add (i * 2)]
    refine m2.app ?_
    rw [rcIS_len, show i * 2 + 2 = (i + 1) * 2 by omega]
    exact m3)
  have HU := Lib.hid (show Upd [g] w (W1.setRow g cur2) from hu1.setRow g _ (.inl (by simp)))
  obtain ⟨W2, hW2⟩ : ∃ W2, W2 = W1.setRow g cur2 := ⟨_, rfl⟩
  rw [← hW2] at hB HK HU
  have HA := Lib.hid hA
  have HB := Lib.hid hB
  have HO := Lib.hid (fun lb cb => ovlIS w vb g 0 ((i + 1) * 2) 1 1 lb cb (rcIS x).toArray.size cur.size 196 196 hvg (by unfold World.shape?; rw [show w.heap[vb]? = _ from hv]) (by unfold World.shape?; rw [hg]) (by omega) (hv.frozen 0) (hv.frozen _))
  clear hs hp hp1 hp2 hsz hg hdl htl h1c hfit hz k1 k2 hg1 hcs hcap hA hB hv hv1 hu1 hfx hz2 m1 m2 m3 hW1 hW2
  have HL := Lib.hid (show True from trivial)
  generalize l.length = n at *
  have hc63 : cap ≤ 9223372036854775807 := by unfold maxLen at hm; omega
  have hz1 : ¬ ((i : Int) = (n : Int)) := by omega
  have hw1 : IntKind.i64.wrap ((i : Int) + 1) = (i : Int) + 1 := by rw [IntKind.wrap_i64]; omega
  have hw2 : IntKind.i64.wrap ((n : Int) + 1) = (n : Int) + 1 := by rw [IntKind.wrap_i64]; omega
  have b1 : (0 : Int) ≤ (i : Int) + 1 := by omega
  have b2 : (0 : Int) ≤ (n : Int) + 1 := by omega
  have t1 : ((i : Int) + 1).toNat = i + 1 := by omega
  have t2 : ((n : Int) + 1).toNat = n + 1 := by omega
  have b3 : ¬ (cap = i + 1) := by omega
  have b4 : ¬ (cap = i) := by omega
  have b5 : (i : Int) + 1 ≤ (n : Int) + 1 := by omega
  have b6 : (i : Int) ≤ (n : Int) + 1 := by omega
  have b7 : (n : Int) + 1 ≤ (cap : Int) := by omega
  have b8 : i ≤ n := by omega
  go_enter Tryz.func135, Tryz.ntmps135
  go_wp2_with (simp only [HO.out])
  go_region_law (refine step_copy_eq rfl (.tmp 73) (.tmp 76) 188 188 rfl (.slice (some ⟨g, (i + 1) * 2, none⟩) (n + 1 - (i + 1)) (cap - (i + 1))) (.slice (some ⟨g, i * 2, none⟩) (n + 1 - i) (cap - i)) (by simp [Act.eval, Act.put]) (by simp [Act.eval, Act.put]) (HA.out _ _ _) ?_)
  go_wp2_with (with_reducible refine wpList_copy_eq rfl (.tmp 80) (.tmp 81) 188 188 rfl (.slice (some ⟨g, i * 2, none⟩) (n + 1 - i) (cap - i)) (.slice (some ⟨vb, 0, none⟩) 1 1) rfl rfl (HB.out _ _) ?_)
  go_ret
  exact ⟨_, rfl, HK.out, HU.out, fun y hy => .inl (by simpa [blk] using hy)⟩
set_option maxRecDepth 20000 in
set_option maxHeartbeats 2000000 in
theorem slInsIS_grow (w : World) (g n cap i : Nat) (vb : Nat) (x : Int × ByteArray) (hs : OwnN 2 rcIS base 196 w (.slice (some ⟨g, 0, none⟩) n cap) l) (hi : i < l.length) (hroom : cap < l.length + 1) (hlen : l.length ≤ 100000) (hbs : base ≤ w.heap.size) (hv : Blk w vb 196 (rcIS x)) :
    Calls Tryz.prog 135 #[.slice (some ⟨g, 0, none⟩) n cap, .int .i64 (i : Int), .slice (some ⟨vb, 0, none⟩) 1 1] w fun e w' => ∃ v', e = .returned v' ∧ OwnN 2 rcIS base 196 w' v' (l.take i ++ x :: l.drop i) ∧ Upd [g] w w' ∧ (∀ y ∈ blk v', y ∈ [g] ∨ w.heap.size ≤ y) := by
  obtain ⟨rfl, hb, hc, hm, cur, hg, hsz, hp⟩ := hs.open_ rcIS_len
  obtain ⟨i0, hi0, hz0, hzs, hzb⟩ := info_parts infoRowIS
  have hdl : ((l.drop i).flatMap rcIS).length = (l.length - i) * 2 := by rw [flatMap_len rcIS_len, List.length_drop]
  have htl : ((l.take i).flatMap rcIS).length = i * 2 := by rw [flatMap_len rcIS_len, List.length_take]; congr 1; omega
  have hp1 : Piece cur 0 ((l.take i).flatMap rcIS) := by rw [flat_split rcIS l i] at hp; exact hp.left
  have hp2 : Piece cur (i * 2) ((l.drop i).flatMap rcIS) := by rw [flat_split rcIS l i] at hp; have := hp.right; rwa [htl, Nat.zero_add] at this
  have h1c : ∀ u ∈ (l.drop i).flatMap rcIS, u.oneCell' = true := mem_flat_one rcIS_one _
  have hgw : g < w.heap.size := (Array.getElem?_eq_some_iff.1 hg).1
  have hold : (Builtin.firstCells i0.size i (.slice (some ⟨g, 0, none⟩) i cap)).run Tryz.prog w.drew = .ok ((l.take i).flatMap rcIS).toArray w.drew := by
    rw [hzs]
    exact run_firstCells_some w.drew 2 i ⟨g, 0, none⟩ i cap _ htl (fun j u hu => by rw [add_none]; exact hp1.cell hg j u hu)
  have hkk : (l.length : Int) + 1 - (i : Int) = ((l.length + 1 - i : Nat) : Int) := by omega
  have hik : i + (l.length + 1 - i) = l.length + 1 := by omega
  have u3 : Tryz.prog.underlying 3 = some (.int .i64) := by kernel_rfl
  have hrz := fun ty => Lib.run_append_grow_zeros (P := Tryz.prog) w 188 3 ty 196 i0 _ .i64 .i64 undIS u3 hi0 hz0 (some ⟨g, 0, none⟩) i cap _ hold (l.length + 1 - i) (by omega) (by omega) (by omega) (by omega) (by rw [hzb]; omega) (by rw [hzb, hik]; exact growslice_fits (by omega) (by omega))
  rw [hik] at hrz
  have hGe := grownCap_ge w (l.length + 1) cap 196
  have hGm : grownCap w (l.length + 1) cap 196 ≤ maxLen := grownCap_le_maxLen w (l.length + 1) cap _ (by unfold maxLen; omega)
  generalize grownCap w (l.length + 1) cap 196 = G at *
  obtain ⟨ROW, hROW⟩ : ∃ ROW : Array Value, ROW = ((l.take i).flatMap rcIS).toArray ++ Builtin.zeroCells (Value.agg #[.int .i64 0, .string ⟨#[]⟩]).cells (l.length + 1 - i) ++ Builtin.zeroCells (Value.agg #[.int .i64 0, .string ⟨#[]⟩]).cells (G - (l.length + 1)) := ⟨_, rfl⟩
  rw [← hROW] at hrz
  have hzz : (Value.agg #[.int .i64 0, .string ⟨#[]⟩]).cells.size = 2 := rfl
  have hRs : ROW.size = G * 2 := by
    rw [hROW]
    simp only [Array.size_append, List.size_toArray, size_zeroCells, hzz, htl]
    omega
  have hRp : Piece ROW 0 ((l.take i).flatMap rcIS) := fun j u hu => by
    have hj := (List.getElem?_eq_some_iff.1 hu).1
    rw [hROW, Array.append_assoc, Array.getElem?_append_left (by simp only [Array.size_append, List.size_toArray]; omega), Nat.zero_add]
    simpa using hu
  clear hROW hold hp1
  obtain ⟨W1, hW1⟩ : ∃ W1, W1 = w.drew.alloc (.cells ROW 196) := ⟨_, rfl⟩
  rw [← hW1] at hrz
  have hg1 : W1.heap[w.heap.size]? = some (.cells ROW 196 (0, 0)) := by rw [hW1]; exact heap_alloc_new w.drew _
  have hu1 : Upd [] w W1 := by rw [hW1]; exact (Upd.refl [] w).drew.alloc _
  have hv1 := hv.upd hu1 (by simp)
  have hgg := hu1.heap hg (by simp)
  generalize hgn : w.heap.size = gn at *
  have hgne : g ≠ gn := by omega
  have hvw : vb < gn := by rw [← hgn]; exact hv.lt
  have hvne : vb ≠ gn := by omega
  have hfx : i * 2 + (rcIS x).length ≤ ROW.size := by rw [hRs, rcIS_len]; omega
  have hB := (fun ty dc => run_copy_lay (P := Tryz.prog) (sz := 2) (dT := 188) (sT := 188) (ty := ty) (dLen := l.length + 1 - i) (dCap := dc) (a := ⟨vb, 0, none⟩) (sLen := 1) (sCap := 1) (k := 1) (cs := rcIS x) undIS (by kernel_rfl) W1 hg1 (by simp only [Nat.min_def]; split <;> omega) rfl (fun j u hu => by rw [add_none, hv1.cell, Nat.zero_add]; exact hu) hfx (rcIS_one x))
  have hz2 := lay_sz ROW (i * 2) (rcIS x) hfx
  have m1 := hRp.stay (i * 2) (rcIS x) hfx (.inl (by omega))
  have m2 := Piece.lay ROW (i * 2) (rcIS x) hfx
  generalize lay_ ROW (i * 2) (rcIS x) = cur1 at *
  have hg2 : (W1.setRow gn cur1).heap[gn]? = some (.cells cur1 196 (0, 0)) := setRow_heap W1 gn ROW cur1 _ _ hg1
  have hu2 : Upd [gn] W1 (W1.setRow gn cur1) := (Upd.refl [gn] W1).setRow gn _ (.inl (by simp))
  have hgg2 := hu2.heap hgg (by simpa using hgne)
  obtain ⟨W2, hW2⟩ : ∃ W2, W2 = W1.setRow gn cur1 := ⟨_, rfl⟩
  rw [← hW2] at hB hg2 hu2 hgg2
  generalize hcs : (l.drop i).flatMap rcIS = cs at *
  have hfit : (i + 1) * 2 + cs.length ≤ cur1.size := by rw [hdl, hz2, hRs]; omega
  have hA := (fun ty dc sc => run_copy_lay (P := Tryz.prog) (sz := 2) (dT := 188) (sT := 188) (ty := ty) (dLen := l.length + 1 - (i + 1)) (dCap := dc) (a := ⟨g, i * 2, none⟩) (sLen := l.length - i) (sCap := sc) (k := l.length - i) undIS (by kernel_rfl) W2.drew hg2 (by simp only [Nat.min_def]; split <;> omega) hdl (fun j u hu => by rw [add_none]; exact hp2.cell hgg2 j u hu) hfit h1c)
  have hz3 := lay_sz cur1 ((i + 1) * 2) cs hfit
  have k1 := m1.stay ((i + 1) * 2) cs hfit (.inl (by omega))
  have k2 := m2.stay ((i + 1) * 2) cs hfit (.inl (by rw [rcIS_len]; omega))
  have k3 := Piece.lay cur1 ((i + 1) * 2) cs hfit
  generalize lay_ cur1 ((i + 1) * 2) cs = cur2 at *
  have HK := Lib.hid (show OwnN 2 rcIS base 196 (W2.drew.setRow gn cur2) (.slice (some ⟨gn, 0, none⟩) (l.length + 1) G) (l.take i ++ x :: l.drop i) from by
    refine OwnN.of_piece rcIS_len cur2 (by simp; omega) hbs (by simp; omega) hGm (setRow_heap W2.drew gn cur1 _ _ _ hg2) (by rw [hz3, hz2, hRs]) ?_
    rw [List.flatMap_append, List.flatMap_cons, hcs]
    refine k1.app ?_
    rw [htl, Nat.zero_add (i * 2)]
    refine k2.app ?_
    rw [rcIS_len, show i * 2 + 2 = (i + 1) * 2 by omega]
    exact k3)
  have HU := Lib.hid (show Upd [g] w (W2.drew.setRow gn cur2) from (((hu1.trans (T := [g]) hu2 (by simp) (fun y hy => .inr (by simp at hy; omega))).drew).setRow gn _ (.inr (by omega))))
  obtain ⟨W3, hW3⟩ : ∃ W3, W3 = W2.drew.setRow gn cur2 := ⟨_, rfl⟩
  rw [← hW3] at hA HK HU
  have HA := Lib.hid hA
  have HB := Lib.hid hB
  have hrz' : ∀ ty, (Builtin.append_ #[188, 3] ty #[.slice (some ⟨g, 0, none⟩) i cap, .int .i64 ((l.length : Int) + 1 - (i : Int))]).run Tryz.prog w = .ok (.slice (some ⟨gn, 0, none⟩) (l.length + 1) G) W1 := fun ty => by rw [hkk]; exact hrz ty
  have HZ := Lib.hid hrz'
  have HG := Lib.hid hgn
  clear hs hp hp2 hsz hg hdl htl h1c hfit k1 k2 k3 hg1 hg2 hcs hA hB hv hv1 hu1 hu2 hfx hz2 hz3 m1 m2 hW1 hW2 hW3 hrz hrz' hgg hgg2 hRs hRp hgn hgw hi0 hz0 hzs hzb hkk hik hzz hgne hvw hvne
  generalize l.length = n at *
  obtain rfl : cap = n := by omega
  have hc63 : G ≤ 9223372036854775807 := by unfold maxLen at hGm; omega
  have hz1 : ¬ ((i : Int) = (cap : Int)) := by omega
  have hw1 : IntKind.i64.wrap ((i : Int) + 1) = (i : Int) + 1 := by rw [IntKind.wrap_i64]; omega
  have hw2 : IntKind.i64.wrap ((cap : Int) + 1) = (cap : Int) + 1 := by rw [IntKind.wrap_i64]; omega
  have hw3 : IntKind.i64.wrap ((cap : Int) + 1 - (i : Int)) = (cap : Int) + 1 - (i : Int) := by rw [IntKind.wrap_i64]; omega
  have b1 : (0 : Int) ≤ (i : Int) + 1 := by omega
  have b2 : (0 : Int) ≤ (cap : Int) + 1 := by omega
  have t1 : ((i : Int) + 1).toNat = i + 1 := by omega
  have t2 : ((cap : Int) + 1).toNat = cap + 1 := by omega
  have b3 : ¬ (G = i + 1) := by omega
  have b4 : ¬ (G = i) := by omega
  have b5 : (i : Int) + 1 ≤ (cap : Int) + 1 := by omega
  have b6 : (i : Int) ≤ (cap : Int) + 1 := by omega
  have b7 : ¬ (cap = i) := by omega
  have b8 : i ≤ cap := by omega
  go_enter Tryz.func135, Tryz.ntmps135
  go_wp2_with (first
    | (at_builtin; refine wpList_app_eq rfl _ _ 188 3 rfl (.slice (some ⟨g, 0, none⟩) i cap) (.int .i64 ((cap : Int) + 1 - (i : Int))) rfl rfl (HZ.out _) ?_)
    | (with_reducible refine wpList_copy_eq rfl (.tmp 43) (.tmp 44) 188 188 rfl (.slice (some ⟨gn, i * 2, none⟩) (cap + 1 - i) (G - i)) (.slice (some ⟨vb, 0, none⟩) 1 1) rfl rfl (HB.out _ _) ?_))
  go_region_law (refine step_copy_eq rfl (.tmp 50) (.tmp 53) 188 188 rfl (.slice (some ⟨gn, (i + 1) * 2, none⟩) (cap + 1 - (i + 1)) (G - (i + 1))) (.slice (some ⟨g, i * 2, none⟩) (cap - i) (cap - i)) (by simp [Act.eval, Act.put]) (by simp [Act.eval, Act.put]) (HA.out _ _ _) ?_)
  go_wp2_with fail
  go_ret
  exact ⟨_, rfl, HK.out, HU.out, fun y hy => .inr (by simp [blk] at hy; have := HG.out; omega)⟩
theorem slInsIS_any (w : World) (v : Value) (i : Nat) (vb : Nat) (x : Int × ByteArray) (hs : OwnN 2 rcIS base 196 w v l) (hi : i ≤ l.length) (hlen : l.length ≤ 100000) (hbs : base ≤ w.heap.size) (hv : Blk w vb 196 (rcIS x)) (hvg : vb ∉ blk v) :
    Calls Tryz.prog 135 #[v, .int .i64 (i : Int), .slice (some ⟨vb, 0, none⟩) 1 1] w fun e w' => ∃ v', e = .returned v' ∧ OwnN 2 rcIS base 196 w' v' (l.take i ++ x :: l.drop i) ∧ Upd (blk v) w w' ∧ (∀ y ∈ blk v', y ∈ blk v ∨ w.heap.size ≤ y) := by
  by_cases he : i = l.length
  · subst he
    rw [List.take_length, List.drop_length]
    exact slInsIS_end w v vb x hs hlen hbs hv
  · rcases hs.2 with ⟨-, h0⟩ | ⟨g, cap, cur, rfl, -⟩
    · omega
    · by_cases hc : l.length + 1 ≤ cap
      · exact slInsIS_shift w g l.length cap i vb x hs (by omega) hc hlen hv (by simpa [blk] using hvg)
      · exact slInsIS_grow w g l.length cap i vb x hs (by omega) (by omega) hlen hbs hv
set_option maxRecDepth 20000 in
set_option maxHeartbeats 400000 in
theorem tSetIS_new (w : World) (k : Int) (y : ByteArray) (hs : TBIS base w g lv l) (hr : Rising ltIS l) (hlen : l.length ≤ 100000) (hbs : base ≤ w.heap.size) (hk : I64 k) (hn : isIn ltIS l k = false) :
    Calls Tryz.prog 118 #[.pointer (some ⟨g, 0, none⟩), iv k, sv y] w fun e w' => e = .returned (.bool true) ∧ ∃ lv', TBIS base w' g lv' (l.take (below ltIS l k) ++ (k, y) :: l.drop (below ltIS l k)) ∧ Upd (g :: blk lv) w w' ∧ (∀ x ∈ blk lv', x ∈ blk lv ∨ w.heap.size ≤ x) := by
  have hc := tFindIS_any w k hs hr hlen hk
  rw [hn] at hc
  have HC := Lib.hid hc
  have HS := Lib.hid hs
  have hle := below_le (lt := ltIS) l k
  have HD := Lib.hid (fun w1 (h : Upd [] w w1) => slInsIS_any (w1.alloc (.cells #[iv k, sv y] 196)) lv (below ltIS l k) w1.heap.size (k, y) (hs.rows.upd (h.alloc _) (by simp)) hle hlen (by have := h.size; simp; omega) (Blk.new w1 _ [iv k, sv y]) (fun hx => by have := (hs.rows.ge _ hx).2; have := h.size; omega))
  have D0 := Lib.hid (show w.cell? ⟨g, 0, none⟩ = some lv from hs.tab.cell 0)
  obtain ⟨ao, n, co, rfl⟩ := hs.rows.slice_
  clear hs hr hk hc hn hbs hle
  generalize below ltIS l k = i at *
  go_enter Tryz.func118, Tryz.ntmps118
  go_wp2_with fail
  with_reducible refine HC.out.mono ?_
  rintro e w1 ⟨rfl, hu1⟩
  have d0 := hu1.cell D0.out (by simp)
  have HU1 := Lib.hid hu1
  go_wp2_with fail
  with_reducible refine (HD.out w1 HU1.out).mono ?_
  rintro e w2 ⟨v2, rfl, ho2, hu2, hb2⟩
  have hgl := HS.out.g_lv
  have hu1' := HU1.out.alloc (.cells #[iv k, sv y] 196)
  have f0 : w2.frozen? ⟨g, 0, none⟩ = false := ((HS.out.tab.upd hu1' (by simp)).upd hu2 hgl).frozen 0
  have d2 : w2.cell? ⟨g, 0, none⟩ = some (.slice ao n co) := hu2.cell (hu1'.cell D0.out (by simp)) hgl
  obtain ⟨ao2, n2, co2, rfl⟩ := ho2.slice_
  have hg2 : g ∉ blk (.slice ao2 n2 co2) := fun hx => by
    rcases hb2 g hx with q | q
    · exact hgl q
    · have := HS.out.tab.lt; have := hu1'.size; omega
  have HT := Lib.hid (show TBIS base (w2.setCell ⟨g, 0, none⟩ (.slice ao2 n2 co2)) g (.slice ao2 n2 co2) (l.take i ++ (k, y) :: l.drop i) from
    ⟨by simpa using ((HS.out.tab.upd hu1' (by simp)).upd hu2 hgl).set_ 0 (.slice ao2 n2 co2), ho2.upd ((Upd.refl [g] _).setCell _ _ (.inl (by simp))) (by intro x hx; simp; rintro rfl; exact hg2 hx), HS.out.gb⟩)
  have HU2 := Lib.hid (show Upd (g :: blk (.slice ao n co)) w (w2.setCell ⟨g, 0, none⟩ (.slice ao2 n2 co2)) from (hu1'.trans (T := g :: blk (.slice ao n co)) hu2 (by simp) (fun x hx => .inl (by simp [hx]))).setCell _ _ (.inl (by simp)))
  have HB2 := Lib.hid (show ∀ x ∈ blk (.slice ao2 n2 co2), x ∈ blk (.slice ao n co) ∨ w.heap.size ≤ x from fun x hx => (hb2 x hx).imp id (fun h => by have := hu1'.size; omega))
  clear ho2 hu1 hu2 hgl hg2 hb2 hu1'
  go_wp2_with fail
  go_ret
  exact ⟨rfl, _, HT.out, HU2.out, HB2.out⟩
theorem tSetIS_any (w : World) (k : Int) (y : ByteArray) (hs : TBIS base w g lv l) (hr : Rising ltIS l) (hlen : l.length ≤ 100000) (hbs : base ≤ w.heap.size) (hk : I64 k) :
    Calls Tryz.prog 118 #[.pointer (some ⟨g, 0, none⟩), iv k, sv y] w fun e w' => e = .returned (.bool (!isIn ltIS l k)) ∧ ∃ lv', TBIS base w' g lv' (tSet ltIS l k y) ∧ Upd (g :: blk lv) w w' ∧ (∀ x ∈ blk lv', x ∈ blk lv ∨ w.heap.size ≤ x) := by
  cases hn : isIn ltIS l k with
  | false =>
    refine (tSetIS_new w k y hs hr hlen hbs hk hn).mono ?_
    rintro e w' ⟨rfl, v', ht, hu, hb⟩
    exact ⟨rfl, v', by unfold tSet; rw [hn]; exact ht, hu, hb⟩
  | true =>
    refine (tSetIS_old w k y hs hr hlen hk hn).mono ?_
    rintro e w' ⟨rfl, ht, hu⟩
    refine ⟨rfl, lv, ?_, hu.mono (fun x hx => .inl (by simp [hx])), fun x hx => .inl hx⟩
    rw [tSet_in l k y hn]; exact ht
end
end Go.Proofs.YtmhojaiajhdlcaaGreat
namespace Go.Proofs.YtmhojaiajhdlcaaGreat
open Go.RowKit
set_option linter.unusedSimpArgs false
set_option linter.unusedVariables false
theorem infoKeyIS : (Tryz.prog.info? 3).map (fun i => (i.zero, i.size, i.bytes)) = some (some (.int .i64 0), 1, 8) := by kernel_rfl
theorem undKIS : Tryz.prog.underlying 90 = some (.slice 3) := by kernel_rfl
section
variable {base : Nat} {g : Nat} {lv : Value} {l : List (Int × ByteArray)} {w w' : World}
set_option maxRecDepth 20000 in
set_option maxHeartbeats 400000 in
theorem tKeysIS_any (w : World) (hs : TBIS base w g lv l) (hlen : l.length ≤ 100000) :
    Calls Tryz.prog 95 #[.pointer (some ⟨g, 0, none⟩)] w fun e w' => ∃ v, e = .returned v ∧ Own iv w.heap.size 3 w' v (l.map (·.1)) ∧ Upd [] w w' := by
  have HS := Lib.hid hs
  obtain ⟨ao, co, rfl, hlc, hcm, hcell⟩ := hs.rows.rd rcIS_len
  have c0 : w.cell? ⟨g, 0, none⟩ = some (.slice ao l.length co) := hs.tab.cell 0
  have HC := Lib.hid hcell
  clear hs hcell hcm
  go_enter Tryz.func95, Tryz.ntmps95
  go_wp2_with fail
  go_loopw [3, 5, 11] (fun v p i wr => ∃ k : Nat, k ≤ l.length ∧ i = .int .i64 k ∧ Hid (Own iv w.heap.size 3 wr v ((l.take k).map (·.1))) ∧ Hid (Upd [] w wr)) (fun _ _ i _ => l.length - (intOf i).toNat)
  case atStart => exact ⟨0, Nat.zero_le _, rfl, World.ownsRow_nil _ _ _ _, Upd.refl _ _⟩
  case round =>
    obtain ⟨k, hk, rfl, ho, hu⟩ := hrel
    by_cases hlt : k < l.length
    · have HT : Hid ((l.take (k + 1)).map (·.1) = (l.take k).map (·.1) ++ [(nth l k).1]) := by unfold Hid; rw [List.take_succ_eq_append_getElem hlt, nth_get l k hlt, List.map_append]; rfl
      have hlen2 : ((l.take k).map (·.1)).length = k := by rw [List.length_map, List.length_take]; omega
      obtain ⟨bl, off, rfl, hc⟩ := HC.out (by intro h; simp [h] at hlt)
      obtain ⟨ao2, co2, rfl, -⟩ := ho.out.rd
      rw [hlen2] at ho ⊢
      have HLEN := Lib.hid hlen2
      have d0 : wr.cell? ⟨bl, off + k * 2, none⟩ = some (iv (nth l k).1) := hu.out.cell (hc _ hlt 0 (by omega)) (by simp)
      have d1 : wr.cell? ⟨bl, off + k * 2 + 1, none⟩ = some (sv (nth l k).2) := hu.out.cell (hc _ hlt 1 (by omega)) (by simp)
      have HKS : Hid (∃ ks, ks = (l.take k).map (·.1)) := ⟨_, rfl⟩
      generalize hks : (l.take k).map (·.1) = ks at *
      generalize (nth l k).1 = x at *
      generalize (nth l k).2 = y at *
      clear hlen2 hc hks HKS
      have q0 : (0 : Int) ≤ k := by omega
      have q1 : (k : Int) < l.length := by omega
      have HB : Hid ((ks.length + [x].length) * 8 ≤ 140737488355328) := by unfold Hid; rw [HLEN.out]; simp; omega
      have HL : Hid (ks.length + [x].length ≤ maxLen) := by unfold Hid maxLen; rw [HLEN.out]; simp; omega
      have hsz := hu.out.size
      go_wp2_with (at_builtin; go_must (refine wpList_app_of rfl _ _ rfl (.slice ao2 k co2) (.slice (some ⟨wr.heap.size + 1, 0, none⟩) 1 1) rfl rfl (run_app (c := iv) (fun _ => rfl) undKIS infoKeyIS rfl _ _ ks [x] (ho.out.upd (((Upd.refl [] _).alloc _).alloc _) (by simp)) (Rd.lit [x] (by simp) rfl rfl (by decide) (by decide)) HB.out HL.out (by simp <;> omega)) ?_; rintro v1 w3 ⟨ho3, hu3, hk3⟩; have HO3 := Lib.hid ho3; have HU3 : Hid (Upd [] w w3) := (((hu.out.alloc _).alloc _).trans hu3 (by simp) (fun y hy => .inr (ho.out.ge y hy).1)); clear ho3 hu3 hk3))
      go_roundw
      case rel => exact ⟨k + 1, by omega, by go_num, by rw [HT.out]; exact HO3, HU3⟩
      case measure => simp [intOf]; omega
    · obtain rfl : k = l.length := by omega
      go_wp2_with fail
      go_ret
      exact ⟨_, rfl, by have := ho.out; rwa [List.take_length] at this, hu.out⟩
end
end Go.Proofs.YtmhojaiajhdlcaaGreat
namespace Go.Proofs.YtmhojaiajhdlcaaGreat
open Go.RowKit
set_option linter.unusedSimpArgs false
set_option linter.unusedVariables false
section
variable {base : Nat} {g : Nat} {lv : Value} {l : List (Int × ByteArray)} {w w' : World}
set_option maxRecDepth 20000 in
set_option maxHeartbeats 400000 in
theorem tAtIS_neg (w : World) (i : Int) (hi64 : I64 i) (hs : TBIS base w g lv l) (hi : i < 0) :
    Calls Tryz.prog 123 #[.pointer (some ⟨g, 0, none⟩), .int .i64 i] w fun e w' => e = .returned (.tuple #[.int .i64 0, .string ⟨#[]⟩, .bool false]) ∧ Upd [] w w' := by
  obtain ⟨ao, co, rfl, hlc, hcm, hcell⟩ := hs.rows.rd rcIS_len
  have d0 : w.cell? ⟨g, 0, none⟩ = some (.slice ao l.length co) := hs.tab.cell 0
  clear hs hcell hcm
  go_enter Tryz.func123, Tryz.ntmps123
  go_wp2_with fail
  go_quiet (fail)
  go_wp2_with fail
  go_ret3
  exact ⟨rfl, by first | exact Upd.refl [] _ | exact (Upd.refl [] _).alloc _ | exact ((Upd.refl [] _).alloc _).drewN _⟩
set_option maxRecDepth 20000 in
set_option maxHeartbeats 400000 in
theorem tAtIS_high (w : World) (i : Int) (hi64 : I64 i) (hs : TBIS base w g lv l) (hlen : l.length ≤ 100000) (hi : (l.length : Int) ≤ i) :
    Calls Tryz.prog 123 #[.pointer (some ⟨g, 0, none⟩), .int .i64 i] w fun e w' => e = .returned (.tuple #[.int .i64 0, .string ⟨#[]⟩, .bool false]) ∧ Upd [] w w' := by
  obtain ⟨ao, co, rfl, hlc, hcm, hcell⟩ := hs.rows.rd rcIS_len
  have d0 : w.cell? ⟨g, 0, none⟩ = some (.slice ao l.length co) := hs.tab.cell 0
  have q1 : (0 : Int) ≤ i := by omega
  clear hs hcell hcm
  go_enter Tryz.func123, Tryz.ntmps123
  go_wp2_with fail
  go_quiet (fail)
  go_wp2_with fail
  go_ret3
  exact ⟨rfl, by first | exact Upd.refl [] _ | exact (Upd.refl [] _).alloc _ | exact ((Upd.refl [] _).alloc _).drewN _⟩
end
end Go.Proofs.YtmhojaiajhdlcaaGreat
namespace Go.Proofs.YtmhojaiajhdlcaaGreat
open Go.RowKit
set_option linter.unusedSimpArgs false
set_option linter.unusedVariables false
/-- A table at g with the rows l; F: its blocks, all made since w0. -/
structure TXIS (w0 w : World) (g : Nat) (F : List Nat) (l : List (Int × ByteArray)) : Prop where
  ex : ∃ lv, F = g :: blk lv ∧ TBIS w0.heap.size w g lv l
  ris : Rising ltIS l
  old : Upd [] w0 w
section
variable {w0 w w' : World} {g : Nat} {F : List Nat} {l : List (Int × ByteArray)}
theorem TXIS.ge (h : TXIS w0 w g F l) : ∀ x ∈ F, w0.heap.size ≤ x ∧ x < w.heap.size := by
  obtain ⟨lv, rfl, ht⟩ := h.ex
  exact ht.lt
theorem TXIS.upd (h : TXIS w0 w g F l) {S : List Nat} (hu : Upd S w w') (hs : ∀ x ∈ F, x ∉ S) (hS : ∀ x ∈ S, w0.heap.size ≤ x) : TXIS w0 w' g F l := by
  obtain ⟨lv, rfl, ht⟩ := h.ex
  exact ⟨⟨lv, rfl, ht.upd hu hs⟩, h.ris, h.old.trans hu (by simp) (fun x hx => .inr (hS x hx))⟩
theorem TXIS.upd0 (h : TXIS w0 w g F l) (hu : Upd [] w w') : TXIS w0 w' g F l := h.upd hu (by simp) (by simp)
theorem TXIS.next (h : TXIS w0 w g F l) (hu : Upd F w w') : Upd [] w0 w' := h.old.trans hu (by simp) (fun x hx => .inr (h.ge x hx).1)
theorem txIS_New (w0 w : World) (hu : Upd [] w0 w) :
    Calls Tryz.prog 87 #[] w fun e w' => ∃ g F, e = .returned (.pointer (some ⟨g, 0, none⟩)) ∧ TXIS w0 w' g F [] ∧ Upd [] w w' ∧ (∀ x ∈ F, w.heap.size ≤ x) := by
  refine (tNewIS_any w).mono ?_
  rintro e w' ⟨rfl, ht, hu'⟩
  exact ⟨_, _, rfl, ⟨⟨_, rfl, ⟨ht.tab, OwnN.nil _ _ _, hu.size⟩⟩, Rising.nil, hu.seq hu'⟩, hu', fun x hx => (ht.lt x hx).1⟩
theorem txIS_Set (k : Int) (y : ByteArray) (r : Bool) (l' : List (Int × ByteArray)) (hs : TXIS w0 w g F l) (hlen : l.length ≤ 100000) (hk : I64 k) (h1 : (!isIn ltIS l k) = r) (h2 : tSet ltIS l k y = l') :
    Calls Tryz.prog 118 #[.pointer (some ⟨g, 0, none⟩), iv k, sv y] w fun e w' => e = .returned (.bool r) ∧ ∃ F', TXIS w0 w' g F' l' ∧ Upd F w w' ∧ (∀ x ∈ F', x ∈ F ∨ w.heap.size ≤ x) := by
  subst h1; subst h2
  have hold := hs.old
  obtain ⟨⟨lv, rfl, ht⟩, hr, -⟩ := hs
  refine (tSetIS_any w k y ht hr hlen hold.size hk).mono ?_
  rintro e w' ⟨rfl, lv', ht', hu, hb⟩
  refine ⟨rfl, g :: blk lv', ⟨⟨lv', rfl, ht'⟩, hr.set_ intOrd k y, hold.trans hu (by simp) (fun x hx => .inr (ht.lt x hx).1)⟩, hu, fun x hx => ?_⟩
  rcases List.mem_cons.1 hx with rfl | hx
  · exact .inl (by simp)
  · exact (hb x hx).imp (fun q => by simp [q]) id
theorem txIS_Del (k : Int) (r : Bool) (l' : List (Int × ByteArray)) (hs : TXIS w0 w g F l) (hlen : l.length ≤ 100000) (hk : I64 k) (h1 : isIn ltIS l k = r) (h2 : tDel ltIS l k = l') :
    Calls Tryz.prog 117 #[.pointer (some ⟨g, 0, none⟩), iv k] w fun e w' => e = .returned (.bool r) ∧ ∃ F', TXIS w0 w' g F' l' ∧ Upd F w w' ∧ (∀ x ∈ F', x ∈ F ∨ w.heap.size ≤ x) := by
  subst h1; subst h2
  have hold := hs.old
  obtain ⟨⟨lv, rfl, ht⟩, hr, -⟩ := hs
  refine (tDelIS_any w k ht hr hlen hk).mono ?_
  rintro e w' ⟨rfl, lv', ht', hu, hb⟩
  refine ⟨rfl, g :: blk lv', ⟨⟨lv', rfl, ht'⟩, hr.del intOrd k, hold.trans hu (by simp) (fun x hx => .inr (ht.lt x hx).1)⟩, hu, fun x hx => ?_⟩
  rcases List.mem_cons.1 hx with rfl | hx
  · exact .inl (by simp)
  · exact (hb x hx).imp (fun q => by simp [q]) id
theorem txIS_Get (k : Int) (y : ByteArray) (r : Bool) (hs : TXIS w0 w g F l) (hlen : l.length ≤ 100000) (hk : I64 k) (h : tGet ltIS (⟨#[]⟩ : ByteArray) l k = (y, r)) :
    Calls Tryz.prog 113 #[.pointer (some ⟨g, 0, none⟩), iv k] w fun e w' => e = .returned (.tuple #[sv y, .bool r]) ∧ Upd [] w w' := by
  obtain ⟨⟨lv, rfl, ht⟩, hr, -⟩ := hs
  unfold tGet at h
  cases hn : isIn ltIS l k with
  | false => rw [hn] at h; injection h with h1 h2; subst h1; subst h2; exact tGetIS_no w k ht hr hlen hk hn
  | true => rw [hn] at h; injection h with h1 h2; subst h1; subst h2; exact tGetIS_ok w k ht hr hlen hk hn
theorem txIS_Keys (ks : List Int) (hs : TXIS w0 w g F l) (hlen : l.length ≤ 100000) (h : l.map (·.1) = ks) :
    Calls Tryz.prog 95 #[.pointer (some ⟨g, 0, none⟩)] w fun e w' => ∃ v, e = .returned v ∧ Own iv w.heap.size 3 w' v ks ∧ Upd [] w w' := by
  subst h
  obtain ⟨⟨lv, rfl, ht⟩, hr, -⟩ := hs
  exact tKeysIS_any w ht hlen
theorem txIS_Len (n : Int) (hs : TXIS w0 w g F l) (h : (l.length : Int) = n) :
    Calls Tryz.prog 122 #[.pointer (some ⟨g, 0, none⟩)] w fun e w' => e = .returned (.int .i64 n) ∧ w = w' := by
  subst h
  obtain ⟨⟨lv, rfl, ht⟩, hr, -⟩ := hs
  exact tLenIS_any w ht
theorem txIS_At (i : Int) (k : Int) (y : ByteArray) (r : Bool) (hi : I64 i) (hs : TXIS w0 w g F l) (hlen : l.length ≤ 100000) (h : tAt (0 : Int) (⟨#[]⟩ : ByteArray) l i = (k, y, r)) :
    Calls Tryz.prog 123 #[.pointer (some ⟨g, 0, none⟩), .int .i64 i] w fun e w' => e = .returned (.tuple #[iv k, sv y, .bool r]) ∧ Upd [] w w' := by
  obtain ⟨⟨lv, rfl, ht⟩, hr, -⟩ := hs
  unfold tAt at h
  split at h
  · rename_i hd
    obtain ⟨j, rfl⟩ := Int.eq_ofNat_of_zero_le hd.1
    injection h with h1 h2; injection h2 with h2 h3; subst h1; subst h2; subst h3
    exact tAtIS_ok w j ht hlen (by omega)
  · rename_i hd
    injection h with h1 h2; injection h2 with h2 h3; subst h1; subst h2; subst h3
    by_cases h0 : i < 0
    · exact tAtIS_neg w i hi ht h0
    · exact tAtIS_high w i hi ht hlen (by omega)
end
end Go.Proofs.YtmhojaiajhdlcaaGreat
namespace Go.Proofs.YtmhojaiajhdlcaaGreat
open Go.RowKit
set_option linter.unusedSimpArgs false
set_option linter.unusedVariables false
def Ap (F G : List Nat) : Prop := ∀ x ∈ F, x ∉ G
theorem Ap.symm {F G : List Nat} (h : Ap F G) : Ap G F := fun x hx hF => h x hF hx
theorem Ap.nil {G : List Nat} : Ap [] G := fun x hx => by simp at hx
theorem Ap.new {F G : List Nat} {n : Nat} (hf : ∀ y ∈ F, n ≤ y) (hg : ∀ x ∈ G, x < n) : Ap F G := fun x hx hG => by have := hf x hx; have := hg x hG; omega
theorem Ap.next {F F' G : List Nat} {n : Nat} (h : Ap F G) (hf : ∀ y ∈ F', y ∈ F ∨ n ≤ y) (hg : ∀ x ∈ G, x < n) : Ap F' G := fun x hx hG => by
  rcases hf x hx with q | q
  · exact h x q hG
  · have := hg x hG; omega
end Go.Proofs.YtmhojaiajhdlcaaGreat
namespace Go.Proofs.YtmhojaiajhdlcaaGreat
open Go.RowKit
set_option linter.unusedSimpArgs false
set_option linter.unusedVariables false
/-- What a block holds, and how much it can hold. -/
abbrev KB := Nat → List UInt8 × Nat
abbrev OwnB (base : Nat) (w : World) (x : Nat) (c : List UInt8 × Nat) : Prop := Own bv base 5 w (.slice (some ⟨x, 0, none⟩) c.1.length c.2) c.1
/-- The blocks of B hold what K says. -/
structure Bks (base : Nat) (w : World) (B : List Nat) (K : KB) : Prop where
  own : ∀ x ∈ B, OwnB base w x (K x)
/-- A slice shows bytes of the blocks. -/
structure Sh (B : List Nat) (K : KB) (s : Sl) (l : List UInt8) : Prop where
  n : s.n = l.length
  k : s.n ≤ s.k
  m : s.k ≤ maxLen
  nul : s.a = none → s.k = 0
  ex : l ≠ [] → ∃ b off, s.a = some ⟨b, off, none⟩ ∧ b ∈ B ∧ off + l.length ≤ (K b).1.length ∧ ((K b).1.drop off).take l.length = l
/-- A slice with room behind it is the end of its block. -/
def Gr (B : List Nat) (K : KB) (s : Sl) (l : List UInt8) : Prop := s.n < s.k → ∃ b, s.a = some ⟨b, 0, none⟩ ∧ b ∈ B ∧ K b = (l, s.k)
/-- The block that a slice may grow in. -/
def gb (s : Sl) : List Nat := if s.n < s.k then blk (slv s) else []
/-- More blocks, and more in them. -/
structure Ext (B : List Nat) (K : KB) (B' : List Nat) (K' : KB) : Prop where
  sub : ∀ x ∈ B, x ∈ B'
  pre : ∀ x ∈ B, ∃ t, (K' x).1 = (K x).1 ++ t
section
variable {base : Nat} {w w' : World} {B B' B'' : List Nat} {K K' K'' : KB} {s : Sl} {l : List UInt8}
theorem Ext.refl (B : List Nat) (K : KB) : Ext B K B K := ⟨fun _ h => h, fun _ _ => ⟨[], (List.append_nil _).symm⟩⟩
theorem Ext.trans (h : Ext B K B' K') (k : Ext B' K' B'' K'') : Ext B K B'' K'' :=
  ⟨fun x hx => k.sub x (h.sub x hx), fun x hx => by
    obtain ⟨t, ht⟩ := h.pre x hx
    obtain ⟨u, hu⟩ := k.pre x (h.sub x hx)
    exact ⟨t ++ u, by rw [hu, ht, List.append_assoc]⟩⟩
theorem Bks.upd (h : Bks base w B K) {S : List Nat} (hu : Upd S w w') (hs : ∀ x ∈ B, x ∉ S) : Bks base w' B K :=
  ⟨fun x hx => (h.own x hx).upd hu (fun y hy => by simp [blk] at hy; subst hy; exact hs _ hx)⟩
theorem Bks.ge (h : Bks base w B K) : ∀ x ∈ B, base ≤ x ∧ x < w.heap.size := fun x hx => (h.own x hx).ge x (by simp [blk])
theorem Bks.typ (h : Bks base w B K) : ∀ x ∈ B, ∃ C f, w.heap[x]? = some (.cells C 5 f) := fun x hx => by
  rcases (h.own x hx).2 with ⟨he, _⟩ | ⟨g, cap, cur, he, _, hg, _⟩
  · simp at he
  · injection he with e1 e2 e3; injection e1 with e1; injection e1 with e1 e4; subst e1; exact ⟨_, _, hg⟩
theorem Sh.ext (h : Sh B K s l) (he : Ext B K B' K') : Sh B' K' s l := by
  refine ⟨h.n, h.k, h.m, h.nul, fun hne => ?_⟩
  obtain ⟨b, off, h1, h2, h3, h4⟩ := h.ex hne
  obtain ⟨t, ht⟩ := he.pre b h2
  refine ⟨b, off, h1, he.sub b h2, by rw [ht, List.length_append]; omega, ?_⟩
  rw [ht, List.drop_append_of_le_length (by omega), List.take_append_of_le_length (by rw [List.length_drop]; omega)]
  exact h4
theorem Sh.rd (hB : Bks base w B K) (h : Sh B K s l) : Bytes w (slv s) l := by
  have h1 := h.n
  have h2 := h.k
  have h3 := h.m
  have h4 := h.ex
  obtain ⟨a, n, k⟩ := s
  dsimp only at h1 h2 h3 h4
  subst h1
  refine ⟨a, k, rfl, h2, h3, fun hne => ?_⟩
  obtain ⟨b, off, rfl, hb, h5, h6⟩ := h4 hne
  refine ⟨b, off, rfl, fun j hj => ?_⟩
  obtain ⟨a', k', he, -, -, hc⟩ := (hB.own b hb).rd
  injection he with e1 e2 e3
  subst e1
  obtain ⟨b', off', e4, hc⟩ := hc (fun q => by rw [q] at h5; simp only [List.length_nil] at h5; omega)
  injection e4 with e4; injection e4 with e4 e5; subst e4; subst e5
  have hq := hc (off + j) (by omega)
  rw [Nat.zero_add] at hq
  have hn : nth l j = nth (K b).1 (off + j) := by
    have : nth (((K b).1.drop off).take l.length) j = nth l j := by rw [h6]
    rw [← this, nth_take _ _ _ hj, nth_drop]
  rw [hn]; exact hq
theorem gb_in (hg : Gr B K s l) : ∀ x ∈ gb s, x ∈ B ∧ K x = (l, s.k) ∧ s.a = some ⟨x, 0, none⟩ := by
  intro x hx
  unfold gb at hx
  split at hx
  · rename_i h
    obtain ⟨b, h1, h2, h3⟩ := hg h
    rw [show slv s = .slice s.a s.n s.k from rfl, h1] at hx
    simp [blk] at hx; subst hx
    exact ⟨h2, h3, h1⟩
  · simp at hx
theorem Gr.full (h : s.k ≤ s.n) : Gr B K s l := fun q => absurd q (by omega)
theorem gb_full (h : s.k ≤ s.n) : gb s = [] := by unfold gb; rw [if_neg (by omega)]
theorem Sh.nil : Sh B K ⟨none, 0, 0⟩ [] := ⟨rfl, Nat.le_refl _, Nat.zero_le _, fun _ => rfl, fun h => absurd rfl h⟩
/-- The first bytes, without room behind them. -/
theorem Sh.cut (h : Sh B K s l) (n : Nat) (hn : n ≤ l.length) : Sh B K ⟨s.a, n, n⟩ (l.take n) := by
  have h1 := h.n
  have h2 := h.k
  have h3 := h.m
  refine ⟨by rw [List.length_take]; show n = _; omega, Nat.le_refl _, by show n ≤ _; omega, fun q => by have := h.nul q; show n = 0; omega, fun hne => ?_⟩
  have hl : l ≠ [] := fun q => hne (by rw [q]; simp)
  obtain ⟨b, off, e1, e2, e3, e4⟩ := h.ex hl
  refine ⟨b, off, e1, e2, by rw [List.length_take]; omega, ?_⟩
  rw [List.length_take, Nat.min_eq_left hn, ← e4, List.take_take, Nat.min_eq_left hn]
/-- A new block. -/
theorem Bks.new (hB : Bks base w B K) {w' : World} {v : Value} {l : List UInt8} (ho : Own bv w.heap.size 5 w' v l) (hu : Upd [] w w') (hbase : base ≤ w.heap.size) :
    ∃ s B' K', v = slv s ∧ Bks base w' B' K' ∧ Ext B K B' K' ∧ (∀ x ∈ B', x ∈ B ∨ w.heap.size ≤ x) ∧ Sh B' K' s l ∧ Gr B' K' s l ∧ (∀ x ∈ gb s, w.heap.size ≤ x) ∧ (∀ x ∈ B, K' x = K x) := by
  have ho' := ho
  obtain ⟨h1, h2⟩ := ho'
  rcases h2 with ⟨rfl, hn⟩ | ⟨g, cap, cur, rfl, hb, hg, hc, hm, hs, ht⟩
  · obtain rfl : l = [] := List.eq_nil_of_length_eq_zero hn
    exact ⟨⟨none, 0, 0⟩, B, K, rfl, hB.upd hu (by simp), Ext.refl _ _, fun x hx => .inl hx, Sh.nil, Gr.full (Nat.le_refl _), fun x hx => by rw [gb_full (Nat.le_refl _)] at hx; simp at hx, fun _ _ => rfl⟩
  · have hne : ∀ x ∈ B, x ≠ g := fun x hx q => by have := (hB.ge x hx).2; omega
    have hk : ∀ x ∈ B, (if x = g then (l, cap) else K x) = K x := fun x hx => if_neg (hne x hx)
    refine ⟨⟨some ⟨g, 0, none⟩, l.length, cap⟩, g :: B, fun x => if x = g then (l, cap) else K x, rfl, ⟨fun x hx => ?_⟩, ⟨fun x hx => by simp [hx], fun x hx => ⟨[], by rw [hk x hx, List.append_nil]⟩⟩, fun x hx => ?_, ⟨rfl, hc, hm, fun q => by simp at q, fun _ => ⟨g, 0, rfl, by simp, by simp, by simp⟩⟩, fun _ => ⟨g, rfl, by simp, by simp⟩, fun x hx => ?_, hk⟩
    · rcases List.mem_cons.1 hx with rfl | hx
      · show OwnB base w' x (if x = x then (l, cap) else K x)
        rw [if_pos rfl]; exact ho.base_le hbase
      · show OwnB base w' x (if x = g then (l, cap) else K x)
        rw [hk x hx]; exact (hB.own x hx).upd hu (by simp)
    · rcases List.mem_cons.1 hx with rfl | hx
      · exact .inr hb
      · exact .inl hx
    · unfold gb at hx
      split at hx
      · simp [blk] at hx; omega
      · simp at hx
theorem Gr.keep (h : Gr B K s l) (hs : ∀ x ∈ B, x ∈ B') (hk : ∀ x ∈ B, K' x = K x) : Gr B' K' s l := fun q => by
  obtain ⟨b, h1, h2, h3⟩ := h q
  exact ⟨b, h1, hs b h2, by rw [hk b h2, h3]⟩
/-- Behind an append: the new slice, the blocks, and what becomes of others. -/
def Grew (base : Nat) (w : World) (B : List Nat) (K : KB) (s : Sl) (l : List UInt8) (v' : Value) (w' : World) : Prop :=
  ∃ s' B' K', v' = slv s' ∧ Bks base w' B' K' ∧ Ext B K B' K' ∧ (∀ x ∈ B', x ∈ B ∨ w.heap.size ≤ x) ∧ Sh B' K' s' l ∧ Gr B' K' s' l ∧ Upd B w w' ∧ (∀ s2 l2, Gr B K s2 l2 → Ap (gb s2) (gb s) → Gr B' K' s2 l2 ∧ Ap (gb s2) (gb s'))
theorem infoB8 : (Tryz.prog.info? 5).map (fun i => (i.zero, i.size, i.bytes)) = some (some (.int .u8 0), 1, 1) := by kernel_rfl
theorem app_step {ty : TypeId} {u : Value} {p : List UInt8} (hB : Bks base w B K) (hs : Sh B K s l) (hg : Gr B K s l) (hp : Bytes w u p) (hne : p ≠ []) (hlen : l.length + p.length ≤ 1000000000) (hbase : base ≤ w.heap.size) :
    ∃ v' w', (Builtin.append_ #[28, 28] ty #[slv s, u]).run Tryz.prog w = .ok v' w' ∧ Grew base w B K s (l ++ p) v' w' := by
  have hrd := hs.rd hB
  have h1 := hs.n
  have h2 := hs.k
  have h3 := hs.m
  have h4 := hs.nul
  have hmax : l.length + p.length ≤ maxLen := by unfold maxLen; omega
  obtain ⟨i, i1, i2, i3, i4⟩ := info_parts infoB8
  obtain ⟨A, cap, rfl, hle, hcm, hcell0⟩ := hp
  obtain ⟨pb, poff, rfl, hcell⟩ := hcell0 hne
  have hnews : ∀ j u, (p.map bv)[j]? = some u → w.cell? ((⟨pb, poff, none⟩ : Addr).add j) = some u := fun j u hj => by
    rw [add_none]
    rw [List.getElem?_map] at hj
    obtain ⟨x, hx, rfl⟩ := Option.map_eq_some_iff.1 hj
    rw [hcell j (List.getElem?_eq_some_iff.1 hx).1, nth_of p j x hx]
  have hpos : 0 < p.length := List.length_pos_iff.2 hne
  by_cases hroom : l.length + p.length ≤ s.k
  · -- there is room
    obtain ⟨b, hb, hbB, hK⟩ := hg (by omega)
    have hown := hB.own b hbB
    rw [hK] at hown
    obtain ⟨o1, o2⟩ := hown
    rcases o2 with ⟨he, _⟩ | ⟨g, cap', cur, he, hbg, hgc, hnc, hcm', hcs, htk⟩
    · simp at he
    injection he with e1 e2 e3
    injection e1 with e1; injection e1 with e1 e5; subst e1
    dsimp only at e3 hcs htk
    rw [Nat.mul_one] at hcs htk
    have hfit : l.length * i.size + (p.map bv).length ≤ cur.size := by rw [i3, Nat.mul_one, List.length_map, hcs, ← e3]; exact hroom
    have hr := run_append_room (P := Tryz.prog) w 28 ty 5 i Tryz.underlying28 i1 b l.length s.k cur hgc ⟨pb, poff, none⟩ p.length cap (p.map bv) (by simp [i3]) hnews (oneCell_map bv_one p) hroom hfit
    rw [i3, Nat.mul_one, List.length_map, htk] at hr
    rw [show slv s = .slice s.a s.n s.k from rfl, hb, h1]
    generalize hys : (l.map bv ++ p.map bv ++ cur.toList.drop (l.length + p.length)).toArray = ys at hr
    have hys2 : ys.toList = (l ++ p).map bv ++ cur.toList.drop (l.length + p.length) := by rw [← hys]; simp
    have hysz : ys.size = s.k := by
      rw [← hys]
      simp only [List.size_toArray, List.length_append, List.length_map, List.length_drop, Array.length_toList, hcs]
      omega
    have hnew : OwnB base (w.setRow b ys) b (l ++ p, s.k) := by
      refine ⟨by simp, .inr ⟨b, s.k, ys, rfl, hbg, setRow_heap w b cur ys _ _ hgc, by simp; omega, h3, by rw [hysz, Nat.mul_one], ?_⟩⟩
      rw [hys2, Nat.mul_one, List.take_append_of_le_length (by simp)]
      exact List.take_of_length_le (by simp)
    have hu : Upd [b] w (w.setRow b ys) := ⟨rfl, rfl, rfl, by simp, fun k _ hk => setRow_other w b k _ (by simpa using hk)⟩
    refine ⟨_, _, hr, ⟨some ⟨b, 0, none⟩, l.length + p.length, s.k⟩, B, fun x => if x = b then (l ++ p, s.k) else K x, rfl, ⟨fun x hx => ?_⟩, ⟨fun _ h => h, fun x hx => ?_⟩, fun x hx => .inl hx, ⟨by simp, hroom, h3, fun q => by simp at q, fun _ => ⟨b, 0, rfl, hbB, by show 0 + _ ≤ (if b = b then (l ++ p, s.k) else K b).1.length; rw [if_pos rfl]; simp, by show ((if b = b then (l ++ p, s.k) else K b).1.drop 0).take _ = _; rw [if_pos rfl]; exact List.take_length⟩⟩, fun _ => ⟨b, rfl, hbB, by show (if b = b then (l ++ p, s.k) else K b) = _; rw [if_pos rfl]⟩, hu.mono (fun x hx => by simp at hx; subst hx; exact .inl hbB), fun s2 l2 g2 hap => ?_⟩
    · show OwnB base (w.setRow b ys) x (if x = b then (l ++ p, s.k) else K x)
      split
      · rename_i h; subst h; exact hnew
      · rename_i h; exact (hB.own x hx).upd hu (fun y hy => by simp [blk] at hy; subst hy; simpa using h)
    · show ∃ t, (if x = b then (l ++ p, s.k) else K x).1 = (K x).1 ++ t
      split
      · rename_i h; subst h; rw [hK]; exact ⟨p, rfl⟩
      · exact ⟨[], (List.append_nil _).symm⟩
    · have hgb : gb s = [b] := by unfold gb; rw [if_pos (by omega), show slv s = .slice s.a s.n s.k from rfl, hb]; rfl
      rw [hgb] at hap
      refine ⟨fun q => ?_, fun x hx => ?_⟩
      · obtain ⟨b2, q1, q2, q3⟩ := g2 q
        have hn2 : b2 ≠ b := fun e => hap b2 (by unfold gb; rw [if_pos q, show slv s2 = .slice s2.a s2.n s2.k from rfl, q1]; simp [blk]) (by simp [e])
        exact ⟨b2, q1, q2, by show (if b2 = b then (l ++ p, s.k) else K b2) = _; rw [if_neg hn2, q3]⟩
      · have h9 := hap x hx
        unfold gb
        split
        · simpa [blk] using h9
        · simp
  · -- it grows
    have key : ∃ v' w', (Builtin.append_ #[28, 28] ty #[slv s, .slice (some ⟨pb, poff, none⟩) p.length cap]).run Tryz.prog w = .ok v' w' ∧ Own bv w.heap.size 5 w' v' (l ++ p) ∧ Upd [] w w' := by
      obtain ⟨a, n, k⟩ := s
      dsimp only at h1 h2 h3 h4 hroom hrd
      subst h1
      cases a with
      | some ad =>
        have holds : ∀ j u, (l.map bv)[j]? = some u → w.cell? (ad.add j) = some u := fun j u hj => by
          rw [List.getElem?_map] at hj
          obtain ⟨x, hx, rfl⟩ := Option.map_eq_some_iff.1 hj
          have hjl := (List.getElem?_eq_some_iff.1 hx).1
          obtain ⟨a', k', he, -, -, hc⟩ := hrd
          have e1 : some ad = a' := (Value.slice.inj he).1
          obtain ⟨b, off, e4, hc⟩ := hc (by intro q; rw [q] at hjl; simp at hjl)
          obtain rfl : ad = ⟨b, off, none⟩ := Option.some.inj (e1.trans e4)
          rw [add_none, hc j hjl, nth_of l j x hx]
        obtain ⟨v', w', hr, r1, r2⟩ := run_append_arg_grows (P := Tryz.prog) w 28 ty 5 i _ 1 1 Tryz.underlying28 i1 i2 i3 i4 rfl (by decide) ad l.length k (l.map bv) (by simp) holds ⟨pb, poff, none⟩ p.length cap (p.map bv) (by simp) hnews (by omega) hmax (by omega)
        exact ⟨v', w', hr, by unfold Own; rw [List.length_append, List.map_append]; exact r1, Upd.of_grown r2⟩
      | none =>
        obtain rfl : k = 0 := h4 rfl
        obtain rfl : l = [] := List.eq_nil_of_length_eq_zero (by omega)
        obtain ⟨v', w', hr, r1, r2, _⟩ := run_append_own (P := Tryz.prog) w w.heap.size 28 ty 5 i _ 1 1 Tryz.underlying28 i1 i2 i3 i4 rfl (by decide) (.slice none 0 0) 0 [] (World.ownsRow_nil w _ _ 1) ⟨pb, poff, none⟩ p.length cap (p.map bv) (by simp) hnews (oneCell_map bv_one p) (by simpa using hmax) (by simp at hlen ⊢; omega) (Nat.le_refl _)
        refine ⟨v', w', hr, by unfold Own; rw [List.length_append, List.map_append]; exact r1, Upd.of_grown r2⟩
    obtain ⟨v', w', hr, ho, hu⟩ := key
    obtain ⟨s', B', K', rfl, k1, k2, k3, k4, k5, k6, k7⟩ := hB.new ho hu hbase
    refine ⟨_, _, hr, s', B', K', rfl, k1, k2, k3, k4, k5, hu.mono (by simp), fun s2 l2 g2 hap => ⟨g2.keep k2.sub k7, fun x hx hx' => ?_⟩⟩
    have := k6 x hx'
    have := (hB.ge x (gb_in g2 x hx).1).2
    omega
end
end Go.Proofs.YtmhojaiajhdlcaaGreat
namespace Go.Proofs.YtmhojaiajhdlcaaGreat
open Go.RowKit
set_option linter.unusedSimpArgs false
set_option linter.unusedVariables false
abbrev rcSL (p : ByteArray × Sl) : List Value := [sv p.1, slv p.2]
theorem rcSL_len : ∀ p, (rcSL p).length = 2 := fun _ => rfl
theorem infoRowSL : (Tryz.prog.info? 180).map (fun i => (i.zero, i.size, i.bytes)) = some (some (.agg #[.string ⟨#[]⟩, .slice none 0 0]), 2, 40) := by kernel_rfl
abbrev ltSL : ByteArray → ByteArray → Bool := strLt
/-- The table at g, its rows lv. -/
structure TBSL (base : Nat) (w : World) (g : Nat) (lv : Value) (l : List (ByteArray × Sl)) : Prop where
  tab : Blk w g 174 [lv]
  rows : OwnN 2 rcSL base 180 w lv l
  gb : base ≤ g
section
variable {base : Nat} {g : Nat} {lv : Value} {l : List (ByteArray × Sl)} {w w' : World}
theorem TBSL.upd (h : TBSL base w g lv l) {S : List Nat} (hu : Upd S w w') (hs : ∀ x ∈ g :: blk lv, x ∉ S) : TBSL base w' g lv l :=
  ⟨h.tab.upd hu (hs g (by simp)), h.rows.upd hu (fun x hx => hs x (by simp [hx])), h.gb⟩
theorem TBSL.upd0 (h : TBSL base w g lv l) (hu : Upd [] w w') : TBSL base w' g lv l := h.upd hu (by simp)
theorem TBSL.g_lv (h : TBSL base w g lv l) : g ∉ blk lv := fun e => by
  obtain ⟨C, f, hq⟩ := h.rows.typ g e
  exact h.tab.ne g hq (by decide) rfl
theorem TBSL.lt (h : TBSL base w g lv l) : ∀ x ∈ g :: blk lv, base ≤ x ∧ x < w.heap.size := by
  intro x hx
  rcases List.mem_cons.1 hx with rfl | hx
  · exact ⟨h.gb, h.tab.lt⟩
  · exact h.rows.ge x hx
theorem tLenSL_any (w : World) (hs : TBSL base w g lv l) :
    Calls Tryz.prog 105 #[.pointer (some ⟨g, 0, none⟩)] w fun e w' => e = .returned (.int .i64 (l.length : Int)) ∧ w = w' := by
  obtain ⟨ao, co, rfl, -⟩ := hs.rows.rd rcSL_len
  have c0 : w.cell? ⟨g, 0, none⟩ = some (.slice ao l.length co) := hs.tab.cell 0
  go_enter Tryz.func105, Tryz.ntmps105
  go_wp2
  go_ret
  exact ⟨rfl, rfl⟩
theorem tNewSL_any (w : World) :
    Calls Tryz.prog 63 #[] w fun e w' => e = .returned (.pointer (some ⟨w.heap.size, 0, none⟩)) ∧ TBSL w.heap.size w' w.heap.size (.slice none 0 0) [] ∧ Upd [] w w' := by
  go_enter Tryz.func63, Tryz.ntmps63
  go_wp2
  go_ret
  exact ⟨rfl, ⟨Blk.new w _ [.slice none 0 0], OwnN.nil _ _ _, Nat.le_refl _⟩, (Upd.refl [] w).alloc _⟩
set_option maxRecDepth 20000 in
set_option maxHeartbeats 1000000 in
theorem tFindSL_any (w : World) (k : ByteArray) (hs : TBSL base w g lv l) (hr : Rising ltSL l) (hlen : l.length ≤ 100000) (hk : True) :
    Calls Tryz.prog 107 #[.pointer (some ⟨g, 0, none⟩), sv k] w fun e w' => e = .returned (.tuple #[.int .i64 (below ltSL l k : Int), .bool (isIn ltSL l k)]) ∧ Upd [] w w' := by
  have HS := Lib.hid hs
  have HR := Lib.hid hr
  obtain ⟨ao, co, rfl, hlc, hcm, hcell⟩ := hs.rows.rd rcSL_len
  have c0 : w.cell? ⟨g, 0, none⟩ = some (.slice ao l.length co) := hs.tab.cell 0
  have HC := Lib.hid hcell
  clear hs hr hcell hcm
  go_enter Tryz.func107, Tryz.ntmps107
  go_wp2_with fail
  go_quiet (fail)
  have HU := Lib.hid ((Upd.refl [] w).drewN nq)
  generalize w.drewN nq = v at *
  replace c0 := HU.out.cell c0 (by simp)
  go_wp2_with fail
  go_loop [6, 7] (fun lo hi => ∃ a b : Nat, lo = .int .i64 a ∧ hi = .int .i64 b ∧ a ≤ b ∧ b ≤ l.length ∧ Hid (∀ j, j < a → ltSL (nth l j).1 k = true) ∧ Hid (∀ j, b ≤ j → j < l.length → ltSL (nth l j).1 k = false)) (fun lo hi => (intOf hi).toNat - (intOf lo).toNat)
  case atStart => exact ⟨0, l.length, rfl, rfl, Nat.zero_le _, Nat.le_refl _, fun j h => absurd h (by omega), fun j h1 h2 => absurd h1 (by omega)⟩
  case round =>
    obtain ⟨a, b, rfl, rfl, hab, hbl, hlo, hhi⟩ := hrel
    by_cases hlt : a < b
    · have hmid : (a + b) / 2 < l.length := by omega
      obtain ⟨bl, off, rfl, hc⟩ := HC.out (by intro h; simp [h] at hmid)
      have d0 : v.cell? ⟨bl, off + (a + b) / 2 * 2, none⟩ = some (sv (nth l ((a + b) / 2)).1) := HU.out.cell (hc _ hmid 0 (by omega)) (by simp)
      clear hc
      cases hcmp : ltSL (nth l ((a + b) / 2)).1 k with
      | true =>
        have HLO : Hid (∀ j, j < (a + b) / 2 + 1 → ltSL (nth l j).1 k = true) := fun j hj => HR.out.mono strOrd k j ((a + b) / 2) (by omega) hmid hcmp
        generalize (nth l ((a + b) / 2)).1 = m at *
        have hc1 := hcmp
        clear hcmp
        go_wp2
        go_round
        case rel => exact ⟨(a + b) / 2 + 1, b, by go_num, rfl, by omega, hbl, HLO, hhi⟩
        case measure => simp [intOf]; omega
      | false =>
        have HHI : Hid (∀ j, (a + b) / 2 ≤ j → j < l.length → ltSL (nth l j).1 k = false) := fun j h1 h2 => by
          cases hq : ltSL (nth l j).1 k with
          | false => rfl
          | true => exact absurd ((HR.out.mono strOrd k _ j h1 h2 hq).symm.trans hcmp) (by simp)
        generalize (nth l ((a + b) / 2)).1 = m at *
        have hc1 := hcmp
        clear hcmp
        go_wp2
        go_round
        case rel => exact ⟨a, (a + b) / 2, rfl, by go_num, by omega, by omega, hlo, HHI⟩
        case measure => simp [intOf]; omega
    · obtain rfl : a = b := by omega
      have hbel : below ltSL l k = a := below_eq l k a hbl hlo.out (fun h => hhi.out a (Nat.le_refl _) h)
      have HIN : Hid (isIn ltSL l k = decide (a < l.length ∧ (nth l a).1 = k)) := by unfold Hid isIn; rw [hbel]
      have HBEL := Lib.hid hbel
      clear hbel
      by_cases hal : a < l.length
      · obtain ⟨bl, off, rfl, hc⟩ := HC.out (by intro h; simp [h] at hal)
        have d0 : v.cell? ⟨bl, off + a * 2, none⟩ = some (sv (nth l a).1) := HU.out.cell (hc _ hal 0 (by omega)) (by simp)
        have HIN2 : Hid (isIn ltSL l k = decide ((nth l a).1 = k)) := by unfold Hid; rw [HIN.out]; simp [hal]
        clear hc
        generalize (nth l a).1 = m at *
        have q1 : (0 : Int) ≤ a := by omega
        have q2 : (a : Int) < l.length := by omega
        by_cases he : m = k
        · have t1 : (m.toList == k.toList) = true := by rw [he]; simp
          have HF : Hid (isIn ltSL l k = true) := by unfold Hid; rw [HIN2.out]; simp [he]
          clear he
          go_wp2_with fail
          go_quiet (fail)
          go_wp2_with fail
          go_ret2
          exact ⟨by rw [HBEL.out, HF.out]; rfl, by first | exact HU.out.drewN _ | exact HU.out.drew⟩
        · have t1 : (m.toList == k.toList) = false := by rw [beq_eq_false_iff_ne]; exact fun h => he (str_inj _ _ h)
          have HF : Hid (isIn ltSL l k = false) := by unfold Hid; rw [HIN2.out]; simp [he]
          clear he
          go_wp2_with fail
          go_quiet (fail)
          go_wp2_with fail
          go_ret2
          exact ⟨by rw [HBEL.out, HF.out]; rfl, by first | exact HU.out.drewN _ | exact HU.out.drew⟩
      · have HF : Hid (isIn ltSL l k = false) := by unfold Hid; rw [HIN.out]; simp [hal]
        have hd : decide (a < l.length) = false := by simpa using hal
        go_wp2_with fail
        go_quiet (fail)
        go_wp2_with fail
        go_ret2
        exact ⟨by rw [HBEL.out, HF.out]; rfl, by first | exact HU.out.drewN _ | exact HU.out.drew⟩
end
end Go.Proofs.YtmhojaiajhdlcaaGreat
namespace Go.Proofs.YtmhojaiajhdlcaaGreat
open Go.RowKit
set_option linter.unusedSimpArgs false
set_option linter.unusedVariables false
theorem rcSL_one : ∀ p, ∀ u ∈ rcSL p, u.oneCell' = true := by intro p u hu; simp [rcSL] at hu; rcases hu with rfl | rfl <;> rfl
theorem undSL : Tryz.prog.underlying 172 = some (.slice 180) := by kernel_rfl
section
variable {base : Nat} {g : Nat} {lv : Value} {l : List (ByteArray × Sl)} {w w' : World}
set_option maxRecDepth 20000 in
set_option maxHeartbeats 1000000 in
theorem slDelSL (w : World) (v : Value) (i : Nat) (hs : OwnN 2 rcSL base 180 w v l) (hi : i < l.length) (hlen : l.length ≤ 100000) :
    Calls Tryz.prog 132 #[v, .int .i64 (i : Int), .int .i64 ((i : Int) + 1)] w fun e w' => ∃ v', e = .returned v' ∧ OwnN 2 rcSL base 180 w' v' (l.take i ++ l.drop (i + 1)) ∧ Upd (blk v) w w' ∧ blk v' = blk v := by
  rcases hs.2 with ⟨-, h0⟩ | ⟨g, cap, cur0, rfl, -⟩
  · omega
  obtain ⟨-, hb, hc, hm, cur, hg, hsz, hp⟩ := hs.open_ rcSL_len
  obtain ⟨m, hlm⟩ : ∃ m, l.length = i + 1 + m := ⟨l.length - (i + 1), by omega⟩
  have hcl : ((l.drop (i + 1)).flatMap rcSL).length = m * 2 := by rw [flatMap_len rcSL_len, List.length_drop, hlm]; congr 1; omega
  have htl : ((l.take i).flatMap rcSL).length = i * 2 := by rw [flatMap_len rcSL_len, List.length_take]; congr 1; omega
  have htl' : ((l.take (i + 1)).flatMap rcSL).length = (i + 1) * 2 := by rw [flatMap_len rcSL_len, List.length_take]; congr 1; omega
  have hp1 : Piece cur 0 ((l.take i).flatMap rcSL) := by rw [flat_split rcSL l i] at hp; exact hp.left
  have hp2 : Piece cur ((i + 1) * 2) ((l.drop (i + 1)).flatMap rcSL) := by rw [flat_split rcSL l (i + 1)] at hp; have := hp.right; rwa [htl', Nat.zero_add] at this
  generalize hcs : (l.drop (i + 1)).flatMap rcSL = cs at *
  have hcap : (i + 1 + m) * 2 ≤ cur.size := by rw [hsz]; exact Nat.mul_le_mul_right 2 (by omega)
  have hfit : i * 2 + cs.length ≤ cur.size := by rw [hcl]; omega
  obtain ⟨A, hA, hsrc⟩ : ∃ A : Addr, (if cap = i + 1 then some (⟨g, 0, none⟩ : Addr) else some ⟨g, (i + 1) * 2, none⟩) = some A ∧ ∀ j u, cs[j]? = some u → w.cell? (A.add j) = some u := by
    by_cases h : cap = i + 1
    · refine ⟨⟨g, 0, none⟩, by simp [h], fun j u hu => ?_⟩
      have h0 : cs.length = 0 := by rw [hcl]; omega
      rw [List.length_eq_zero_iff.1 h0] at hu
      simp at hu
    · refine ⟨⟨g, (i + 1) * 2, none⟩, by simp [h], fun j u hu => ?_⟩
      rw [add_none]; exact hp2.cell hg j u hu
  have h1c : ∀ u ∈ cs, u.oneCell' = true := by rw [← hcs]; exact mem_flat_one rcSL_one _
  have HA := Lib.hid (fun ty c => run_app_lay (P := Tryz.prog) (ty := ty) (n := i) (m := m) (cap := cap) (c := c) (sz := 2) undSL (by kernel_rfl) w.drew hg hcl hsrc h1c (by omega) hfit)
  have hz := lay_sz cur (i * 2) cs hfit
  have k1 := hp1.stay (i * 2) cs hfit (.inl (by omega))
  have k2 := Piece.lay cur (i * 2) cs hfit
  generalize lay_ cur (i * 2) cs = cur1 at *
  have hg1 : (w.drew.setRow g cur1).heap[g]? = some (.cells cur1 180 (0, 0)) := setRow_heap w.drew g cur cur1 _ _ hg
  have hfit1 : (i + m) * 2 + 1 * 2 ≤ cur1.size := by rw [hz]; omega
  have q7 : i + 1 + m - (i + m) = 1 := by omega
  have hB := (fun ty c => run_clear_lay (P := Tryz.prog) (ty := ty) (c := c) (n := 1) undSL infoRowSL rfl (by intro u hu; simp [Value.cells] at hu; rcases hu with rfl | rfl <;> rfl) (w.drew.setRow g cur1) (by omega) hg1 hfit1)
  have HB : Hid (∀ ty c, (Builtin.clear_ #[172] ty #[.slice (some ⟨g, (i + m) * 2, none⟩) (i + 1 + m - (i + m)) c]).run Tryz.prog (w.drew.setRow g cur1) = .ok (.tuple #[]) ((w.drew.setRow g cur1).setRow g (lay_ cur1 ((i + m) * 2) (Builtin.zeroCells (Value.agg #[.string ⟨#[]⟩, .slice none 0 0]).cells 1).toList))) := fun ty c => by rw [q7]; exact hB ty c
  clear hB
  have HK := Lib.hid (show OwnN 2 rcSL base 180 ((w.drew.setRow g cur1).setRow g (lay_ cur1 ((i + m) * 2) (Builtin.zeroCells (Value.agg #[.string ⟨#[]⟩, .slice none 0 0]).cells 1).toList)) (.slice (some ⟨g, 0, none⟩) (i + m) cap) (l.take i ++ l.drop (i + 1)) from by
    have hzl : (Builtin.zeroCells (Value.agg #[.string ⟨#[]⟩, .slice none 0 0]).cells 1).toList.length = 2 := by rw [Array.length_toList, size_zeroCells]; rfl
    have hf2 : (i + m) * 2 + (Builtin.zeroCells (Value.agg #[.string ⟨#[]⟩, .slice none 0 0]).cells 1).toList.length ≤ cur1.size := by rw [hzl]; omega
    refine OwnN.of_piece rcSL_len _ (by simp; omega) hb (by simp; omega) hm (setRow_heap _ g cur1 _ _ _ hg1) (by rw [lay_sz _ _ _ hf2, hz, hsz]) ?_
    rw [List.flatMap_append, hcs]
    refine (k1.stay _ _ hf2 (.inl (by omega))).app ?_
    rw [htl, Nat.zero_add (i * 2)]
    exact k2.stay _ _ hf2 (.inl (by omega)))
  clear hs hp hp1 hp2 hsz hg hcl htl htl' hsrc h1c hfit hz k1 k2 hg1 hfit1 hcs hcap
  rw [hlm] at hlen hc ⊢
  have hwr : IntKind.i64.wrap ((i : Int) + 1) = (i : Int) + 1 := by rw [IntKind.wrap_i64]; omega
  have q1 : (0 : Int) ≤ (i : Int) + 1 := by omega
  have q2 : (i : Int) + 1 ≤ (i : Int) + 1 + (m : Int) := by omega
  have q3 : ((i : Int) + 1).toNat = i + 1 := by omega
  have q4 : i + 1 + m - (i + 1) = m := by omega
  have q5 : i ≤ cap := by omega
  have q6 : ¬ (cap = i + m) := by omega
  have q8 : i + m ≤ i + 1 + m := by omega
  have q9 : (i : Int) + (m : Int) ≤ (i : Int) + 1 + (m : Int) := by omega
  go_enter Tryz.func132, Tryz.ntmps132
  go_wp2_with fail
  go_region_law (refine step_app_eq rfl (.tmp 22) (.tmp 25) 172 rfl (.slice (some ⟨g, 0, none⟩) i cap) (.slice (some A) m (cap - (i + 1))) (by simp [Act.eval, Act.put]) (by simp [Act.eval, Act.put]) (HA.out _ _) ?_)
  go_wp2_with (with_reducible refine wpList_clear_eq rfl (.tmp 31) 172 rfl (.slice (some ⟨g, (i + m) * 2, none⟩) (i + 1 + m - (i + m)) (cap - (i + m))) rfl (HB.out _ _) ?_)
  go_ret
  exact ⟨_, rfl, HK.out, ((Upd.refl [g] w).drew.setRow g _ (.inl (by simp))).setRow g _ (.inl (by simp)), rfl⟩
set_option maxRecDepth 20000 in
set_option maxHeartbeats 400000 in
theorem tDelSL_no (w : World) (k : ByteArray) (hs : TBSL base w g lv l) (hr : Rising ltSL l) (hlen : l.length ≤ 100000) (hk : True) (hn : isIn ltSL l k = false) :
    Calls Tryz.prog 112 #[.pointer (some ⟨g, 0, none⟩), sv k] w fun e w' => e = .returned (.bool false) ∧ Upd [] w w' := by
  have hc := tFindSL_any w k hs hr hlen hk
  rw [hn] at hc
  have HC := Lib.hid hc
  clear hs hr hlen hk hc hn
  go_enter Tryz.func112, Tryz.ntmps112
  go_wp2_with fail
  with_reducible refine HC.out.mono ?_
  rintro e w1 ⟨rfl, hu1⟩
  go_wp2_with fail
  go_ret
  exact ⟨rfl, hu1⟩
set_option maxRecDepth 20000 in
set_option maxHeartbeats 400000 in
theorem tDelSL_yes (w : World) (k : ByteArray) (hs : TBSL base w g lv l) (hr : Rising ltSL l) (hlen : l.length ≤ 100000) (hk : True) (hn : isIn ltSL l k = true) :
    Calls Tryz.prog 112 #[.pointer (some ⟨g, 0, none⟩), sv k] w fun e w' => e = .returned (.bool true) ∧ ∃ lv', TBSL base w' g lv' (l.take (below ltSL l k) ++ l.drop (below ltSL l k + 1)) ∧ Upd (g :: blk lv) w w' ∧ blk lv' = blk lv := by
  have hc := tFindSL_any w k hs hr hlen hk
  rw [hn] at hc
  have HC := Lib.hid hc
  have HS := Lib.hid hs
  unfold isIn at hn
  have hlt := (of_decide_eq_true hn).1
  have HD := Lib.hid (fun w1 (h : Upd [] w w1) => slDelSL w1 lv (below ltSL l k) (hs.rows.upd h (by simp)) hlt hlen)
  have D0 := Lib.hid (show w.cell? ⟨g, 0, none⟩ = some lv from hs.tab.cell 0)
  obtain ⟨ao, n, co, rfl⟩ := hs.rows.slice_
  clear hs hr hk hc hn
  generalize below ltSL l k = i at *
  have hwr : IntKind.i64.wrap ((i : Int) + 1) = (i : Int) + 1 := by rw [IntKind.wrap_i64]; omega
  go_enter Tryz.func112, Tryz.ntmps112
  go_wp2_with fail
  with_reducible refine HC.out.mono ?_
  rintro e w1 ⟨rfl, hu1⟩
  have d0 := hu1.cell D0.out (by simp)
  have HU1 := Lib.hid hu1
  go_wp2_with fail
  with_reducible refine (HD.out w1 HU1.out).mono ?_
  rintro e w2 ⟨v2, rfl, ho2, hu2, hb2⟩
  have hgl := HS.out.g_lv
  have f0 : w2.frozen? ⟨g, 0, none⟩ = false := ((HS.out.tab.upd HU1.out (by simp)).upd hu2 hgl).frozen 0
  have d2 : w2.cell? ⟨g, 0, none⟩ = some (.slice ao n co) := hu2.cell d0 hgl
  obtain ⟨ao2, n2, co2, rfl⟩ := ho2.slice_
  have HT := Lib.hid (show TBSL base (w2.setCell ⟨g, 0, none⟩ (.slice ao2 n2 co2)) g (.slice ao2 n2 co2) (l.take i ++ l.drop (i + 1)) from
    ⟨by simpa using ((HS.out.tab.upd HU1.out (by simp)).upd hu2 hgl).set_ 0 (.slice ao2 n2 co2), ho2.upd ((Upd.refl [g] _).setCell _ _ (.inl (by simp))) (by rw [hb2]; intro x hx; simp; rintro rfl; exact hgl hx), HS.out.gb⟩)
  have HU2 := Lib.hid (show Upd (g :: blk (.slice ao n co)) w (w2.setCell ⟨g, 0, none⟩ (.slice ao2 n2 co2)) from (HU1.out.trans (T := g :: blk (.slice ao n co)) hu2 (by simp) (fun x hx => .inl (by simp [hx]))).setCell _ _ (.inl (by simp)))
  clear ho2 hu1 hu2 hgl
  go_wp2_with fail
  go_ret
  exact ⟨rfl, _, HT.out, HU2.out, hb2⟩
end
section
variable {base : Nat} {g : Nat} {lv : Value} {l : List (ByteArray × Sl)} {w w' : World}
theorem tDelSL_any (w : World) (k : ByteArray) (hs : TBSL base w g lv l) (hr : Rising ltSL l) (hlen : l.length ≤ 100000) (hk : True) :
    Calls Tryz.prog 112 #[.pointer (some ⟨g, 0, none⟩), sv k] w fun e w' => e = .returned (.bool (isIn ltSL l k)) ∧ ∃ lv', TBSL base w' g lv' (tDel ltSL l k) ∧ Upd (g :: blk lv) w w' ∧ (∀ x ∈ blk lv', x ∈ blk lv ∨ w.heap.size ≤ x) := by
  cases hn : isIn ltSL l k with
  | false =>
    refine (tDelSL_no w k hs hr hlen hk hn).mono ?_
    rintro e w' ⟨rfl, hu⟩
    exact ⟨rfl, lv, by unfold tDel; rw [hn]; exact hs.upd0 hu, hu.mono (by simp), fun x hx => .inl hx⟩
  | true =>
    refine (tDelSL_yes w k hs hr hlen hk hn).mono ?_
    rintro e w' ⟨rfl, v', ht, hu, hb⟩
    exact ⟨rfl, v', by unfold tDel; rw [hn]; exact ht, hu, fun x hx => .inl (by rw [← hb]; exact hx)⟩
end
end Go.Proofs.YtmhojaiajhdlcaaGreat
namespace Go.Proofs.YtmhojaiajhdlcaaGreat
open Go.RowKit
set_option linter.unusedSimpArgs false
set_option linter.unusedVariables false
section
variable {base : Nat} {g : Nat} {lv : Value} {l : List (ByteArray × Sl)} {w w' : World}
set_option maxRecDepth 20000 in
set_option maxHeartbeats 400000 in
theorem tGetSL_no (w : World) (k : ByteArray) (hs : TBSL base w g lv l) (hr : Rising ltSL l) (hlen : l.length ≤ 100000) (hk : True) (hn : isIn ltSL l k = false) :
    Calls Tryz.prog 66 #[.pointer (some ⟨g, 0, none⟩), sv k] w fun e w' => e = .returned (.tuple #[.slice none 0 0, .bool false]) ∧ Upd [] w w' := by
  have hc := tFindSL_any w k hs hr hlen hk
  rw [hn] at hc
  have HC := Lib.hid hc
  clear hs hr hlen hk hc hn
  go_enter Tryz.func66, Tryz.ntmps66
  go_wp2_with fail
  refine HC.out.mono ?_
  rintro e w1 ⟨rfl, hu1⟩
  go_wp2_with fail
  go_ret2
  exact ⟨rfl, hu1⟩
set_option maxRecDepth 20000 in
set_option maxHeartbeats 400000 in
theorem tGetSL_ok (w : World) (k : ByteArray) (hs : TBSL base w g lv l) (hr : Rising ltSL l) (hlen : l.length ≤ 100000) (hk : True) (hn : isIn ltSL l k = true) :
    Calls Tryz.prog 66 #[.pointer (some ⟨g, 0, none⟩), sv k] w fun e w' => e = .returned (.tuple #[slv (nth l (below ltSL l k)).2, .bool true]) ∧ Upd [] w w' := by
  have hc := tFindSL_any w k hs hr hlen hk
  rw [hn] at hc
  have HC := Lib.hid hc
  unfold isIn at hn
  have hlt := (of_decide_eq_true hn).1
  obtain ⟨ao, co, rfl, hlc, hcm, hcell⟩ := hs.rows.rd rcSL_len
  obtain ⟨b, off, rfl, hc'⟩ := hcell (by intro h; simp [h] at hlt)
  have D0 := Lib.hid (show w.cell? ⟨g, 0, none⟩ = some (.slice (some ⟨b, off, none⟩) l.length co) from hs.tab.cell 0)
  have D1 := Lib.hid (show w.cell? ⟨b, off + below ltSL l k * 2 + 1, none⟩ = some (slv (nth l (below ltSL l k)).2) from hc' _ hlt 1 (by omega))
  clear hs hr hk hc hn hcell hc' hcm
  generalize (nth l (below ltSL l k)).2 = x at *
  generalize below ltSL l k = i at *
  have q1 : (0 : Int) ≤ i := by omega
  have q2 : (i : Int) < l.length := by omega
  go_enter Tryz.func66, Tryz.ntmps66
  go_wp2_with fail
  refine HC.out.mono ?_
  rintro e w1 ⟨rfl, hu1⟩
  have d0 := hu1.cell D0.out (by simp)
  have d1 := hu1.cell D1.out (by simp)
  go_wp2_with fail
  go_ret2
  exact ⟨rfl, hu1⟩
set_option maxRecDepth 20000 in
set_option maxHeartbeats 400000 in
theorem tAtSL_ok (w : World) (i : Nat) (hs : TBSL base w g lv l) (hlen : l.length ≤ 100000) (hi : i < l.length) :
    Calls Tryz.prog 106 #[.pointer (some ⟨g, 0, none⟩), .int .i64 (i : Int)] w fun e w' => e = .returned (.tuple #[sv (nth l i).1, slv (nth l i).2, .bool true]) ∧ Upd [] w w' := by
  obtain ⟨ao, co, rfl, hlc, hcm, hcell⟩ := hs.rows.rd rcSL_len
  obtain ⟨b, off, rfl, hc'⟩ := hcell (by intro h; simp [h] at hi)
  have d0 : w.cell? ⟨g, 0, none⟩ = some (.slice (some ⟨b, off, none⟩) l.length co) := hs.tab.cell 0
  have d1 : w.cell? ⟨b, off + i * 2, none⟩ = some (sv (nth l i).1) := hc' _ hi 0 (by omega)
  have d2 : w.cell? ⟨b, off + i * 2 + 1, none⟩ = some (slv (nth l i).2) := hc' _ hi 1 (by omega)
  clear hs hcell hc' hcm
  generalize (nth l i).1 = x at *
  generalize (nth l i).2 = y at *
  have q1 : (0 : Int) ≤ i := by omega
  have q2 : (i : Int) < l.length := by omega
  go_enter Tryz.func106, Tryz.ntmps106
  go_wp2_with fail
  go_quiet (fail)
  go_wp2_with fail
  go_ret3
  exact ⟨rfl, by first | exact (Upd.refl [] _).drewN _ | exact (Upd.refl [] _).drew⟩
end
end Go.Proofs.YtmhojaiajhdlcaaGreat
namespace Go.Proofs.YtmhojaiajhdlcaaGreat
open Go.RowKit
set_option linter.unusedSimpArgs false
set_option linter.unusedVariables false
section
variable {base : Nat} {g : Nat} {lv : Value} {l : List (ByteArray × Sl)} {w w' : World}
set_option maxRecDepth 20000 in
set_option maxHeartbeats 400000 in
theorem tSetSL_old (w : World) (k : ByteArray) (v : Sl) (hs : TBSL base w g lv l) (hr : Rising ltSL l) (hlen : l.length ≤ 100000) (hk : True) (hn : isIn ltSL l k = true) :
    Calls Tryz.prog 108 #[.pointer (some ⟨g, 0, none⟩), sv k, slv v] w fun e w' => e = .returned (.bool false) ∧ TBSL base w' g lv (l.set (below ltSL l k) ((nth l (below ltSL l k)).1, v)) ∧ Upd (blk lv) w w' := by
  have hc := tFindSL_any w k hs hr hlen hk
  rw [hn] at hc
  have HC := Lib.hid hc
  have HS := Lib.hid hs
  unfold isIn at hn
  have hlt := (of_decide_eq_true hn).1
  have hgl := hs.g_lv
  rcases hs.rows.2 with ⟨-, h0⟩ | ⟨b, co, cur, rfl, hb, hg, -⟩
  · omega
  have D0 := Lib.hid (show w.cell? ⟨g, 0, none⟩ = some (.slice (some ⟨b, 0, none⟩) l.length co) from hs.tab.cell 0)
  have HL := Lib.hid hlt
  have D1 := Lib.hid (show ∃ u, w.cell? ⟨b, below ltSL l k * 2 + 1, none⟩ = some u from by
    obtain ⟨ao', co', e', -, -, hcell⟩ := hs.rows.rd rcSL_len
    injection e' with e1 e2 e3
    obtain ⟨b', off, e4, hc'⟩ := hcell (by intro h; simp [h] at hlt)
    rw [e4] at e1
    injection e1 with e1; injection e1 with e1 e5
    subst e1; subst e5
    exact ⟨_, by simpa using hc' _ hlt 1 (by omega)⟩)
  have HG := Lib.hid hg
  clear hs hr hk hc hn hgl hg
  generalize below ltSL l k = i at *
  have q1 : (0 : Int) ≤ i := by omega
  have q2 : (i : Int) < l.length := by omega
  go_enter Tryz.func108, Tryz.ntmps108
  go_wp2_with fail
  with_reducible refine HC.out.mono ?_
  rintro e w1 ⟨rfl, hu1⟩
  have d0 := hu1.cell D0.out (by simp)
  obtain ⟨u, hu⟩ := D1.out
  have d1 := hu1.cell hu (by simp)
  have f1 : w1.frozen? ⟨b, i * 2 + 1, none⟩ = false := frozen_of_row w1 b _ cur _ (hu1.heap HG.out (by simp))
  go_wp2_with fail
  go_ret
  have hst : Upd [b] w1 (w1.setCell ⟨b, i * 2 + 1, none⟩ (slv v)) := (Upd.refl [b] w1).setCell _ _ (.inl (by simp))
  have hs1 := HS.out.upd0 hu1
  have hl := HL.out
  have hgb : g ≠ b := fun e => HS.out.g_lv (by rw [e]; simp [blk])
  refine ⟨rfl, ⟨hs1.tab.upd hst (by simpa using hgb), ?_, hs1.gb⟩, ?_⟩
  · refine OwnN.set_ rcSL_len hs1.rows i 1 hl (by omega) (slv v) _ ?_
    rw [nth_get l i hl]
    rfl
  · exact (show Upd [b] w w1 from hu1.mono (by simp)).setCell _ _ (.inl (by simp))
end
end Go.Proofs.YtmhojaiajhdlcaaGreat
namespace Go.Proofs.YtmhojaiajhdlcaaGreat
open Go.RowKit
set_option linter.unusedSimpArgs false
set_option linter.unusedVariables false
section
variable {base : Nat} {g : Nat} {lv : Value} {l : List (ByteArray × Sl)} {w w' : World}
set_option maxRecDepth 20000 in
set_option maxHeartbeats 1000000 in
theorem slInsSL_end (w : World) (v : Value) (vb : Nat) (x : ByteArray × Sl) (hs : OwnN 2 rcSL base 180 w v l) (hlen : l.length ≤ 100000) (hbs : base ≤ w.heap.size) (hv : Blk w vb 180 (rcSL x)) :
    Calls Tryz.prog 130 #[v, .int .i64 (l.length : Int), .slice (some ⟨vb, 0, none⟩) 1 1] w fun e w' => ∃ v', e = .returned v' ∧ OwnN 2 rcSL base 180 w' v' (l ++ [x]) ∧ Upd (blk v) w w' ∧ (∀ y ∈ blk v', y ∈ blk v ∨ w.heap.size ≤ y) := by
  have hrd : RdN 2 rcSL w (.slice (some ⟨vb, 0, none⟩) 1 1) [x] := ⟨_, 1, rfl, by simp, by simp [maxLen], fun _ => ⟨vb, 0, rfl, fun j hj i hi => by
    simp at hj; subst hj
    rw [hv.cell]; simp [nth_cons_zero]⟩⟩
  have HR := Lib.hid (fun ty => run_appN (P := Tryz.prog) (ty := ty) rcSL_len (by decide) rcSL_one undSL infoRowSL rfl v _ l [x] hs hrd (by simp; omega) (by simp [maxLen]; omega) hbs)
  obtain ⟨ao, n, co, rfl⟩ := hs.slice_
  have hn : n = l.length ∧ l.length ≤ co := by
    rcases hs.2 with ⟨he, h0⟩ | ⟨_, _, _, he, _, _, hc, _⟩
    · injection he with e1 e2 e3; subst e2; subst e3; exact ⟨h0.symm, by omega⟩
    · injection he with e1 e2 e3; subst e2; subst e3; exact ⟨rfl, hc⟩
  obtain ⟨rfl, hco⟩ := hn
  clear hs hrd hv
  have hd : co = l.length ∨ ¬ co = l.length := by omega
  rcases hd with hd | hd
  all_goals
    go_enter Tryz.func130, Tryz.ntmps130
    go_wp2_with (at_builtin; refine wpList_app_of rfl _ _ rfl (.slice ao l.length co) (.slice (some ⟨vb, 0, none⟩) 1 1) rfl rfl (HR.out _) ?_; rintro v1 w3 ⟨ho3, hu3, hb3⟩; have HO3 := Lib.hid ho3; obtain ⟨a1, n1, c1, rfl⟩ := ho3.slice_; clear ho3)
    go_ret
    exact ⟨_, rfl, HO3.out, hu3, hb3⟩
theorem ovlSL (w : World) (vb gb vo go_ la ca lb cb kA kB : Nat) (tA tB : TypeId) (hne : vb ≠ gb) (hsa : w.shape? vb = some (tA, kA)) (hsb : w.shape? gb = some (tB, kB)) (hkB : kB ≠ 0) (hfa : w.frozen? ⟨vb, vo, none⟩ = false) (hfe : w.frozen? ⟨vb, kA, none⟩ = false) :
    (callFunc 146 #[.slice (some ⟨vb, vo, none⟩) la ca, .slice (some ⟨gb, go_, none⟩) lb cb]).run Tryz.prog w = .ok (.value (.bool false)) w := by
  have hz : ∀ w, (sizeOf 180).run Tryz.prog w = .ok 2 w := by
    intro w
    obtain ⟨i, h1, h2, h3, h4⟩ := info_parts infoRowSL
    simp [sizeOf, typeInfo, h1, h3]
  rw [run_callFunc_extern Tryz.func146 (by kernel_rfl) (by kernel_rfl) (by kernel_rfl) (e := Extern.SlicesOverlaps.overlaps #[172, 172] #[4]) (by kernel_rfl),
    Lib.run_overlaps_apart w 172 4 180 undSL 2 hz ⟨vb, vo, none⟩ ⟨gb, go_, none⟩ la ca lb cb hne tA tB kA kB hsa hsb hkB hfa hfe]
  rfl
set_option maxRecDepth 20000 in
set_option maxHeartbeats 2000000 in
theorem slInsSL_shift (w : World) (g n cap i : Nat) (vb : Nat) (x : ByteArray × Sl) (hs : OwnN 2 rcSL base 180 w (.slice (some ⟨g, 0, none⟩) n cap) l) (hi : i < l.length) (hroom : l.length + 1 ≤ cap) (hlen : l.length ≤ 100000) (hv : Blk w vb 180 (rcSL x)) (hvg : vb ≠ g) :
    Calls Tryz.prog 130 #[.slice (some ⟨g, 0, none⟩) n cap, .int .i64 (i : Int), .slice (some ⟨vb, 0, none⟩) 1 1] w fun e w' => ∃ v', e = .returned v' ∧ OwnN 2 rcSL base 180 w' v' (l.take i ++ x :: l.drop i) ∧ Upd [g] w w' ∧ (∀ y ∈ blk v', y ∈ [g] ∨ w.heap.size ≤ y) := by
  obtain ⟨rfl, hb, hc, hm, cur, hg, hsz, hp⟩ := hs.open_ rcSL_len
  have hdl : ((l.drop i).flatMap rcSL).length = (l.length - i) * 2 := by rw [flatMap_len rcSL_len, List.length_drop]
  have htl : ((l.take i).flatMap rcSL).length = i * 2 := by rw [flatMap_len rcSL_len, List.length_take]; congr 1; omega
  have hp1 : Piece cur 0 ((l.take i).flatMap rcSL) := by rw [flat_split rcSL l i] at hp; exact hp.left
  have hp2 : Piece cur (i * 2) ((l.drop i).flatMap rcSL) := by rw [flat_split rcSL l i] at hp; have := hp.right; rwa [htl, Nat.zero_add] at this
  have h1c : ∀ u ∈ (l.drop i).flatMap rcSL, u.oneCell' = true := mem_flat_one rcSL_one _
  generalize hcs : (l.drop i).flatMap rcSL = cs at *
  have hcap : (l.length + 1) * 2 ≤ cur.size := by rw [hsz]; exact Nat.mul_le_mul_right 2 (by omega)
  have hfit : (i + 1) * 2 + cs.length ≤ cur.size := by rw [hdl]; omega
  have hA := (fun ty dc sc => run_copy_lay (P := Tryz.prog) (sz := 2) (dT := 172) (sT := 172) (ty := ty) (dLen := l.length + 1 - (i + 1)) (dCap := dc) (a := ⟨g, i * 2, none⟩) (sLen := l.length + 1 - i) (sCap := sc) (k := l.length - i) undSL (by kernel_rfl) w.drew hg (by simp only [Nat.min_def]; split <;> omega) hdl (fun j u hu => by rw [add_none]; exact hp2.cell hg j u hu) hfit h1c)
  have hz := lay_sz cur ((i + 1) * 2) cs hfit
  have k1 := hp1.stay ((i + 1) * 2) cs hfit (.inl (by omega))
  have k2 := Piece.lay cur ((i + 1) * 2) cs hfit
  generalize lay_ cur ((i + 1) * 2) cs = cur1 at *
  have hg1 : (w.drew.setRow g cur1).heap[g]? = some (.cells cur1 180 (0, 0)) := setRow_heap w.drew g cur cur1 _ _ hg
  have hu1 : Upd [g] w (w.drew.setRow g cur1) := (Upd.refl [g] w).drew.setRow g _ (.inl (by simp))
  have hv1 := hv.upd hu1 (by simpa using hvg)
  obtain ⟨W1, hW1⟩ : ∃ W1, W1 = w.drew.setRow g cur1 := ⟨_, rfl⟩
  rw [← hW1] at hA hg1 hu1 hv1
  have hfx : i * 2 + (rcSL x).length ≤ cur1.size := by rw [hz, rcSL_len]; omega
  have hB := (fun ty dc => run_copy_lay (P := Tryz.prog) (sz := 2) (dT := 172) (sT := 172) (ty := ty) (dLen := l.length + 1 - i) (dCap := dc) (a := ⟨vb, 0, none⟩) (sLen := 1) (sCap := 1) (k := 1) (cs := rcSL x) undSL (by kernel_rfl) W1 hg1 (by simp only [Nat.min_def]; split <;> omega) rfl (fun j u hu => by rw [add_none, hv1.cell, Nat.zero_add]; exact hu) hfx (rcSL_one x))
  have hz2 := lay_sz cur1 (i * 2) (rcSL x) hfx
  have m1 := k1.stay (i * 2) (rcSL x) hfx (.inl (by omega))
  have m2 := Piece.lay cur1 (i * 2) (rcSL x) hfx
  have m3 := k2.stay (i * 2) (rcSL x) hfx (.inr (by rw [rcSL_len]; omega))
  generalize lay_ cur1 (i * 2) (rcSL x) = cur2 at *
  have HK := Lib.hid (show OwnN 2 rcSL base 180 (W1.setRow g cur2) (.slice (some ⟨g, 0, none⟩) (l.length + 1) cap) (l.take i ++ x :: l.drop i) from by
    refine OwnN.of_piece rcSL_len cur2 (by simp; omega) hb (by simp; omega) hm (setRow_heap _ g cur1 _ _ _ hg1) (by rw [hz2, hz, hsz]) ?_
    rw [List.flatMap_append, List.flatMap_cons, hcs]
    refine m1.app ?_
    rw [htl, Nat.zero_add (i * 2)]
    refine m2.app ?_
    rw [rcSL_len, show i * 2 + 2 = (i + 1) * 2 by omega]
    exact m3)
  have HU := Lib.hid (show Upd [g] w (W1.setRow g cur2) from hu1.setRow g _ (.inl (by simp)))
  obtain ⟨W2, hW2⟩ : ∃ W2, W2 = W1.setRow g cur2 := ⟨_, rfl⟩
  rw [← hW2] at hB HK HU
  have HA := Lib.hid hA
  have HB := Lib.hid hB
  have HO := Lib.hid (fun lb cb => ovlSL w vb g 0 ((i + 1) * 2) 1 1 lb cb (rcSL x).toArray.size cur.size 180 180 hvg (by unfold World.shape?; rw [show w.heap[vb]? = _ from hv]) (by unfold World.shape?; rw [hg]) (by omega) (hv.frozen 0) (hv.frozen _))
  clear hs hp hp1 hp2 hsz hg hdl htl h1c hfit hz k1 k2 hg1 hcs hcap hA hB hv hv1 hu1 hfx hz2 m1 m2 m3 hW1 hW2
  have HL := Lib.hid (show True from trivial)
  generalize l.length = n at *
  have hc63 : cap ≤ 9223372036854775807 := by unfold maxLen at hm; omega
  have hz1 : ¬ ((i : Int) = (n : Int)) := by omega
  have hw1 : IntKind.i64.wrap ((i : Int) + 1) = (i : Int) + 1 := by rw [IntKind.wrap_i64]; omega
  have hw2 : IntKind.i64.wrap ((n : Int) + 1) = (n : Int) + 1 := by rw [IntKind.wrap_i64]; omega
  have b1 : (0 : Int) ≤ (i : Int) + 1 := by omega
  have b2 : (0 : Int) ≤ (n : Int) + 1 := by omega
  have t1 : ((i : Int) + 1).toNat = i + 1 := by omega
  have t2 : ((n : Int) + 1).toNat = n + 1 := by omega
  have b3 : ¬ (cap = i + 1) := by omega
  have b4 : ¬ (cap = i) := by omega
  have b5 : (i : Int) + 1 ≤ (n : Int) + 1 := by omega
  have b6 : (i : Int) ≤ (n : Int) + 1 := by omega
  have b7 : (n : Int) + 1 ≤ (cap : Int) := by omega
  have b8 : i ≤ n := by omega
  go_enter Tryz.func130, Tryz.ntmps130
  go_wp2_with (simp only [HO.out])
  go_region_law (refine step_copy_eq rfl (.tmp 73) (.tmp 76) 172 172 rfl (.slice (some ⟨g, (i + 1) * 2, none⟩) (n + 1 - (i + 1)) (cap - (i + 1))) (.slice (some ⟨g, i * 2, none⟩) (n + 1 - i) (cap - i)) (by simp [Act.eval, Act.put]) (by simp [Act.eval, Act.put]) (HA.out _ _ _) ?_)
  go_wp2_with (with_reducible refine wpList_copy_eq rfl (.tmp 80) (.tmp 81) 172 172 rfl (.slice (some ⟨g, i * 2, none⟩) (n + 1 - i) (cap - i)) (.slice (some ⟨vb, 0, none⟩) 1 1) rfl rfl (HB.out _ _) ?_)
  go_ret
  exact ⟨_, rfl, HK.out, HU.out, fun y hy => .inl (by simpa [blk] using hy)⟩
set_option maxRecDepth 20000 in
set_option maxHeartbeats 2000000 in
theorem slInsSL_grow (w : World) (g n cap i : Nat) (vb : Nat) (x : ByteArray × Sl) (hs : OwnN 2 rcSL base 180 w (.slice (some ⟨g, 0, none⟩) n cap) l) (hi : i < l.length) (hroom : cap < l.length + 1) (hlen : l.length ≤ 100000) (hbs : base ≤ w.heap.size) (hv : Blk w vb 180 (rcSL x)) :
    Calls Tryz.prog 130 #[.slice (some ⟨g, 0, none⟩) n cap, .int .i64 (i : Int), .slice (some ⟨vb, 0, none⟩) 1 1] w fun e w' => ∃ v', e = .returned v' ∧ OwnN 2 rcSL base 180 w' v' (l.take i ++ x :: l.drop i) ∧ Upd [g] w w' ∧ (∀ y ∈ blk v', y ∈ [g] ∨ w.heap.size ≤ y) := by
  obtain ⟨rfl, hb, hc, hm, cur, hg, hsz, hp⟩ := hs.open_ rcSL_len
  obtain ⟨i0, hi0, hz0, hzs, hzb⟩ := info_parts infoRowSL
  have hdl : ((l.drop i).flatMap rcSL).length = (l.length - i) * 2 := by rw [flatMap_len rcSL_len, List.length_drop]
  have htl : ((l.take i).flatMap rcSL).length = i * 2 := by rw [flatMap_len rcSL_len, List.length_take]; congr 1; omega
  have hp1 : Piece cur 0 ((l.take i).flatMap rcSL) := by rw [flat_split rcSL l i] at hp; exact hp.left
  have hp2 : Piece cur (i * 2) ((l.drop i).flatMap rcSL) := by rw [flat_split rcSL l i] at hp; have := hp.right; rwa [htl, Nat.zero_add] at this
  have h1c : ∀ u ∈ (l.drop i).flatMap rcSL, u.oneCell' = true := mem_flat_one rcSL_one _
  have hgw : g < w.heap.size := (Array.getElem?_eq_some_iff.1 hg).1
  have hold : (Builtin.firstCells i0.size i (.slice (some ⟨g, 0, none⟩) i cap)).run Tryz.prog w.drew = .ok ((l.take i).flatMap rcSL).toArray w.drew := by
    rw [hzs]
    exact run_firstCells_some w.drew 2 i ⟨g, 0, none⟩ i cap _ htl (fun j u hu => by rw [add_none]; exact hp1.cell hg j u hu)
  have hkk : (l.length : Int) + 1 - (i : Int) = ((l.length + 1 - i : Nat) : Int) := by omega
  have hik : i + (l.length + 1 - i) = l.length + 1 := by omega
  have u3 : Tryz.prog.underlying 3 = some (.int .i64) := by kernel_rfl
  have hrz := fun ty => Lib.run_append_grow_zeros (P := Tryz.prog) w 172 3 ty 180 i0 _ .i64 .i64 undSL u3 hi0 hz0 (some ⟨g, 0, none⟩) i cap _ hold (l.length + 1 - i) (by omega) (by omega) (by omega) (by omega) (by rw [hzb]; omega) (by rw [hzb, hik]; exact growslice_fits (by omega) (by omega))
  rw [hik] at hrz
  have hGe := grownCap_ge w (l.length + 1) cap 180
  have hGm : grownCap w (l.length + 1) cap 180 ≤ maxLen := grownCap_le_maxLen w (l.length + 1) cap _ (by unfold maxLen; omega)
  generalize grownCap w (l.length + 1) cap 180 = G at *
  obtain ⟨ROW, hROW⟩ : ∃ ROW : Array Value, ROW = ((l.take i).flatMap rcSL).toArray ++ Builtin.zeroCells (Value.agg #[.string ⟨#[]⟩, .slice none 0 0]).cells (l.length + 1 - i) ++ Builtin.zeroCells (Value.agg #[.string ⟨#[]⟩, .slice none 0 0]).cells (G - (l.length + 1)) := ⟨_, rfl⟩
  rw [← hROW] at hrz
  have hzz : (Value.agg #[.string ⟨#[]⟩, .slice none 0 0]).cells.size = 2 := rfl
  have hRs : ROW.size = G * 2 := by
    rw [hROW]
    simp only [Array.size_append, List.size_toArray, size_zeroCells, hzz, htl]
    omega
  have hRp : Piece ROW 0 ((l.take i).flatMap rcSL) := fun j u hu => by
    have hj := (List.getElem?_eq_some_iff.1 hu).1
    rw [hROW, Array.append_assoc, Array.getElem?_append_left (by simp only [Array.size_append, List.size_toArray]; omega), Nat.zero_add]
    simpa using hu
  clear hROW hold hp1
  obtain ⟨W1, hW1⟩ : ∃ W1, W1 = w.drew.alloc (.cells ROW 180) := ⟨_, rfl⟩
  rw [← hW1] at hrz
  have hg1 : W1.heap[w.heap.size]? = some (.cells ROW 180 (0, 0)) := by rw [hW1]; exact heap_alloc_new w.drew _
  have hu1 : Upd [] w W1 := by rw [hW1]; exact (Upd.refl [] w).drew.alloc _
  have hv1 := hv.upd hu1 (by simp)
  have hgg := hu1.heap hg (by simp)
  generalize hgn : w.heap.size = gn at *
  have hgne : g ≠ gn := by omega
  have hvw : vb < gn := by rw [← hgn]; exact hv.lt
  have hvne : vb ≠ gn := by omega
  have hfx : i * 2 + (rcSL x).length ≤ ROW.size := by rw [hRs, rcSL_len]; omega
  have hB := (fun ty dc => run_copy_lay (P := Tryz.prog) (sz := 2) (dT := 172) (sT := 172) (ty := ty) (dLen := l.length + 1 - i) (dCap := dc) (a := ⟨vb, 0, none⟩) (sLen := 1) (sCap := 1) (k := 1) (cs := rcSL x) undSL (by kernel_rfl) W1 hg1 (by simp only [Nat.min_def]; split <;> omega) rfl (fun j u hu => by rw [add_none, hv1.cell, Nat.zero_add]; exact hu) hfx (rcSL_one x))
  have hz2 := lay_sz ROW (i * 2) (rcSL x) hfx
  have m1 := hRp.stay (i * 2) (rcSL x) hfx (.inl (by omega))
  have m2 := Piece.lay ROW (i * 2) (rcSL x) hfx
  generalize lay_ ROW (i * 2) (rcSL x) = cur1 at *
  have hg2 : (W1.setRow gn cur1).heap[gn]? = some (.cells cur1 180 (0, 0)) := setRow_heap W1 gn ROW cur1 _ _ hg1
  have hu2 : Upd [gn] W1 (W1.setRow gn cur1) := (Upd.refl [gn] W1).setRow gn _ (.inl (by simp))
  have hgg2 := hu2.heap hgg (by simpa using hgne)
  obtain ⟨W2, hW2⟩ : ∃ W2, W2 = W1.setRow gn cur1 := ⟨_, rfl⟩
  rw [← hW2] at hB hg2 hu2 hgg2
  generalize hcs : (l.drop i).flatMap rcSL = cs at *
  have hfit : (i + 1) * 2 + cs.length ≤ cur1.size := by rw [hdl, hz2, hRs]; omega
  have hA := (fun ty dc sc => run_copy_lay (P := Tryz.prog) (sz := 2) (dT := 172) (sT := 172) (ty := ty) (dLen := l.length + 1 - (i + 1)) (dCap := dc) (a := ⟨g, i * 2, none⟩) (sLen := l.length - i) (sCap := sc) (k := l.length - i) undSL (by kernel_rfl) W2.drew hg2 (by simp only [Nat.min_def]; split <;> omega) hdl (fun j u hu => by rw [add_none]; exact hp2.cell hgg2 j u hu) hfit h1c)
  have hz3 := lay_sz cur1 ((i + 1) * 2) cs hfit
  have k1 := m1.stay ((i + 1) * 2) cs hfit (.inl (by omega))
  have k2 := m2.stay ((i + 1) * 2) cs hfit (.inl (by rw [rcSL_len]; omega))
  have k3 := Piece.lay cur1 ((i + 1) * 2) cs hfit
  generalize lay_ cur1 ((i + 1) * 2) cs = cur2 at *
  have HK := Lib.hid (show OwnN 2 rcSL base 180 (W2.drew.setRow gn cur2) (.slice (some ⟨gn, 0, none⟩) (l.length + 1) G) (l.take i ++ x :: l.drop i) from by
    refine OwnN.of_piece rcSL_len cur2 (by simp; omega) hbs (by simp; omega) hGm (setRow_heap W2.drew gn cur1 _ _ _ hg2) (by rw [hz3, hz2, hRs]) ?_
    rw [List.flatMap_append, List.flatMap_cons, hcs]
    refine k1.app ?_
    rw [htl, Nat.zero_add (i * 2)]
    refine k2.app ?_
    rw [rcSL_len, show i * 2 + 2 = (i + 1) * 2 by omega]
    exact k3)
  have HU := Lib.hid (show Upd [g] w (W2.drew.setRow gn cur2) from (((hu1.trans (T := [g]) hu2 (by simp) (fun y hy => .inr (by simp at hy; omega))).drew).setRow gn _ (.inr (by omega))))
  obtain ⟨W3, hW3⟩ : ∃ W3, W3 = W2.drew.setRow gn cur2 := ⟨_, rfl⟩
  rw [← hW3] at hA HK HU
  have HA := Lib.hid hA
  have HB := Lib.hid hB
  have hrz' : ∀ ty, (Builtin.append_ #[172, 3] ty #[.slice (some ⟨g, 0, none⟩) i cap, .int .i64 ((l.length : Int) + 1 - (i : Int))]).run Tryz.prog w = .ok (.slice (some ⟨gn, 0, none⟩) (l.length + 1) G) W1 := fun ty => by rw [hkk]; exact hrz ty
  have HZ := Lib.hid hrz'
  have HG := Lib.hid hgn
  clear hs hp hp2 hsz hg hdl htl h1c hfit k1 k2 k3 hg1 hg2 hcs hA hB hv hv1 hu1 hu2 hfx hz2 hz3 m1 m2 hW1 hW2 hW3 hrz hrz' hgg hgg2 hRs hRp hgn hgw hi0 hz0 hzs hzb hkk hik hzz hgne hvw hvne
  generalize l.length = n at *
  obtain rfl : cap = n := by omega
  have hc63 : G ≤ 9223372036854775807 := by unfold maxLen at hGm; omega
  have hz1 : ¬ ((i : Int) = (cap : Int)) := by omega
  have hw1 : IntKind.i64.wrap ((i : Int) + 1) = (i : Int) + 1 := by rw [IntKind.wrap_i64]; omega
  have hw2 : IntKind.i64.wrap ((cap : Int) + 1) = (cap : Int) + 1 := by rw [IntKind.wrap_i64]; omega
  have hw3 : IntKind.i64.wrap ((cap : Int) + 1 - (i : Int)) = (cap : Int) + 1 - (i : Int) := by rw [IntKind.wrap_i64]; omega
  have b1 : (0 : Int) ≤ (i : Int) + 1 := by omega
  have b2 : (0 : Int) ≤ (cap : Int) + 1 := by omega
  have t1 : ((i : Int) + 1).toNat = i + 1 := by omega
  have t2 : ((cap : Int) + 1).toNat = cap + 1 := by omega
  have b3 : ¬ (G = i + 1) := by omega
  have b4 : ¬ (G = i) := by omega
  have b5 : (i : Int) + 1 ≤ (cap : Int) + 1 := by omega
  have b6 : (i : Int) ≤ (cap : Int) + 1 := by omega
  have b7 : ¬ (cap = i) := by omega
  have b8 : i ≤ cap := by omega
  go_enter Tryz.func130, Tryz.ntmps130
  go_wp2_with (first
    | (at_builtin; refine wpList_app_eq rfl _ _ 172 3 rfl (.slice (some ⟨g, 0, none⟩) i cap) (.int .i64 ((cap : Int) + 1 - (i : Int))) rfl rfl (HZ.out _) ?_)
    | (with_reducible refine wpList_copy_eq rfl (.tmp 43) (.tmp 44) 172 172 rfl (.slice (some ⟨gn, i * 2, none⟩) (cap + 1 - i) (G - i)) (.slice (some ⟨vb, 0, none⟩) 1 1) rfl rfl (HB.out _ _) ?_))
  go_region_law (refine step_copy_eq rfl (.tmp 50) (.tmp 53) 172 172 rfl (.slice (some ⟨gn, (i + 1) * 2, none⟩) (cap + 1 - (i + 1)) (G - (i + 1))) (.slice (some ⟨g, i * 2, none⟩) (cap - i) (cap - i)) (by simp [Act.eval, Act.put]) (by simp [Act.eval, Act.put]) (HA.out _ _ _) ?_)
  go_wp2_with fail
  go_ret
  exact ⟨_, rfl, HK.out, HU.out, fun y hy => .inr (by simp [blk] at hy; have := HG.out; omega)⟩
theorem slInsSL_any (w : World) (v : Value) (i : Nat) (vb : Nat) (x : ByteArray × Sl) (hs : OwnN 2 rcSL base 180 w v l) (hi : i ≤ l.length) (hlen : l.length ≤ 100000) (hbs : base ≤ w.heap.size) (hv : Blk w vb 180 (rcSL x)) (hvg : vb ∉ blk v) :
    Calls Tryz.prog 130 #[v, .int .i64 (i : Int), .slice (some ⟨vb, 0, none⟩) 1 1] w fun e w' => ∃ v', e = .returned v' ∧ OwnN 2 rcSL base 180 w' v' (l.take i ++ x :: l.drop i) ∧ Upd (blk v) w w' ∧ (∀ y ∈ blk v', y ∈ blk v ∨ w.heap.size ≤ y) := by
  by_cases he : i = l.length
  · subst he
    rw [List.take_length, List.drop_length]
    exact slInsSL_end w v vb x hs hlen hbs hv
  · rcases hs.2 with ⟨-, h0⟩ | ⟨g, cap, cur, rfl, -⟩
    · omega
    · by_cases hc : l.length + 1 ≤ cap
      · exact slInsSL_shift w g l.length cap i vb x hs (by omega) hc hlen hv (by simpa [blk] using hvg)
      · exact slInsSL_grow w g l.length cap i vb x hs (by omega) (by omega) hlen hbs hv
set_option maxRecDepth 20000 in
set_option maxHeartbeats 400000 in
theorem tSetSL_new (w : World) (k : ByteArray) (y : Sl) (hs : TBSL base w g lv l) (hr : Rising ltSL l) (hlen : l.length ≤ 100000) (hbs : base ≤ w.heap.size) (hk : True) (hn : isIn ltSL l k = false) :
    Calls Tryz.prog 108 #[.pointer (some ⟨g, 0, none⟩), sv k, slv y] w fun e w' => e = .returned (.bool true) ∧ ∃ lv', TBSL base w' g lv' (l.take (below ltSL l k) ++ (k, y) :: l.drop (below ltSL l k)) ∧ Upd (g :: blk lv) w w' ∧ (∀ x ∈ blk lv', x ∈ blk lv ∨ w.heap.size ≤ x) := by
  have hc := tFindSL_any w k hs hr hlen hk
  rw [hn] at hc
  have HC := Lib.hid hc
  have HS := Lib.hid hs
  have hle := below_le (lt := ltSL) l k
  have HD := Lib.hid (fun w1 (h : Upd [] w w1) => slInsSL_any (w1.alloc (.cells #[sv k, slv y] 180)) lv (below ltSL l k) w1.heap.size (k, y) (hs.rows.upd (h.alloc _) (by simp)) hle hlen (by have := h.size; simp; omega) (Blk.new w1 _ [sv k, slv y]) (fun hx => by have := (hs.rows.ge _ hx).2; have := h.size; omega))
  have D0 := Lib.hid (show w.cell? ⟨g, 0, none⟩ = some lv from hs.tab.cell 0)
  obtain ⟨ao, n, co, rfl⟩ := hs.rows.slice_
  clear hs hr hk hc hn hbs hle
  generalize below ltSL l k = i at *
  go_enter Tryz.func108, Tryz.ntmps108
  go_wp2_with fail
  with_reducible refine HC.out.mono ?_
  rintro e w1 ⟨rfl, hu1⟩
  have d0 := hu1.cell D0.out (by simp)
  have HU1 := Lib.hid hu1
  go_wp2_with fail
  with_reducible refine (HD.out w1 HU1.out).mono ?_
  rintro e w2 ⟨v2, rfl, ho2, hu2, hb2⟩
  have hgl := HS.out.g_lv
  have hu1' := HU1.out.alloc (.cells #[sv k, slv y] 180)
  have f0 : w2.frozen? ⟨g, 0, none⟩ = false := ((HS.out.tab.upd hu1' (by simp)).upd hu2 hgl).frozen 0
  have d2 : w2.cell? ⟨g, 0, none⟩ = some (.slice ao n co) := hu2.cell (hu1'.cell D0.out (by simp)) hgl
  obtain ⟨ao2, n2, co2, rfl⟩ := ho2.slice_
  have hg2 : g ∉ blk (.slice ao2 n2 co2) := fun hx => by
    rcases hb2 g hx with q | q
    · exact hgl q
    · have := HS.out.tab.lt; have := hu1'.size; omega
  have HT := Lib.hid (show TBSL base (w2.setCell ⟨g, 0, none⟩ (.slice ao2 n2 co2)) g (.slice ao2 n2 co2) (l.take i ++ (k, y) :: l.drop i) from
    ⟨by simpa using ((HS.out.tab.upd hu1' (by simp)).upd hu2 hgl).set_ 0 (.slice ao2 n2 co2), ho2.upd ((Upd.refl [g] _).setCell _ _ (.inl (by simp))) (by intro x hx; simp; rintro rfl; exact hg2 hx), HS.out.gb⟩)
  have HU2 := Lib.hid (show Upd (g :: blk (.slice ao n co)) w (w2.setCell ⟨g, 0, none⟩ (.slice ao2 n2 co2)) from (hu1'.trans (T := g :: blk (.slice ao n co)) hu2 (by simp) (fun x hx => .inl (by simp [hx]))).setCell _ _ (.inl (by simp)))
  have HB2 := Lib.hid (show ∀ x ∈ blk (.slice ao2 n2 co2), x ∈ blk (.slice ao n co) ∨ w.heap.size ≤ x from fun x hx => (hb2 x hx).imp id (fun h => by have := hu1'.size; omega))
  clear ho2 hu1 hu2 hgl hg2 hb2 hu1'
  go_wp2_with fail
  go_ret
  exact ⟨rfl, _, HT.out, HU2.out, HB2.out⟩
theorem tSetSL_any (w : World) (k : ByteArray) (y : Sl) (hs : TBSL base w g lv l) (hr : Rising ltSL l) (hlen : l.length ≤ 100000) (hbs : base ≤ w.heap.size) (hk : True) :
    Calls Tryz.prog 108 #[.pointer (some ⟨g, 0, none⟩), sv k, slv y] w fun e w' => e = .returned (.bool (!isIn ltSL l k)) ∧ ∃ lv', TBSL base w' g lv' (tSet ltSL l k y) ∧ Upd (g :: blk lv) w w' ∧ (∀ x ∈ blk lv', x ∈ blk lv ∨ w.heap.size ≤ x) := by
  cases hn : isIn ltSL l k with
  | false =>
    refine (tSetSL_new w k y hs hr hlen hbs hk hn).mono ?_
    rintro e w' ⟨rfl, v', ht, hu, hb⟩
    exact ⟨rfl, v', by unfold tSet; rw [hn]; exact ht, hu, hb⟩
  | true =>
    refine (tSetSL_old w k y hs hr hlen hk hn).mono ?_
    rintro e w' ⟨rfl, ht, hu⟩
    refine ⟨rfl, lv, ?_, hu.mono (fun x hx => .inl (by simp [hx])), fun x hx => .inl hx⟩
    rw [tSet_in l k y hn]; exact ht
end
end Go.Proofs.YtmhojaiajhdlcaaGreat
namespace Go.Proofs.YtmhojaiajhdlcaaGreat
open Go.RowKit
set_option linter.unusedSimpArgs false
set_option linter.unusedVariables false
theorem infoKeySL : (Tryz.prog.info? 9).map (fun i => (i.zero, i.size, i.bytes)) = some (some (.string ⟨#[]⟩), 1, 16) := by kernel_rfl
theorem undKSL : Tryz.prog.underlying 148 = some (.slice 9) := by kernel_rfl
section
variable {base : Nat} {g : Nat} {lv : Value} {l : List (ByteArray × Sl)} {w w' : World}
set_option maxRecDepth 20000 in
set_option maxHeartbeats 400000 in
theorem tKeysSL_any (w : World) (hs : TBSL base w g lv l) (hlen : l.length ≤ 100000) :
    Calls Tryz.prog 119 #[.pointer (some ⟨g, 0, none⟩)] w fun e w' => ∃ v, e = .returned v ∧ Own sv w.heap.size 9 w' v (l.map (·.1)) ∧ Upd [] w w' := by
  have HS := Lib.hid hs
  obtain ⟨ao, co, rfl, hlc, hcm, hcell⟩ := hs.rows.rd rcSL_len
  have c0 : w.cell? ⟨g, 0, none⟩ = some (.slice ao l.length co) := hs.tab.cell 0
  have HC := Lib.hid hcell
  clear hs hcell hcm
  go_enter Tryz.func119, Tryz.ntmps119
  go_wp2_with fail
  go_loopw [3, 5, 11] (fun v p i wr => ∃ k : Nat, k ≤ l.length ∧ i = .int .i64 k ∧ Hid (Own sv w.heap.size 9 wr v ((l.take k).map (·.1))) ∧ Hid (Upd [] w wr)) (fun _ _ i _ => l.length - (intOf i).toNat)
  case atStart => exact ⟨0, Nat.zero_le _, rfl, World.ownsRow_nil _ _ _ _, Upd.refl _ _⟩
  case round =>
    obtain ⟨k, hk, rfl, ho, hu⟩ := hrel
    by_cases hlt : k < l.length
    · have HT : Hid ((l.take (k + 1)).map (·.1) = (l.take k).map (·.1) ++ [(nth l k).1]) := by unfold Hid; rw [List.take_succ_eq_append_getElem hlt, nth_get l k hlt, List.map_append]; rfl
      have hlen2 : ((l.take k).map (·.1)).length = k := by rw [List.length_map, List.length_take]; omega
      obtain ⟨bl, off, rfl, hc⟩ := HC.out (by intro h; simp [h] at hlt)
      obtain ⟨ao2, co2, rfl, -⟩ := ho.out.rd
      rw [hlen2] at ho ⊢
      have HLEN := Lib.hid hlen2
      have d0 : wr.cell? ⟨bl, off + k * 2, none⟩ = some (sv (nth l k).1) := hu.out.cell (hc _ hlt 0 (by omega)) (by simp)
      have d1 : wr.cell? ⟨bl, off + k * 2 + 1, none⟩ = some (slv (nth l k).2) := hu.out.cell (hc _ hlt 1 (by omega)) (by simp)
      have HKS : Hid (∃ ks, ks = (l.take k).map (·.1)) := ⟨_, rfl⟩
      generalize hks : (l.take k).map (·.1) = ks at *
      generalize (nth l k).1 = x at *
      generalize (nth l k).2 = y at *
      clear hlen2 hc hks HKS
      have q0 : (0 : Int) ≤ k := by omega
      have q1 : (k : Int) < l.length := by omega
      have HB : Hid ((ks.length + [x].length) * 16 ≤ 140737488355328) := by unfold Hid; rw [HLEN.out]; simp; omega
      have HL : Hid (ks.length + [x].length ≤ maxLen) := by unfold Hid maxLen; rw [HLEN.out]; simp; omega
      have hsz := hu.out.size
      go_wp2_with (at_builtin; go_must (refine wpList_app_of rfl _ _ rfl (.slice ao2 k co2) (.slice (some ⟨wr.heap.size + 1, 0, none⟩) 1 1) rfl rfl (run_app (c := sv) (fun _ => rfl) undKSL infoKeySL rfl _ _ ks [x] (ho.out.upd (((Upd.refl [] _).alloc _).alloc _) (by simp)) (Rd.lit [x] (by simp) rfl rfl (by decide) (by decide)) HB.out HL.out (by simp <;> omega)) ?_; rintro v1 w3 ⟨ho3, hu3, hk3⟩; have HO3 := Lib.hid ho3; have HU3 : Hid (Upd [] w w3) := (((hu.out.alloc _).alloc _).trans hu3 (by simp) (fun y hy => .inr (ho.out.ge y hy).1)); clear ho3 hu3 hk3))
      go_roundw
      case rel => exact ⟨k + 1, by omega, by go_num, by rw [HT.out]; exact HO3, HU3⟩
      case measure => simp [intOf]; omega
    · obtain rfl : k = l.length := by omega
      go_wp2_with fail
      go_ret
      exact ⟨_, rfl, by have := ho.out; rwa [List.take_length] at this, hu.out⟩
end
end Go.Proofs.YtmhojaiajhdlcaaGreat
namespace Go.Proofs.YtmhojaiajhdlcaaGreat
open Go.RowKit
set_option linter.unusedSimpArgs false
set_option linter.unusedVariables false
section
variable {base : Nat} {g : Nat} {lv : Value} {l : List (ByteArray × Sl)} {w w' : World}
set_option maxRecDepth 20000 in
set_option maxHeartbeats 400000 in
theorem tAtSL_neg (w : World) (i : Int) (hi64 : I64 i) (hs : TBSL base w g lv l) (hi : i < 0) :
    Calls Tryz.prog 106 #[.pointer (some ⟨g, 0, none⟩), .int .i64 i] w fun e w' => e = .returned (.tuple #[.string ⟨#[]⟩, .slice none 0 0, .bool false]) ∧ Upd [] w w' := by
  obtain ⟨ao, co, rfl, hlc, hcm, hcell⟩ := hs.rows.rd rcSL_len
  have d0 : w.cell? ⟨g, 0, none⟩ = some (.slice ao l.length co) := hs.tab.cell 0
  clear hs hcell hcm
  go_enter Tryz.func106, Tryz.ntmps106
  go_wp2_with fail
  go_quiet (fail)
  go_wp2_with fail
  go_ret3
  exact ⟨rfl, by first | exact Upd.refl [] _ | exact (Upd.refl [] _).alloc _ | exact ((Upd.refl [] _).alloc _).drewN _⟩
set_option maxRecDepth 20000 in
set_option maxHeartbeats 400000 in
theorem tAtSL_high (w : World) (i : Int) (hi64 : I64 i) (hs : TBSL base w g lv l) (hlen : l.length ≤ 100000) (hi : (l.length : Int) ≤ i) :
    Calls Tryz.prog 106 #[.pointer (some ⟨g, 0, none⟩), .int .i64 i] w fun e w' => e = .returned (.tuple #[.string ⟨#[]⟩, .slice none 0 0, .bool false]) ∧ Upd [] w w' := by
  obtain ⟨ao, co, rfl, hlc, hcm, hcell⟩ := hs.rows.rd rcSL_len
  have d0 : w.cell? ⟨g, 0, none⟩ = some (.slice ao l.length co) := hs.tab.cell 0
  have q1 : (0 : Int) ≤ i := by omega
  clear hs hcell hcm
  go_enter Tryz.func106, Tryz.ntmps106
  go_wp2_with fail
  go_quiet (fail)
  go_wp2_with fail
  go_ret3
  exact ⟨rfl, by first | exact Upd.refl [] _ | exact (Upd.refl [] _).alloc _ | exact ((Upd.refl [] _).alloc _).drewN _⟩
end
end Go.Proofs.YtmhojaiajhdlcaaGreat
namespace Go.Proofs.YtmhojaiajhdlcaaGreat
open Go.RowKit
set_option linter.unusedSimpArgs false
set_option linter.unusedVariables false
/-- A table at g with the rows l; F: its blocks, all made since w0. -/
structure TXSL (w0 w : World) (g : Nat) (F : List Nat) (l : List (ByteArray × Sl)) : Prop where
  ex : ∃ lv, F = g :: blk lv ∧ TBSL w0.heap.size w g lv l
  ris : Rising ltSL l
  old : Upd [] w0 w
section
variable {w0 w w' : World} {g : Nat} {F : List Nat} {l : List (ByteArray × Sl)}
theorem TXSL.ge (h : TXSL w0 w g F l) : ∀ x ∈ F, w0.heap.size ≤ x ∧ x < w.heap.size := by
  obtain ⟨lv, rfl, ht⟩ := h.ex
  exact ht.lt
theorem TXSL.upd (h : TXSL w0 w g F l) {S : List Nat} (hu : Upd S w w') (hs : ∀ x ∈ F, x ∉ S) (hS : ∀ x ∈ S, w0.heap.size ≤ x) : TXSL w0 w' g F l := by
  obtain ⟨lv, rfl, ht⟩ := h.ex
  exact ⟨⟨lv, rfl, ht.upd hu hs⟩, h.ris, h.old.trans hu (by simp) (fun x hx => .inr (hS x hx))⟩
theorem TXSL.upd0 (h : TXSL w0 w g F l) (hu : Upd [] w w') : TXSL w0 w' g F l := h.upd hu (by simp) (by simp)
theorem TXSL.next (h : TXSL w0 w g F l) (hu : Upd F w w') : Upd [] w0 w' := h.old.trans hu (by simp) (fun x hx => .inr (h.ge x hx).1)
theorem txSL_New (w0 w : World) (hu : Upd [] w0 w) :
    Calls Tryz.prog 63 #[] w fun e w' => ∃ g F, e = .returned (.pointer (some ⟨g, 0, none⟩)) ∧ TXSL w0 w' g F [] ∧ Upd [] w w' ∧ (∀ x ∈ F, w.heap.size ≤ x) := by
  refine (tNewSL_any w).mono ?_
  rintro e w' ⟨rfl, ht, hu'⟩
  exact ⟨_, _, rfl, ⟨⟨_, rfl, ⟨ht.tab, OwnN.nil _ _ _, hu.size⟩⟩, Rising.nil, hu.seq hu'⟩, hu', fun x hx => (ht.lt x hx).1⟩
theorem txSL_Set (k : ByteArray) (y : Sl) (r : Bool) (l' : List (ByteArray × Sl)) (hs : TXSL w0 w g F l) (hlen : l.length ≤ 100000) (hk : True) (h1 : (!isIn ltSL l k) = r) (h2 : tSet ltSL l k y = l') :
    Calls Tryz.prog 108 #[.pointer (some ⟨g, 0, none⟩), sv k, slv y] w fun e w' => e = .returned (.bool r) ∧ ∃ F', TXSL w0 w' g F' l' ∧ Upd F w w' ∧ (∀ x ∈ F', x ∈ F ∨ w.heap.size ≤ x) := by
  subst h1; subst h2
  have hold := hs.old
  obtain ⟨⟨lv, rfl, ht⟩, hr, -⟩ := hs
  refine (tSetSL_any w k y ht hr hlen hold.size hk).mono ?_
  rintro e w' ⟨rfl, lv', ht', hu, hb⟩
  refine ⟨rfl, g :: blk lv', ⟨⟨lv', rfl, ht'⟩, hr.set_ strOrd k y, hold.trans hu (by simp) (fun x hx => .inr (ht.lt x hx).1)⟩, hu, fun x hx => ?_⟩
  rcases List.mem_cons.1 hx with rfl | hx
  · exact .inl (by simp)
  · exact (hb x hx).imp (fun q => by simp [q]) id
theorem txSL_Del (k : ByteArray) (r : Bool) (l' : List (ByteArray × Sl)) (hs : TXSL w0 w g F l) (hlen : l.length ≤ 100000) (hk : True) (h1 : isIn ltSL l k = r) (h2 : tDel ltSL l k = l') :
    Calls Tryz.prog 112 #[.pointer (some ⟨g, 0, none⟩), sv k] w fun e w' => e = .returned (.bool r) ∧ ∃ F', TXSL w0 w' g F' l' ∧ Upd F w w' ∧ (∀ x ∈ F', x ∈ F ∨ w.heap.size ≤ x) := by
  subst h1; subst h2
  have hold := hs.old
  obtain ⟨⟨lv, rfl, ht⟩, hr, -⟩ := hs
  refine (tDelSL_any w k ht hr hlen hk).mono ?_
  rintro e w' ⟨rfl, lv', ht', hu, hb⟩
  refine ⟨rfl, g :: blk lv', ⟨⟨lv', rfl, ht'⟩, hr.del strOrd k, hold.trans hu (by simp) (fun x hx => .inr (ht.lt x hx).1)⟩, hu, fun x hx => ?_⟩
  rcases List.mem_cons.1 hx with rfl | hx
  · exact .inl (by simp)
  · exact (hb x hx).imp (fun q => by simp [q]) id
theorem txSL_Get (k : ByteArray) (y : Sl) (r : Bool) (hs : TXSL w0 w g F l) (hlen : l.length ≤ 100000) (hk : True) (h : tGet ltSL (⟨none, 0, 0⟩ : Sl) l k = (y, r)) :
    Calls Tryz.prog 66 #[.pointer (some ⟨g, 0, none⟩), sv k] w fun e w' => e = .returned (.tuple #[slv y, .bool r]) ∧ Upd [] w w' := by
  obtain ⟨⟨lv, rfl, ht⟩, hr, -⟩ := hs
  unfold tGet at h
  cases hn : isIn ltSL l k with
  | false => rw [hn] at h; injection h with h1 h2; subst h1; subst h2; exact tGetSL_no w k ht hr hlen hk hn
  | true => rw [hn] at h; injection h with h1 h2; subst h1; subst h2; exact tGetSL_ok w k ht hr hlen hk hn
theorem txSL_Keys (ks : List ByteArray) (hs : TXSL w0 w g F l) (hlen : l.length ≤ 100000) (h : l.map (·.1) = ks) :
    Calls Tryz.prog 119 #[.pointer (some ⟨g, 0, none⟩)] w fun e w' => ∃ v, e = .returned v ∧ Own sv w.heap.size 9 w' v ks ∧ Upd [] w w' := by
  subst h
  obtain ⟨⟨lv, rfl, ht⟩, hr, -⟩ := hs
  exact tKeysSL_any w ht hlen
theorem txSL_Len (n : Int) (hs : TXSL w0 w g F l) (h : (l.length : Int) = n) :
    Calls Tryz.prog 105 #[.pointer (some ⟨g, 0, none⟩)] w fun e w' => e = .returned (.int .i64 n) ∧ w = w' := by
  subst h
  obtain ⟨⟨lv, rfl, ht⟩, hr, -⟩ := hs
  exact tLenSL_any w ht
theorem txSL_At (i : Int) (k : ByteArray) (y : Sl) (r : Bool) (hi : I64 i) (hs : TXSL w0 w g F l) (hlen : l.length ≤ 100000) (h : tAt (⟨#[]⟩ : ByteArray) (⟨none, 0, 0⟩ : Sl) l i = (k, y, r)) :
    Calls Tryz.prog 106 #[.pointer (some ⟨g, 0, none⟩), .int .i64 i] w fun e w' => e = .returned (.tuple #[sv k, slv y, .bool r]) ∧ Upd [] w w' := by
  obtain ⟨⟨lv, rfl, ht⟩, hr, -⟩ := hs
  unfold tAt at h
  split at h
  · rename_i hd
    obtain ⟨j, rfl⟩ := Int.eq_ofNat_of_zero_le hd.1
    injection h with h1 h2; injection h2 with h2 h3; subst h1; subst h2; subst h3
    exact tAtSL_ok w j ht hlen (by omega)
  · rename_i hd
    injection h with h1 h2; injection h2 with h2 h3; subst h1; subst h2; subst h3
    by_cases h0 : i < 0
    · exact tAtSL_neg w i hi ht h0
    · exact tAtSL_high w i hi ht hlen (by omega)
end
end Go.Proofs.YtmhojaiajhdlcaaGreat
