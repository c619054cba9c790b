/- Texts of the proof, joined: slices. slices. A store into a list of the call's own. A store into one cell of a row of several cells, the list the call's own. Chapter 4's Get, At and Set at int,file. Chapter 4's At at int,file. Chapter 4's Set at int,file. A table of the call's own, at int,spoor/yard. Chapter 4's reads at int,int. slices. Chapter 4's Get, At and Least at int,int. Chapter 4's Set on a key that is there, at int,int. slices. A table of the call's own, at int,int: the contracts that the laws use. The book's Within. -/
import Derived.Test.YtmhdhnipljonlaaMy1
import Derived.Laws.Externs
import Derived.Lib.JoinLaws
import Derived.StillTailTactics
import Derived.Deep.RegionHeld3
import Derived.Deep.RegionWith
import Derived.Test.YtmhdhnipljonlaaRows
namespace Go.Proofs.Ytmhdhnipljonlaa
open Go.RowKit
set_option linter.unusedSimpArgs false
set_option linter.unusedVariables false
theorem rcIF_one : ∀ p, ∀ u ∈ rcIF p, u.oneCell' = true := by intro p u hu; simp [rcIF] at hu; rcases hu with rfl | rfl | rfl <;> rfl
theorem undIF : Try.prog.underlying 125 = some (.slice 132) := by kernel_rfl
section
variable {base : Nat} {g : Nat} {lv : Value} {l : List (Int × (ByteArray × Sl))} {w w' : World}
set_option maxRecDepth 20000 in
set_option maxHeartbeats 1000000 in
theorem slDelIF (w : World) (v : Value) (i : Nat) (hs : OwnN 3 rcIF base 132 w v l) (hi : i < l.length) (hlen : l.length ≤ 100000) :
    Calls Try.prog 84 #[v, .int .i64 (i : Int), .int .i64 ((i : Int) + 1)] w fun e w' => ∃ v', e = .returned v' ∧ OwnN 3 rcIF base 132 w' v' (l.take i ++ l.drop (i + 1)) ∧ Upd (blk v) w w' ∧ blk v' = blk v := by
  rcases hs.2 with ⟨-, h0⟩ | ⟨g, cap, cur0, rfl, -⟩
  · omega
  obtain ⟨-, hb, hc, hm, cur, hg, hsz, hp⟩ := hs.open_ rcIF_len
  obtain ⟨m, hlm⟩ : ∃ m, l.length = i + 1 + m := ⟨l.length - (i + 1), by omega⟩
  have hcl : ((l.drop (i + 1)).flatMap rcIF).length = m * 3 := by rw [flatMap_len rcIF_len, List.length_drop, hlm]; congr 1; omega
  have htl : ((l.take i).flatMap rcIF).length = i * 3 := by rw [flatMap_len rcIF_len, List.length_take]; congr 1; omega
  have htl' : ((l.take (i + 1)).flatMap rcIF).length = (i + 1) * 3 := by rw [flatMap_len rcIF_len, List.length_take]; congr 1; omega
  have hp1 : Piece cur 0 ((l.take i).flatMap rcIF) := by rw [flat_split rcIF l i] at hp; exact hp.left
  have hp2 : Piece cur ((i + 1) * 3) ((l.drop (i + 1)).flatMap rcIF) := by rw [flat_split rcIF l (i + 1)] at hp; have := hp.right; rwa [htl', Nat.zero_add] at this
  generalize hcs : (l.drop (i + 1)).flatMap rcIF = cs at *
  have hcap : (i + 1 + m) * 3 ≤ cur.size := by rw [hsz]; exact Nat.mul_le_mul_right 3 (by omega)
  have hfit : i * 3 + cs.length ≤ cur.size := by rw [hcl]; omega
  obtain ⟨A, hA, hsrc⟩ : ∃ A : Addr, (if cap = i + 1 then some (⟨g, 0, none⟩ : Addr) else some ⟨g, (i + 1) * 3, none⟩) = some A ∧ ∀ j u, cs[j]? = some u → w.cell? (A.add j) = some u := by
    by_cases h : cap = i + 1
    · refine ⟨⟨g, 0, none⟩, by simp [h], fun j u hu => ?_⟩
      have h0 : cs.length = 0 := by rw [hcl]; omega
      rw [List.length_eq_zero_iff.1 h0] at hu
      simp at hu
    · refine ⟨⟨g, (i + 1) * 3, none⟩, by simp [h], fun j u hu => ?_⟩
      rw [add_none]; exact hp2.cell hg j u hu
  have h1c : ∀ u ∈ cs, u.oneCell' = true := by rw [← hcs]; exact mem_flat_one rcIF_one _
  have HA := Lib.hid (fun ty c => run_app_lay (P := Try.prog) (ty := ty) (n := i) (m := m) (cap := cap) (c := c) (sz := 3) undIF (by kernel_rfl) w.drew hg hcl hsrc h1c (by omega) hfit)
  have hz := lay_sz cur (i * 3) cs hfit
  have k1 := hp1.stay (i * 3) cs hfit (.inl (by omega))
  have k2 := Piece.lay cur (i * 3) cs hfit
  generalize lay_ cur (i * 3) cs = cur1 at *
  have hg1 : (w.drew.setRow g cur1).heap[g]? = some (.cells cur1 132 (0, 0)) := setRow_heap w.drew g cur cur1 _ _ hg
  have hfit1 : (i + m) * 3 + 1 * 3 ≤ cur1.size := by rw [hz]; omega
  have q7 : i + 1 + m - (i + m) = 1 := by omega
  have hB := (fun ty c => run_clear_lay (P := Try.prog) (ty := ty) (c := c) (n := 1) undIF infoRowIF rfl (by intro u hu; simp [Value.cells] at hu; rcases hu with rfl | rfl | rfl <;> rfl) (w.drew.setRow g cur1) (by omega) hg1 hfit1)
  have HB : Hid (∀ ty c, (Builtin.clear_ #[125] ty #[.slice (some ⟨g, (i + m) * 3, none⟩) (i + 1 + m - (i + m)) c]).run Try.prog (w.drew.setRow g cur1) = .ok (.tuple #[]) ((w.drew.setRow g cur1).setRow g (lay_ cur1 ((i + m) * 3) (Builtin.zeroCells (Value.agg #[.int .i64 0, .string ⟨#[]⟩, .slice none 0 0]).cells 1).toList))) := fun ty c => by rw [q7]; exact hB ty c
  clear hB
  have HK := Lib.hid (show OwnN 3 rcIF base 132 ((w.drew.setRow g cur1).setRow g (lay_ cur1 ((i + m) * 3) (Builtin.zeroCells (Value.agg #[.int .i64 0, .string ⟨#[]⟩, .slice none 0 0]).cells 1).toList)) (.slice (some ⟨g, 0, none⟩) (i + m) cap) (l.take i ++ l.drop (i + 1)) from by
    have hzl : (Builtin.zeroCells (Value.agg #[.int .i64 0, .string ⟨#[]⟩, .slice none 0 0]).cells 1).toList.length = 3 := by rw [Array.length_toList, size_zeroCells]; rfl
    have hf2 : (i + m) * 3 + (Builtin.zeroCells (Value.agg #[.int .i64 0, .string ⟨#[]⟩, .slice none 0 0]).cells 1).toList.length ≤ cur1.size := by rw [hzl]; omega
    refine OwnN.of_piece rcIF_len _ (by simp; omega) hb (by simp; omega) hm (setRow_heap _ g cur1 _ _ _ hg1) (by rw [lay_sz _ _ _ hf2, hz, hsz]) ?_
    rw [List.flatMap_append, hcs]
    refine (k1.stay _ _ hf2 (.inl (by omega))).app ?_
    rw [htl, Nat.zero_add (i * 3)]
    exact k2.stay _ _ hf2 (.inl (by omega)))
  clear hs hp hp1 hp2 hsz hg hcl htl htl' hsrc h1c hfit hz k1 k2 hg1 hfit1 hcs hcap
  rw [hlm] at hlen hc ⊢
  have hwr : IntKind.i64.wrap ((i : Int) + 1) = (i : Int) + 1 := by rw [IntKind.wrap_i64]; omega
  have q1 : (0 : Int) ≤ (i : Int) + 1 := by omega
  have q2 : (i : Int) + 1 ≤ (i : Int) + 1 + (m : Int) := by omega
  have q3 : ((i : Int) + 1).toNat = i + 1 := by omega
  have q4 : i + 1 + m - (i + 1) = m := by omega
  have q5 : i ≤ cap := by omega
  have q6 : ¬ (cap = i + m) := by omega
  have q8 : i + m ≤ i + 1 + m := by omega
  have q9 : (i : Int) + (m : Int) ≤ (i : Int) + 1 + (m : Int) := by omega
  go_enter Try.func84, Try.ntmps84
  go_wp2_with fail
  go_region_law (refine step_app_eq rfl (.tmp 22) (.tmp 25) 125 rfl (.slice (some ⟨g, 0, none⟩) i cap) (.slice (some A) m (cap - (i + 1))) (by simp [Act.eval, Act.put]) (by simp [Act.eval, Act.put]) (HA.out _ _) ?_)
  go_wp2_with (with_reducible refine wpList_clear_eq rfl (.tmp 31) 125 rfl (.slice (some ⟨g, (i + m) * 3, none⟩) (i + 1 + m - (i + m)) (cap - (i + m))) rfl (HB.out _ _) ?_)
  go_ret
  exact ⟨_, rfl, HK.out, ((Upd.refl [g] w).drew.setRow g _ (.inl (by simp))).setRow g _ (.inl (by simp)), rfl⟩
set_option maxRecDepth 20000 in
set_option maxHeartbeats 400000 in
theorem tDelIF_no (w : World) (k : Int) (hs : TBIF base w g lv l) (hr : Rising ltIF l) (hlen : l.length ≤ 100000) (hk : I64 k) (hn : isIn ltIF l k = false) :
    Calls Try.prog 54 #[.pointer (some ⟨g, 0, none⟩), iv k] w fun e w' => e = .returned (.bool false) ∧ Upd [] w w' := by
  have hc := tFindIF_any w k hs hr hlen hk
  rw [hn] at hc
  have HC := Lib.hid hc
  clear hs hr hlen hk hc hn
  go_enter Try.func54, Try.ntmps54
  go_wp2_with fail
  with_reducible refine HC.out.mono ?_
  rintro e w1 ⟨rfl, hu1⟩
  go_wp2_with fail
  go_ret
  exact ⟨rfl, hu1⟩
set_option maxRecDepth 20000 in
set_option maxHeartbeats 400000 in
theorem tDelIF_yes (w : World) (k : Int) (hs : TBIF base w g lv l) (hr : Rising ltIF l) (hlen : l.length ≤ 100000) (hk : I64 k) (hn : isIn ltIF l k = true) :
    Calls Try.prog 54 #[.pointer (some ⟨g, 0, none⟩), iv k] w fun e w' => e = .returned (.bool true) ∧ ∃ lv', TBIF base w' g lv' (l.take (below ltIF l k) ++ l.drop (below ltIF l k + 1)) ∧ Upd (g :: blk lv) w w' ∧ blk lv' = blk lv := by
  have hc := tFindIF_any w k hs hr hlen hk
  rw [hn] at hc
  have HC := Lib.hid hc
  have HS := Lib.hid hs
  unfold isIn at hn
  have hlt := (of_decide_eq_true hn).1
  have HD := Lib.hid (fun w1 (h : Upd [] w w1) => slDelIF w1 lv (below ltIF l k) (hs.rows.upd h (by simp)) hlt hlen)
  have D0 := Lib.hid (show w.cell? ⟨g, 0, none⟩ = some lv from hs.tab.cell 0)
  obtain ⟨ao, n, co, rfl⟩ := hs.rows.slice_
  clear hs hr hk hc hn
  generalize below ltIF l k = i at *
  have hwr : IntKind.i64.wrap ((i : Int) + 1) = (i : Int) + 1 := by rw [IntKind.wrap_i64]; omega
  go_enter Try.func54, Try.ntmps54
  go_wp2_with fail
  with_reducible refine HC.out.mono ?_
  rintro e w1 ⟨rfl, hu1⟩
  have d0 := hu1.cell D0.out (by simp)
  have HU1 := Lib.hid hu1
  go_wp2_with fail
  with_reducible refine (HD.out w1 HU1.out).mono ?_
  rintro e w2 ⟨v2, rfl, ho2, hu2, hb2⟩
  have hgl := HS.out.g_lv
  have f0 : w2.frozen? ⟨g, 0, none⟩ = false := ((HS.out.tab.upd HU1.out (by simp)).upd hu2 hgl).frozen 0
  have d2 : w2.cell? ⟨g, 0, none⟩ = some (.slice ao n co) := hu2.cell d0 hgl
  obtain ⟨ao2, n2, co2, rfl⟩ := ho2.slice_
  have HT := Lib.hid (show TBIF base (w2.setCell ⟨g, 0, none⟩ (.slice ao2 n2 co2)) g (.slice ao2 n2 co2) (l.take i ++ l.drop (i + 1)) from
    ⟨by simpa using ((HS.out.tab.upd HU1.out (by simp)).upd hu2 hgl).set_ 0 (.slice ao2 n2 co2), ho2.upd ((Upd.refl [g] _).setCell _ _ (.inl (by simp))) (by rw [hb2]; intro x hx; simp; rintro rfl; exact hgl hx), HS.out.gb⟩)
  have HU2 := Lib.hid (show Upd (g :: blk (.slice ao n co)) w (w2.setCell ⟨g, 0, none⟩ (.slice ao2 n2 co2)) from (HU1.out.trans (T := g :: blk (.slice ao n co)) hu2 (by simp) (fun x hx => .inl (by simp [hx]))).setCell _ _ (.inl (by simp)))
  clear ho2 hu1 hu2 hgl
  go_wp2_with fail
  go_ret
  exact ⟨rfl, _, HT.out, HU2.out, hb2⟩
end
section
variable {base : Nat} {g : Nat} {lv : Value} {l : List (Int × (ByteArray × Sl))} {w w' : World}
theorem tDelIF_any (w : World) (k : Int) (hs : TBIF base w g lv l) (hr : Rising ltIF l) (hlen : l.length ≤ 100000) (hk : I64 k) :
    Calls Try.prog 54 #[.pointer (some ⟨g, 0, none⟩), iv k] w fun e w' => e = .returned (.bool (isIn ltIF l k)) ∧ ∃ lv', TBIF base w' g lv' (tDel ltIF l k) ∧ Upd (g :: blk lv) w w' ∧ (∀ x ∈ blk lv', x ∈ blk lv ∨ w.heap.size ≤ x) := by
  cases hn : isIn ltIF l k with
  | false =>
    refine (tDelIF_no w k hs hr hlen hk hn).mono ?_
    rintro e w' ⟨rfl, hu⟩
    exact ⟨rfl, lv, by unfold tDel; rw [hn]; exact hs.upd0 hu, hu.mono (by simp), fun x hx => .inl hx⟩
  | true =>
    refine (tDelIF_yes w k hs hr hlen hk hn).mono ?_
    rintro e w' ⟨rfl, v', ht, hu, hb⟩
    exact ⟨rfl, v', by unfold tDel; rw [hn]; exact ht, hu, fun x hx => .inl (by rw [← hb]; exact hx)⟩
end
end Go.Proofs.Ytmhdhnipljonlaa
namespace Go.Proofs.Ytmhdhnipljonlaa
open Go.RowKit
set_option linter.unusedSimpArgs false
set_option linter.unusedVariables false
section
variable {base : Nat} {g : Nat} {lv : Value} {l : List (Int × (ByteArray × Sl))} {w w' : World}
set_option maxRecDepth 20000 in
set_option maxHeartbeats 1000000 in
theorem slInsIF_end (w : World) (v : Value) (vb : Nat) (x : Int × (ByteArray × Sl)) (hs : OwnN 3 rcIF base 132 w v l) (hlen : l.length ≤ 100000) (hbs : base ≤ w.heap.size) (hv : Blk w vb 132 (rcIF x)) :
    Calls Try.prog 83 #[v, .int .i64 (l.length : Int), .slice (some ⟨vb, 0, none⟩) 1 1] w fun e w' => ∃ v', e = .returned v' ∧ OwnN 3 rcIF base 132 w' v' (l ++ [x]) ∧ Upd (blk v) w w' ∧ (∀ y ∈ blk v', y ∈ blk v ∨ w.heap.size ≤ y) := by
  have hrd : RdN 3 rcIF w (.slice (some ⟨vb, 0, none⟩) 1 1) [x] := ⟨_, 1, rfl, by simp, by simp [maxLen], fun _ => ⟨vb, 0, rfl, fun j hj i hi => by
    simp at hj; subst hj
    rw [hv.cell]; simp [nth_cons_zero]⟩⟩
  have HR := Lib.hid (fun ty => run_appN (P := Try.prog) (ty := ty) rcIF_len (by decide) rcIF_one undIF infoRowIF rfl v _ l [x] hs hrd (by simp; omega) (by simp [maxLen]; omega) hbs)
  obtain ⟨ao, n, co, rfl⟩ := hs.slice_
  have hn : n = l.length ∧ l.length ≤ co := by
    rcases hs.2 with ⟨he, h0⟩ | ⟨_, _, _, he, _, _, hc, _⟩
    · injection he with e1 e2 e3; subst e2; subst e3; exact ⟨h0.symm, by omega⟩
    · injection he with e1 e2 e3; subst e2; subst e3; exact ⟨rfl, hc⟩
  obtain ⟨rfl, hco⟩ := hn
  clear hs hrd hv
  have hd : co = l.length ∨ ¬ co = l.length := by omega
  rcases hd with hd | hd
  all_goals
    go_enter Try.func83, Try.ntmps83
    go_wp2_with (at_builtin; refine wpList_app_of rfl _ _ rfl (.slice ao l.length co) (.slice (some ⟨vb, 0, none⟩) 1 1) rfl rfl (HR.out _) ?_; rintro v1 w3 ⟨ho3, hu3, hb3⟩; have HO3 := Lib.hid ho3; obtain ⟨a1, n1, c1, rfl⟩ := ho3.slice_; clear ho3)
    go_ret
    exact ⟨_, rfl, HO3.out, hu3, hb3⟩
theorem ovlIF (w : World) (vb gb vo go_ la ca lb cb kA kB : Nat) (tA tB : TypeId) (hne : vb ≠ gb) (hsa : w.shape? vb = some (tA, kA)) (hsb : w.shape? gb = some (tB, kB)) (hkB : kB ≠ 0) (hfa : w.frozen? ⟨vb, vo, none⟩ = false) (hfe : w.frozen? ⟨vb, kA, none⟩ = false) :
    (callFunc 96 #[.slice (some ⟨vb, vo, none⟩) la ca, .slice (some ⟨gb, go_, none⟩) lb cb]).run Try.prog w = .ok (.value (.bool false)) w := by
  have hz : ∀ w, (sizeOf 132).run Try.prog w = .ok 3 w := by
    intro w
    obtain ⟨i, h1, h2, h3, h4⟩ := info_parts infoRowIF
    simp [sizeOf, typeInfo, h1, h3]
  rw [run_callFunc_extern Try.func96 (by kernel_rfl) (by kernel_rfl) (by kernel_rfl) (e := Extern.SlicesOverlaps.overlaps #[125, 125] #[4]) (by kernel_rfl),
    Lib.run_overlaps_apart w 125 4 132 undIF 3 hz ⟨vb, vo, none⟩ ⟨gb, go_, none⟩ la ca lb cb hne tA tB kA kB hsa hsb hkB hfa hfe]
  rfl
set_option maxRecDepth 20000 in
set_option maxHeartbeats 2000000 in
theorem slInsIF_shift (w : World) (g n cap i : Nat) (vb : Nat) (x : Int × (ByteArray × Sl)) (hs : OwnN 3 rcIF base 132 w (.slice (some ⟨g, 0, none⟩) n cap) l) (hi : i < l.length) (hroom : l.length + 1 ≤ cap) (hlen : l.length ≤ 100000) (hv : Blk w vb 132 (rcIF x)) (hvg : vb ≠ g) :
    Calls Try.prog 83 #[.slice (some ⟨g, 0, none⟩) n cap, .int .i64 (i : Int), .slice (some ⟨vb, 0, none⟩) 1 1] w fun e w' => ∃ v', e = .returned v' ∧ OwnN 3 rcIF base 132 w' v' (l.take i ++ x :: l.drop i) ∧ Upd [g] w w' ∧ (∀ y ∈ blk v', y ∈ [g] ∨ w.heap.size ≤ y) := by
  obtain ⟨rfl, hb, hc, hm, cur, hg, hsz, hp⟩ := hs.open_ rcIF_len
  have hdl : ((l.drop i).flatMap rcIF).length = (l.length - i) * 3 := by rw [flatMap_len rcIF_len, List.length_drop]
  have htl : ((l.take i).flatMap rcIF).length = i * 3 := by rw [flatMap_len rcIF_len, List.length_take]; congr 1; omega
  have hp1 : Piece cur 0 ((l.take i).flatMap rcIF) := by rw [flat_split rcIF l i] at hp; exact hp.left
  have hp2 : Piece cur (i * 3) ((l.drop i).flatMap rcIF) := by rw [flat_split rcIF l i] at hp; have := hp.right; rwa [htl, Nat.zero_add] at this
  have h1c : ∀ u ∈ (l.drop i).flatMap rcIF, u.oneCell' = true := mem_flat_one rcIF_one _
  generalize hcs : (l.drop i).flatMap rcIF = cs at *
  have hcap : (l.length + 1) * 3 ≤ cur.size := by rw [hsz]; exact Nat.mul_le_mul_right 3 (by omega)
  have hfit : (i + 1) * 3 + cs.length ≤ cur.size := by rw [hdl]; omega
  have hA := (fun ty dc sc => run_copy_lay (P := Try.prog) (sz := 3) (dT := 125) (sT := 125) (ty := ty) (dLen := l.length + 1 - (i + 1)) (dCap := dc) (a := ⟨g, i * 3, none⟩) (sLen := l.length + 1 - i) (sCap := sc) (k := l.length - i) undIF (by kernel_rfl) w.drew hg (by simp only [Nat.min_def]; split <;> omega) hdl (fun j u hu => by rw [add_none]; exact hp2.cell hg j u hu) hfit h1c)
  have hz := lay_sz cur ((i + 1) * 3) cs hfit
  have k1 := hp1.stay ((i + 1) * 3) cs hfit (.inl (by omega))
  have k2 := Piece.lay cur ((i + 1) * 3) cs hfit
  generalize lay_ cur ((i + 1) * 3) cs = cur1 at *
  have hg1 : (w.drew.setRow g cur1).heap[g]? = some (.cells cur1 132 (0, 0)) := setRow_heap w.drew g cur cur1 _ _ hg
  have hu1 : Upd [g] w (w.drew.setRow g cur1) := (Upd.refl [g] w).drew.setRow g _ (.inl (by simp))
  have hv1 := hv.upd hu1 (by simpa using hvg)
  obtain ⟨W1, hW1⟩ : ∃ W1, W1 = w.drew.setRow g cur1 := ⟨_, rfl⟩
  rw [← hW1] at hA hg1 hu1 hv1
  have hfx : i * 3 + (rcIF x).length ≤ cur1.size := by rw [hz, rcIF_len]; omega
  have hB := (fun ty dc => run_copy_lay (P := Try.prog) (sz := 3) (dT := 125) (sT := 125) (ty := ty) (dLen := l.length + 1 - i) (dCap := dc) (a := ⟨vb, 0, none⟩) (sLen := 1) (sCap := 1) (k := 1) (cs := rcIF x) undIF (by kernel_rfl) W1 hg1 (by simp only [Nat.min_def]; split <;> omega) rfl (fun j u hu => by rw [add_none, hv1.cell, Nat.zero_add]; exact hu) hfx (rcIF_one x))
  have hz2 := lay_sz cur1 (i * 3) (rcIF x) hfx
  have m1 := k1.stay (i * 3) (rcIF x) hfx (.inl (by omega))
  have m2 := Piece.lay cur1 (i * 3) (rcIF x) hfx
  have m3 := k2.stay (i * 3) (rcIF x) hfx (.inr (by rw [rcIF_len]; omega))
  generalize lay_ cur1 (i * 3) (rcIF x) = cur2 at *
  have HK := Lib.hid (show OwnN 3 rcIF base 132 (W1.setRow g cur2) (.slice (some ⟨g, 0, none⟩) (l.length + 1) cap) (l.take i ++ x :: l.drop i) from by
    refine OwnN.of_piece rcIF_len cur2 (by simp; omega) hb (by simp; omega) hm (setRow_heap _ g cur1 _ _ _ hg1) (by rw [hz2, hz, hsz]) ?_
    rw [List.flatMap_append, List.flatMap_cons, hcs]
    refine m1.app ?_
    rw [htl, Nat.zero_add (i * 3)]
    refine m2.app ?_
    rw [rcIF_len, show i * 3 + 3 = (i + 1) * 3 by omega]
    exact m3)
  have HU := Lib.hid (show Upd [g] w (W1.setRow g cur2) from hu1.setRow g _ (.inl (by simp)))
  obtain ⟨W2, hW2⟩ : ∃ W2, W2 = W1.setRow g cur2 := ⟨_, rfl⟩
  rw [← hW2] at hB HK HU
  have HA := Lib.hid hA
  have HB := Lib.hid hB
  have HO := Lib.hid (fun lb cb => ovlIF w vb g 0 ((i + 1) * 3) 1 1 lb cb (rcIF x).toArray.size cur.size 132 132 hvg (by unfold World.shape?; rw [show w.heap[vb]? = _ from hv]) (by unfold World.shape?; rw [hg]) (by omega) (hv.frozen 0) (hv.frozen _))
  clear hs hp hp1 hp2 hsz hg hdl htl h1c hfit hz k1 k2 hg1 hcs hcap hA hB hv hv1 hu1 hfx hz2 m1 m2 m3 hW1 hW2
  have HL := Lib.hid (show True from trivial)
  generalize l.length = n at *
  have hc63 : cap ≤ 9223372036854775807 := by unfold maxLen at hm; omega
  have hz1 : ¬ ((i : Int) = (n : Int)) := by omega
  have hw1 : IntKind.i64.wrap ((i : Int) + 1) = (i : Int) + 1 := by rw [IntKind.wrap_i64]; omega
  have hw2 : IntKind.i64.wrap ((n : Int) + 1) = (n : Int) + 1 := by rw [IntKind.wrap_i64]; omega
  have b1 : (0 : Int) ≤ (i : Int) + 1 := by omega
  have b2 : (0 : Int) ≤ (n : Int) + 1 := by omega
  have t1 : ((i : Int) + 1).toNat = i + 1 := by omega
  have t2 : ((n : Int) + 1).toNat = n + 1 := by omega
  have b3 : ¬ (cap = i + 1) := by omega
  have b4 : ¬ (cap = i) := by omega
  have b5 : (i : Int) + 1 ≤ (n : Int) + 1 := by omega
  have b6 : (i : Int) ≤ (n : Int) + 1 := by omega
  have b7 : (n : Int) + 1 ≤ (cap : Int) := by omega
  have b8 : i ≤ n := by omega
  go_enter Try.func83, Try.ntmps83
  go_wp2_with (simp only [HO.out])
  go_region_law (refine step_copy_eq rfl (.tmp 73) (.tmp 76) 125 125 rfl (.slice (some ⟨g, (i + 1) * 3, none⟩) (n + 1 - (i + 1)) (cap - (i + 1))) (.slice (some ⟨g, i * 3, none⟩) (n + 1 - i) (cap - i)) (by simp [Act.eval, Act.put]) (by simp [Act.eval, Act.put]) (HA.out _ _ _) ?_)
  go_wp2_with (with_reducible refine wpList_copy_eq rfl (.tmp 80) (.tmp 81) 125 125 rfl (.slice (some ⟨g, i * 3, none⟩) (n + 1 - i) (cap - i)) (.slice (some ⟨vb, 0, none⟩) 1 1) rfl rfl (HB.out _ _) ?_)
  go_ret
  exact ⟨_, rfl, HK.out, HU.out, fun y hy => .inl (by simpa [blk] using hy)⟩
set_option maxRecDepth 20000 in
set_option maxHeartbeats 2000000 in
theorem slInsIF_grow (w : World) (g n cap i : Nat) (vb : Nat) (x : Int × (ByteArray × Sl)) (hs : OwnN 3 rcIF base 132 w (.slice (some ⟨g, 0, none⟩) n cap) l) (hi : i < l.length) (hroom : cap < l.length + 1) (hlen : l.length ≤ 100000) (hbs : base ≤ w.heap.size) (hv : Blk w vb 132 (rcIF x)) :
    Calls Try.prog 83 #[.slice (some ⟨g, 0, none⟩) n cap, .int .i64 (i : Int), .slice (some ⟨vb, 0, none⟩) 1 1] w fun e w' => ∃ v', e = .returned v' ∧ OwnN 3 rcIF base 132 w' v' (l.take i ++ x :: l.drop i) ∧ Upd [g] w w' ∧ (∀ y ∈ blk v', y ∈ [g] ∨ w.heap.size ≤ y) := by
  obtain ⟨rfl, hb, hc, hm, cur, hg, hsz, hp⟩ := hs.open_ rcIF_len
  obtain ⟨i0, hi0, hz0, hzs, hzb⟩ := info_parts infoRowIF
  have hdl : ((l.drop i).flatMap rcIF).length = (l.length - i) * 3 := by rw [flatMap_len rcIF_len, List.length_drop]
  have htl : ((l.take i).flatMap rcIF).length = i * 3 := by rw [flatMap_len rcIF_len, List.length_take]; congr 1; omega
  have hp1 : Piece cur 0 ((l.take i).flatMap rcIF) := by rw [flat_split rcIF l i] at hp; exact hp.left
  have hp2 : Piece cur (i * 3) ((l.drop i).flatMap rcIF) := by rw [flat_split rcIF l i] at hp; have := hp.right; rwa [htl, Nat.zero_add] at this
  have h1c : ∀ u ∈ (l.drop i).flatMap rcIF, u.oneCell' = true := mem_flat_one rcIF_one _
  have hgw : g < w.heap.size := (Array.getElem?_eq_some_iff.1 hg).1
  have hold : (Builtin.firstCells i0.size i (.slice (some ⟨g, 0, none⟩) i cap)).run Try.prog w.drew = .ok ((l.take i).flatMap rcIF).toArray w.drew := by
    rw [hzs]
    exact run_firstCells_some w.drew 3 i ⟨g, 0, none⟩ i cap _ htl (fun j u hu => by rw [add_none]; exact hp1.cell hg j u hu)
  have hkk : (l.length : Int) + 1 - (i : Int) = ((l.length + 1 - i : Nat) : Int) := by omega
  have hik : i + (l.length + 1 - i) = l.length + 1 := by omega
  have u3 : Try.prog.underlying 3 = some (.int .i64) := by kernel_rfl
  have hrz := fun ty => Lib.run_append_grow_zeros (P := Try.prog) w 125 3 ty 132 i0 _ .i64 .i64 undIF u3 hi0 hz0 (some ⟨g, 0, none⟩) i cap _ hold (l.length + 1 - i) (by omega) (by omega) (by omega) (by omega) (by rw [hzb]; omega) (by rw [hzb, hik]; exact growslice_fits (by omega) (by omega))
  rw [hik] at hrz
  have hGe := grownCap_ge w (l.length + 1) cap 132
  have hGm : grownCap w (l.length + 1) cap 132 ≤ maxLen := grownCap_le_maxLen w (l.length + 1) cap _ (by unfold maxLen; omega)
  generalize grownCap w (l.length + 1) cap 132 = G at *
  obtain ⟨ROW, hROW⟩ : ∃ ROW : Array Value, ROW = ((l.take i).flatMap rcIF).toArray ++ Builtin.zeroCells (Value.agg #[.int .i64 0, .string ⟨#[]⟩, .slice none 0 0]).cells (l.length + 1 - i) ++ Builtin.zeroCells (Value.agg #[.int .i64 0, .string ⟨#[]⟩, .slice none 0 0]).cells (G - (l.length + 1)) := ⟨_, rfl⟩
  rw [← hROW] at hrz
  have hzz : (Value.agg #[.int .i64 0, .string ⟨#[]⟩, .slice none 0 0]).cells.size = 3 := rfl
  have hRs : ROW.size = G * 3 := by
    rw [hROW]
    simp only [Array.size_append, List.size_toArray, size_zeroCells, hzz, htl]
    omega
  have hRp : Piece ROW 0 ((l.take i).flatMap rcIF) := fun j u hu => by
    have hj := (List.getElem?_eq_some_iff.1 hu).1
    rw [hROW, Array.append_assoc, Array.getElem?_append_left (by simp only [Array.size_append, List.size_toArray]; omega), Nat.zero_add]
    simpa using hu
  clear hROW hold hp1
  obtain ⟨W1, hW1⟩ : ∃ W1, W1 = w.drew.alloc (.cells ROW 132) := ⟨_, rfl⟩
  rw [← hW1] at hrz
  have hg1 : W1.heap[w.heap.size]? = some (.cells ROW 132 (0, 0)) := by rw [hW1]; exact heap_alloc_new w.drew _
  have hu1 : Upd [] w W1 := by rw [hW1]; exact (Upd.refl [] w).drew.alloc _
  have hv1 := hv.upd hu1 (by simp)
  have hgg := hu1.heap hg (by simp)
  generalize hgn : w.heap.size = gn at *
  have hgne : g ≠ gn := by omega
  have hvw : vb < gn := by rw [← hgn]; exact hv.lt
  have hvne : vb ≠ gn := by omega
  have hfx : i * 3 + (rcIF x).length ≤ ROW.size := by rw [hRs, rcIF_len]; omega
  have hB := (fun ty dc => run_copy_lay (P := Try.prog) (sz := 3) (dT := 125) (sT := 125) (ty := ty) (dLen := l.length + 1 - i) (dCap := dc) (a := ⟨vb, 0, none⟩) (sLen := 1) (sCap := 1) (k := 1) (cs := rcIF x) undIF (by kernel_rfl) W1 hg1 (by simp only [Nat.min_def]; split <;> omega) rfl (fun j u hu => by rw [add_none, hv1.cell, Nat.zero_add]; exact hu) hfx (rcIF_one x))
  have hz2 := lay_sz ROW (i * 3) (rcIF x) hfx
  have m1 := hRp.stay (i * 3) (rcIF x) hfx (.inl (by omega))
  have m2 := Piece.lay ROW (i * 3) (rcIF x) hfx
  generalize lay_ ROW (i * 3) (rcIF x) = cur1 at *
  have hg2 : (W1.setRow gn cur1).heap[gn]? = some (.cells cur1 132 (0, 0)) := setRow_heap W1 gn ROW cur1 _ _ hg1
  have hu2 : Upd [gn] W1 (W1.setRow gn cur1) := (Upd.refl [gn] W1).setRow gn _ (.inl (by simp))
  have hgg2 := hu2.heap hgg (by simpa using hgne)
  obtain ⟨W2, hW2⟩ : ∃ W2, W2 = W1.setRow gn cur1 := ⟨_, rfl⟩
  rw [← hW2] at hB hg2 hu2 hgg2
  generalize hcs : (l.drop i).flatMap rcIF = cs at *
  have hfit : (i + 1) * 3 + cs.length ≤ cur1.size := by rw [hdl, hz2, hRs]; omega
  have hA := (fun ty dc sc => run_copy_lay (P := Try.prog) (sz := 3) (dT := 125) (sT := 125) (ty := ty) (dLen := l.length + 1 - (i + 1)) (dCap := dc) (a := ⟨g, i * 3, none⟩) (sLen := l.length - i) (sCap := sc) (k := l.length - i) undIF (by kernel_rfl) W2.drew hg2 (by simp only [Nat.min_def]; split <;> omega) hdl (fun j u hu => by rw [add_none]; exact hp2.cell hgg2 j u hu) hfit h1c)
  have hz3 := lay_sz cur1 ((i + 1) * 3) cs hfit
  have k1 := m1.stay ((i + 1) * 3) cs hfit (.inl (by omega))
  have k2 := m2.stay ((i + 1) * 3) cs hfit (.inl (by rw [rcIF_len]; omega))
  have k3 := Piece.lay cur1 ((i + 1) * 3) cs hfit
  generalize lay_ cur1 ((i + 1) * 3) cs = cur2 at *
  have HK := Lib.hid (show OwnN 3 rcIF base 132 (W2.drew.setRow gn cur2) (.slice (some ⟨gn, 0, none⟩) (l.length + 1) G) (l.take i ++ x :: l.drop i) from by
    refine OwnN.of_piece rcIF_len cur2 (by simp; omega) hbs (by simp; omega) hGm (setRow_heap W2.drew gn cur1 _ _ _ hg2) (by rw [hz3, hz2, hRs]) ?_
    rw [List.flatMap_append, List.flatMap_cons, hcs]
    refine k1.app ?_
    rw [htl, Nat.zero_add (i * 3)]
    refine k2.app ?_
    rw [rcIF_len, show i * 3 + 3 = (i + 1) * 3 by omega]
    exact k3)
  have HU := Lib.hid (show Upd [g] w (W2.drew.setRow gn cur2) from (((hu1.trans (T := [g]) hu2 (by simp) (fun y hy => .inr (by simp at hy; omega))).drew).setRow gn _ (.inr (by omega))))
  obtain ⟨W3, hW3⟩ : ∃ W3, W3 = W2.drew.setRow gn cur2 := ⟨_, rfl⟩
  rw [← hW3] at hA HK HU
  have HA := Lib.hid hA
  have HB := Lib.hid hB
  have hrz' : ∀ ty, (Builtin.append_ #[125, 3] ty #[.slice (some ⟨g, 0, none⟩) i cap, .int .i64 ((l.length : Int) + 1 - (i : Int))]).run Try.prog w = .ok (.slice (some ⟨gn, 0, none⟩) (l.length + 1) G) W1 := fun ty => by rw [hkk]; exact hrz ty
  have HZ := Lib.hid hrz'
  have HG := Lib.hid hgn
  clear hs hp hp2 hsz hg hdl htl h1c hfit k1 k2 k3 hg1 hg2 hcs hA hB hv hv1 hu1 hu2 hfx hz2 hz3 m1 m2 hW1 hW2 hW3 hrz hrz' hgg hgg2 hRs hRp hgn hgw hi0 hz0 hzs hzb hkk hik hzz hgne hvw hvne
  generalize l.length = n at *
  obtain rfl : cap = n := by omega
  have hc63 : G ≤ 9223372036854775807 := by unfold maxLen at hGm; omega
  have hz1 : ¬ ((i : Int) = (cap : Int)) := by omega
  have hw1 : IntKind.i64.wrap ((i : Int) + 1) = (i : Int) + 1 := by rw [IntKind.wrap_i64]; omega
  have hw2 : IntKind.i64.wrap ((cap : Int) + 1) = (cap : Int) + 1 := by rw [IntKind.wrap_i64]; omega
  have hw3 : IntKind.i64.wrap ((cap : Int) + 1 - (i : Int)) = (cap : Int) + 1 - (i : Int) := by rw [IntKind.wrap_i64]; omega
  have b1 : (0 : Int) ≤ (i : Int) + 1 := by omega
  have b2 : (0 : Int) ≤ (cap : Int) + 1 := by omega
  have t1 : ((i : Int) + 1).toNat = i + 1 := by omega
  have t2 : ((cap : Int) + 1).toNat = cap + 1 := by omega
  have b3 : ¬ (G = i + 1) := by omega
  have b4 : ¬ (G = i) := by omega
  have b5 : (i : Int) + 1 ≤ (cap : Int) + 1 := by omega
  have b6 : (i : Int) ≤ (cap : Int) + 1 := by omega
  have b7 : ¬ (cap = i) := by omega
  have b8 : i ≤ cap := by omega
  go_enter Try.func83, Try.ntmps83
  go_wp2_with (first
    | (at_builtin; refine wpList_app_eq rfl _ _ 125 3 rfl (.slice (some ⟨g, 0, none⟩) i cap) (.int .i64 ((cap : Int) + 1 - (i : Int))) rfl rfl (HZ.out _) ?_)
    | (with_reducible refine wpList_copy_eq rfl (.tmp 43) (.tmp 44) 125 125 rfl (.slice (some ⟨gn, i * 3, none⟩) (cap + 1 - i) (G - i)) (.slice (some ⟨vb, 0, none⟩) 1 1) rfl rfl (HB.out _ _) ?_))
  go_region_law (refine step_copy_eq rfl (.tmp 50) (.tmp 53) 125 125 rfl (.slice (some ⟨gn, (i + 1) * 3, none⟩) (cap + 1 - (i + 1)) (G - (i + 1))) (.slice (some ⟨g, i * 3, none⟩) (cap - i) (cap - i)) (by simp [Act.eval, Act.put]) (by simp [Act.eval, Act.put]) (HA.out _ _ _) ?_)
  go_wp2_with fail
  go_ret
  exact ⟨_, rfl, HK.out, HU.out, fun y hy => .inr (by simp [blk] at hy; have := HG.out; omega)⟩
theorem slInsIF_any (w : World) (v : Value) (i : Nat) (vb : Nat) (x : Int × (ByteArray × Sl)) (hs : OwnN 3 rcIF base 132 w v l) (hi : i ≤ l.length) (hlen : l.length ≤ 100000) (hbs : base ≤ w.heap.size) (hv : Blk w vb 132 (rcIF x)) (hvg : vb ∉ blk v) :
    Calls Try.prog 83 #[v, .int .i64 (i : Int), .slice (some ⟨vb, 0, none⟩) 1 1] w fun e w' => ∃ v', e = .returned v' ∧ OwnN 3 rcIF base 132 w' v' (l.take i ++ x :: l.drop i) ∧ Upd (blk v) w w' ∧ (∀ y ∈ blk v', y ∈ blk v ∨ w.heap.size ≤ y) := by
  by_cases he : i = l.length
  · subst he
    rw [List.take_length, List.drop_length]
    exact slInsIF_end w v vb x hs hlen hbs hv
  · rcases hs.2 with ⟨-, h0⟩ | ⟨g, cap, cur, rfl, -⟩
    · omega
    · by_cases hc : l.length + 1 ≤ cap
      · exact slInsIF_shift w g l.length cap i vb x hs (by omega) hc hlen hv (by simpa [blk] using hvg)
      · exact slInsIF_grow w g l.length cap i vb x hs (by omega) (by omega) hlen hbs hv
end
end Go.Proofs.Ytmhdhnipljonlaa
namespace Go.Proofs.Ytmhdhnipljonlaa
open Go.RowKit
set_option linter.unusedSimpArgs false
set_option linter.unusedVariables false
theorem Own.set_ {α : Type} {c : α → Value} {base : Nat} {e : TypeId} {w : World} {g n cap : Nat} {l : List α} (h : Own c base e w (.slice (some ⟨g, 0, none⟩) n cap) l) (k : Nat) (hk : k < l.length) (y : α) :
    Own c base e (w.setCell ⟨g, k, none⟩ (c y)) (.slice (some ⟨g, 0, none⟩) n cap) (l.set k y) := by
  obtain ⟨h1, h2⟩ := h
  rcases h2 with ⟨he, _⟩ | ⟨g', cap', cur, he, hb, hg, hc, hm, hs, ht⟩
  · simp at he
  · injection he with e1 e2 e3
    injection e1 with e1; injection e1 with e1
    subst e1; subst e2; subst e3
    refine ⟨by simp, .inr ⟨g, cap, cur.setIfInBounds k (c y), by simp, hb, ?_, by simpa using hc, hm, by simpa using hs, ?_⟩⟩
    · exact heap_setCell_same w g k cur e (c y) hg
    · rw [List.length_set, Array.toList_setIfInBounds, List.take_set, ht, List.map_set]
theorem Own.form0 {α : Type} {c : α → Value} {base : Nat} {e : TypeId} {w : World} {v : Value} {l : List α} (h : Own c base e w v l) (hne : l ≠ []) : ∃ g cap, v = .slice (some ⟨g, 0, none⟩) l.length cap ∧ base ≤ g ∧ l.length ≤ cap ∧ cap ≤ maxLen := by
  obtain ⟨g, k, ys, h1, h2, h3, h4, h5⟩ := h.form hne
  exact ⟨g, k, h1, h2, h4, h5⟩
theorem Own.cell {α : Type} [Inhabited α] {c : α → Value} {base : Nat} {e : TypeId} {w : World} {g n cap : Nat} {l : List α} (h : Own c base e w (.slice (some ⟨g, 0, none⟩) n cap) l) (k : Nat) (hk : k < l.length) : w.cell? ⟨g, k, none⟩ = some (c (nth l k)) := by
  obtain ⟨a', cap', he, _, _, h3⟩ := h.rd
  injection he with e1 e2 e3
  obtain ⟨b, off, hb, hc⟩ := h3 (fun q => by rw [q] at hk; simp at hk)
  rw [← e1] at hb; injection hb with hb; injection hb with hb1 hb2
  subst hb1; subst hb2
  have := hc k hk
  rwa [Nat.zero_add] at this
theorem Own.frozen {α : Type} [Inhabited α] {c : α → Value} {base : Nat} {e : TypeId} {w : World} {g n cap : Nat} {l : List α} (h : Own c base e w (.slice (some ⟨g, 0, none⟩) n cap) l) (k : Nat) : w.frozen? ⟨g, k, none⟩ = false := by
  obtain ⟨h1, h2⟩ := h
  rcases h2 with ⟨he, _⟩ | ⟨g', cap', cur, he, hb, hg, hc, hm, hs, ht⟩
  · simp at he
  · injection he with e1 e2 e3
    injection e1 with e1; injection e1 with e1
    subst e1
    exact frozen_of_row w g k cur e hg
end Go.Proofs.Ytmhdhnipljonlaa
namespace Go.Proofs.Ytmhdhnipljonlaa
open Go.RowKit
set_option linter.unusedSimpArgs false
set_option linter.unusedVariables false
theorem flatMap_set {α : Type} {sz : Nat} {c : α → List Value} (hsz : ∀ x, (c x).length = sz) (i : Nat) (hi : i < sz) (u : Value) (y : α) : ∀ (l : List α) (k : Nat) (hk : k < l.length), c y = (c l[k]).set i u → (l.set k y).flatMap c = (l.flatMap c).set (k * sz + i) u
  | x :: l, 0, _, h => by
    simp only [List.set_cons_zero, List.flatMap_cons, Nat.zero_mul, Nat.zero_add]
    rw [List.set_append_left _ _ (by rw [hsz]; exact hi)]
    simp only [List.getElem_cons_zero] at h
    rw [h]
  | x :: l, k + 1, hk, h => by
    simp only [List.set_cons_succ, List.flatMap_cons]
    have e : (k + 1) * sz + i = (c x).length + (k * sz + i) := by rw [hsz, Nat.add_mul]; omega
    rw [e, List.set_append_right _ _ (by omega), Nat.add_sub_cancel_left]
    rw [flatMap_set hsz i hi u y l k (by simpa using hk) (by simpa using h)]
theorem OwnN.set_ {α : Type} {sz : Nat} {c : α → List Value} {base : Nat} {e : TypeId} {w : World} {g n cap : Nat} {l : List α} (hsz : ∀ x, (c x).length = sz) (h : OwnN sz c base e w (.slice (some ⟨g, 0, none⟩) n cap) l) (k i : Nat) (hk : k < l.length) (hi : i < sz) (u : Value) (y : α) (hy : c y = (c l[k]).set i u) :
    OwnN sz c base e (w.setCell ⟨g, k * sz + i, none⟩ u) (.slice (some ⟨g, 0, none⟩) n cap) (l.set k y) := by
  obtain ⟨h1, h2⟩ := h
  rcases h2 with ⟨he, _⟩ | ⟨g', cap', cur, he, hb, hg, hc, hm, hs, ht⟩
  · simp at he
  · injection he with e1 e2 e3
    injection e1 with e1; injection e1 with e1
    subst e1; subst e2; subst e3
    refine ⟨by rw [flatMap_len hsz], .inr ⟨g, cap, cur.setIfInBounds (k * sz + i) u, by simp, hb, ?_, by simpa using hc, hm, by simpa using hs, ?_⟩⟩
    · exact heap_setCell_same w g (k * sz + i) cur e u hg
    · rw [List.length_set, Array.toList_setIfInBounds, List.take_set, ht, flatMap_set hsz i hi u y l k hk hy]
end Go.Proofs.Ytmhdhnipljonlaa
namespace Go.Proofs.Ytmhdhnipljonlaa
open Go.RowKit
set_option linter.unusedSimpArgs false
set_option linter.unusedVariables false
/-- A result's own block of two cells, written. -/
theorem blk_two {w : World} {b : Nat} {e : TypeId} {x0 y0 : Value} (h : Blk w b e [x0, y0]) (x y : Value) : Blk ((w.setCell ⟨b, 0, none⟩ x).setCell ⟨b, 1, none⟩ y) b e [x, y] := by
  have := (h.set_ 0 x).set_ 1 y
  simpa using this
abbrev zF : ByteArray × Sl := (⟨#[]⟩, ⟨none, 0, 0⟩)
section
variable {base : Nat} {g : Nat} {lv : Value} {l : List (Int × (ByteArray × Sl))} {w w' : World}
set_option maxRecDepth 20000 in
set_option maxHeartbeats 400000 in
theorem tGetIF_no (w : World) (k : Int) (hs : TBIF base w g lv l) (hr : Rising ltIF l) (hlen : l.length ≤ 100000) (hk : I64 k) (hn : isIn ltIF l k = false) :
    Calls Try.prog 52 #[.pointer (some ⟨g, 0, none⟩), iv k] w fun e w' => e = .returned (.tuple #[fv zF, .bool false]) ∧ Upd [] w w' := by
  have hu0 := (Upd.refl [] w).alloc (.cells #[.string ⟨#[]⟩, .slice none 0 0] 91)
  have hc := tFindIF_any _ k (hs.upd0 hu0) hr hlen hk
  rw [hn] at hc
  have HC := Lib.hid hc
  have HU0 := Lib.hid hu0
  clear hs hr hlen hk hc hn hu0
  go_enter Try.func52, Try.ntmps52
  go_wp2_with fail
  (with_reducible refine HC.out.mono ?_)
  rintro e w1 ⟨rfl, hu1⟩
  have d0 : w1.cell? ⟨w.heap.size, 0, none⟩ = some (.string ⟨#[]⟩) := hu1.cell (by go_simp) (by simp)
  have d1 : w1.cell? ⟨w.heap.size, 1, none⟩ = some (.slice none 0 0) := hu1.cell (by go_simp) (by simp)
  have hB := (Blk.new w 91 [.string ⟨#[]⟩, .slice none 0 0]).upd hu1 (by simp)
  have f0 := hB.frozen 0
  have f1 := hB.frozen 1
  have HB := Lib.hid ((blk_two hB (.string ⟨#[]⟩) (.slice none 0 0)).upd ((Upd.refl [] _).alloc (.cells #[.string ⟨#[]⟩, .slice none 0 0] 91)) (by simp))
  have HU : Hid (Upd [] w (((w1.setCell ⟨w.heap.size, 0, none⟩ (.string ⟨#[]⟩)).setCell ⟨w.heap.size, 1, none⟩ (.slice none 0 0)).alloc (.cells #[.string ⟨#[]⟩, .slice none 0 0] 91))) :=
    (((HU0.out.seq hu1).setCell _ _ (.inr (Nat.le_refl _))).setCell _ _ (.inr (Nat.le_refl _))).alloc _
  have hlt : w.heap.size < w1.heap.size := hB.lt
  clear hB
  go_wp2_with fail
  have e0 := HB.out.cell 0
  have e1 := HB.out.cell 1
  have hU := HU.out
  clear HB HU
  generalize World.alloc _ _ = W at *
  exact bodyPost_ret (v := .tuple #[fv zF, .bool false]) (by simp [results, Try.results52, go_sem, e0, e1]; try rfl) rfl ⟨rfl, hU⟩
set_option maxRecDepth 20000 in
set_option maxHeartbeats 400000 in
theorem tGetIF_ok (w : World) (k : Int) (hs : TBIF base w g lv l) (hr : Rising ltIF l) (hlen : l.length ≤ 100000) (hk : I64 k) (hn : isIn ltIF l k = true) :
    Calls Try.prog 52 #[.pointer (some ⟨g, 0, none⟩), iv k] w fun e w' => e = .returned (.tuple #[fv (nth l (below ltIF l k)).2, .bool true]) ∧ Upd [] w w' := by
  have hu0 := (Upd.refl [] w).alloc (.cells #[.string ⟨#[]⟩, .slice none 0 0] 91)
  have hc := tFindIF_any _ k (hs.upd0 hu0) hr hlen hk
  rw [hn] at hc
  have HC := Lib.hid hc
  have HU0 := Lib.hid hu0
  unfold isIn at hn
  have hlt := (of_decide_eq_true hn).1
  obtain ⟨ao, co, rfl, hlc, hcm, hcell⟩ := hs.rows.rd rcIF_len
  obtain ⟨b, off, rfl, hc'⟩ := hcell (by intro h; simp [h] at hlt)
  have D0 := Lib.hid (show w.cell? ⟨g, 0, none⟩ = some (.slice (some ⟨b, off, none⟩) l.length co) from hs.tab.cell 0)
  have D1 := Lib.hid (show w.cell? ⟨b, off + below ltIF l k * 3 + 1, none⟩ = some (sv (nth l (below ltIF l k)).2.1) from hc' _ hlt 1 (by omega))
  have D2 := Lib.hid (show w.cell? ⟨b, off + below ltIF l k * 3 + 2, none⟩ = some (slv (nth l (below ltIF l k)).2.2) from hc' _ hlt 2 (by omega))
  clear hs hr hk hc hn hcell hc' hcm hu0
  generalize (nth l (below ltIF l k)).2 = x at *
  obtain ⟨nm, sl⟩ := x
  generalize below ltIF l k = i at *
  have q1 : (0 : Int) ≤ i := by omega
  have q2 : (i : Int) < l.length := by omega
  go_enter Try.func52, Try.ntmps52
  go_wp2_with fail
  (with_reducible refine HC.out.mono ?_)
  rintro e w1 ⟨rfl, hu1⟩
  have dd0 := (HU0.out.seq hu1).cell D0.out (by simp)
  have dd1 := (HU0.out.seq hu1).cell D1.out (by simp)
  have dd2 := (HU0.out.seq hu1).cell D2.out (by simp)
  have d0 : w1.cell? ⟨w.heap.size, 0, none⟩ = some (.string ⟨#[]⟩) := hu1.cell (by go_simp) (by simp)
  have d1 : w1.cell? ⟨w.heap.size, 1, none⟩ = some (.slice none 0 0) := hu1.cell (by go_simp) (by simp)
  have hB := (Blk.new w 91 [.string ⟨#[]⟩, .slice none 0 0]).upd hu1 (by simp)
  have f0 := hB.frozen 0
  have f1 := hB.frozen 1
  have HB := Lib.hid (blk_two hB (sv nm) (slv sl))
  have HU : Hid (Upd [] w ((w1.setCell ⟨w.heap.size, 0, none⟩ (sv nm)).setCell ⟨w.heap.size, 1, none⟩ (slv sl))) :=
    ((HU0.out.seq hu1).setCell _ _ (.inr (Nat.le_refl _))).setCell _ _ (.inr (Nat.le_refl _))
  clear hB
  go_wp2_with fail
  have e0 := HB.out.cell 0
  have e1 := HB.out.cell 1
  have hU := HU.out
  clear HB HU
  generalize World.setCell _ _ _ = W at *
  exact bodyPost_ret (v := .tuple #[fv (nm, sl), .bool true]) (by simp [results, Try.results52, go_sem, e0, e1]; try rfl) rfl ⟨rfl, hU⟩
end
end Go.Proofs.Ytmhdhnipljonlaa
namespace Go.Proofs.Ytmhdhnipljonlaa
open Go.RowKit
set_option linter.unusedSimpArgs false
set_option linter.unusedVariables false
section
variable {base : Nat} {g : Nat} {lv : Value} {l : List (Int × (ByteArray × Sl))} {w w' : World}
set_option maxRecDepth 20000 in
set_option maxHeartbeats 400000 in
theorem tAtIF_ok (w : World) (i : Nat) (hs : TBIF base w g lv l) (hlen : l.length ≤ 100000) (hi : i < l.length) :
    Calls Try.prog 55 #[.pointer (some ⟨g, 0, none⟩), .int .i64 (i : Int)] w fun e w' => e = .returned (.tuple #[iv (nth l i).1, fv (nth l i).2, .bool true]) ∧ Upd [] w w' := by
  obtain ⟨ao, co, rfl, hlc, hcm, hcell⟩ := hs.rows.rd rcIF_len
  obtain ⟨b, off, rfl, hc'⟩ := hcell (by intro h; simp [h] at hi)
  have D0 := Lib.hid (show w.cell? ⟨g, 0, none⟩ = some (.slice (some ⟨b, off, none⟩) l.length co) from hs.tab.cell 0)
  have D1 := Lib.hid (show w.cell? ⟨b, off + i * 3, none⟩ = some (iv (nth l i).1) from hc' _ hi 0 (by omega))
  have D2 := Lib.hid (show w.cell? ⟨b, off + i * 3 + 1, none⟩ = some (sv (nth l i).2.1) from hc' _ hi 1 (by omega))
  have D3 := Lib.hid (show w.cell? ⟨b, off + i * 3 + 2, none⟩ = some (slv (nth l i).2.2) from hc' _ hi 2 (by omega))
  clear hs hcell hc' hcm
  generalize (nth l i).1 = x at *
  generalize (nth l i).2 = y at *
  obtain ⟨nm, sl⟩ := y
  have q1 : (0 : Int) ≤ i := by omega
  have q2 : (i : Int) < l.length := by omega
  have HU0 := Lib.hid ((Upd.refl [] w).alloc (.cells #[.string ⟨#[]⟩, .slice none 0 0] 91))
  have hB := Blk.new w 91 [.string ⟨#[]⟩, .slice none 0 0]
  have c0 := HU0.out.cell D0.out (by simp)
  go_enter Try.func55, Try.ntmps55
  go_wp2_with fail
  generalize w.alloc (.cells #[.string ⟨#[]⟩, .slice none 0 0] 91) = v at *
  have c1 := HU0.out.cell D1.out (by simp)
  have c2 := HU0.out.cell D2.out (by simp)
  have c3 := HU0.out.cell D3.out (by simp)
  have hB' : Blk v w.heap.size 91 [.string ⟨#[]⟩, .slice none 0 0] := hB
  have d0 := hB'.cell 0
  have d1 := hB'.cell 1
  have f0 := hB'.frozen 0
  have f1 := hB'.frozen 1
  have HB : Hid (Blk ((v.setCell ⟨w.heap.size, 0, none⟩ (sv nm)).setCell ⟨w.heap.size, 1, none⟩ (slv sl)).drew w.heap.size 91 [sv nm, slv sl]) := blk_two hB' (sv nm) (slv sl)
  have HU : Hid (Upd [] w ((v.setCell ⟨w.heap.size, 0, none⟩ (sv nm)).setCell ⟨w.heap.size, 1, none⟩ (slv sl)).drew) :=
    ((HU0.out.setCell _ _ (.inr (Nat.le_refl _))).setCell _ _ (.inr (Nat.le_refl _))).drew
  clear hB hB'
  go_region
  all_goals (go_wp2_with fail)
  have e0 := HB.out.cell 0
  have e1 := HB.out.cell 1
  have hU := HU.out
  clear HB HU
  generalize World.drew _ = W at *
  exact bodyPost_ret (v := .tuple #[iv x, fv (nm, sl), .bool true]) (by simp [results, Try.results55, go_sem, e0, e1]; try rfl) rfl ⟨rfl, hU⟩
set_option maxRecDepth 20000 in
set_option maxHeartbeats 400000 in
theorem tAtIF_neg (w : World) (i : Int) (hi64 : I64 i) (hs : TBIF base w g lv l) (hi : i < 0) :
    Calls Try.prog 55 #[.pointer (some ⟨g, 0, none⟩), .int .i64 i] w fun e w' => e = .returned (.tuple #[iv 0, fv zF, .bool false]) ∧ Upd [] w w' := by
  obtain ⟨ao, co, rfl, hlc, hcm, hcell⟩ := hs.rows.rd rcIF_len
  have D0 := Lib.hid (show w.cell? ⟨g, 0, none⟩ = some (.slice ao l.length co) from hs.tab.cell 0)
  clear hs hcell hcm
  have HU0 := Lib.hid ((Upd.refl [] w).alloc (.cells #[.string ⟨#[]⟩, .slice none 0 0] 91))
  have hB0 := Blk.new w 91 [.string ⟨#[]⟩, .slice none 0 0]
  have c0 := HU0.out.cell D0.out (by simp)
  go_enter Try.func55, Try.ntmps55
  go_wp2_with fail
  have HUa := Lib.hid (HU0.out.alloc (.cells #[.int .i64 0, .string ⟨#[]⟩, .slice none 0 0] 132))
  have hB := hB0.upd ((Upd.refl [] _).alloc (.cells #[.int .i64 0, .string ⟨#[]⟩, .slice none 0 0] 132)) (by simp)
  have hR := Blk.new (w.alloc (.cells #[.string ⟨#[]⟩, .slice none 0 0] 91)) 132 [.int .i64 0, .string ⟨#[]⟩, .slice none 0 0]
  have hne : w.heap.size ≠ w.heap.size + 1 := by omega
  have hsz : (w.alloc (.cells #[.string ⟨#[]⟩, .slice none 0 0] 91)).heap.size = w.heap.size + 1 := by simp
  rw [hsz] at hR
  clear hB0 HU0 c0 hsz
  change Blk ((w.alloc (.cells #[.string ⟨#[]⟩, .slice none 0 0] 91)).alloc (.cells #[.int .i64 0, .string ⟨#[]⟩, .slice none 0 0] 132)) _ _ _ at hR
  generalize (w.alloc (.cells #[.string ⟨#[]⟩, .slice none 0 0] 91)).alloc (.cells #[.int .i64 0, .string ⟨#[]⟩, .slice none 0 0] 132) = v at *
  have d0 := hB.cell 0
  have d1 := hB.cell 1
  have f0 := hB.frozen 0
  have f1 := hB.frozen 1
  have r0 := hR.cell 0
  have r1 := hR.cell 1
  have r2 := hR.cell 2
  simp only [List.getElem?_cons_zero, List.getElem?_cons_succ] at d0 d1 r0 r1 r2
  have HB : Hid (Blk ((v.setCell ⟨w.heap.size, 0, none⟩ (.string ⟨#[]⟩)).setCell ⟨w.heap.size, 1, none⟩ (.slice none 0 0)).drew w.heap.size 91 [.string ⟨#[]⟩, .slice none 0 0]) := blk_two hB _ _
  have HU : Hid (Upd [] w ((v.setCell ⟨w.heap.size, 0, none⟩ (.string ⟨#[]⟩)).setCell ⟨w.heap.size, 1, none⟩ (.slice none 0 0)).drew) :=
    ((HUa.out.setCell _ _ (.inr (Nat.le_refl _))).setCell _ _ (.inr (Nat.le_refl _))).drew
  clear hB hR HUa
  go_region
  all_goals (go_wp2_with fail)
  all_goals
    have e0 := HB.out.cell 0
    have e1 := HB.out.cell 1
    have hU := HU.out
    clear HB HU
    generalize World.drew _ = W at *
    exact bodyPost_ret (v := .tuple #[iv 0, fv zF, .bool false]) (by simp [results, Try.results55, go_sem, e0, e1]; try rfl) rfl ⟨rfl, hU⟩
set_option maxRecDepth 20000 in
set_option maxHeartbeats 400000 in
theorem tAtIF_high (w : World) (i : Int) (hi64 : I64 i) (hs : TBIF base w g lv l) (hlen : l.length ≤ 100000) (hi : (l.length : Int) ≤ i) :
    Calls Try.prog 55 #[.pointer (some ⟨g, 0, none⟩), .int .i64 i] w fun e w' => e = .returned (.tuple #[iv 0, fv zF, .bool false]) ∧ Upd [] w w' := by
  obtain ⟨ao, co, rfl, hlc, hcm, hcell⟩ := hs.rows.rd rcIF_len
  have D0 := Lib.hid (show w.cell? ⟨g, 0, none⟩ = some (.slice ao l.length co) from hs.tab.cell 0)
  have q1 : (0 : Int) ≤ i := by omega
  clear hs hcell hcm
  have HU0 := Lib.hid ((Upd.refl [] w).alloc (.cells #[.string ⟨#[]⟩, .slice none 0 0] 91))
  have hB0 := Blk.new w 91 [.string ⟨#[]⟩, .slice none 0 0]
  have c0 := HU0.out.cell D0.out (by simp)
  go_enter Try.func55, Try.ntmps55
  go_wp2_with fail
  have HUa := Lib.hid (HU0.out.alloc (.cells #[.int .i64 0, .string ⟨#[]⟩, .slice none 0 0] 132))
  have hB := hB0.upd ((Upd.refl [] _).alloc (.cells #[.int .i64 0, .string ⟨#[]⟩, .slice none 0 0] 132)) (by simp)
  have hR := Blk.new (w.alloc (.cells #[.string ⟨#[]⟩, .slice none 0 0] 91)) 132 [.int .i64 0, .string ⟨#[]⟩, .slice none 0 0]
  have hne : w.heap.size ≠ w.heap.size + 1 := by omega
  have hsz : (w.alloc (.cells #[.string ⟨#[]⟩, .slice none 0 0] 91)).heap.size = w.heap.size + 1 := by simp
  rw [hsz] at hR
  clear hB0 HU0 c0 hsz
  change Blk ((w.alloc (.cells #[.string ⟨#[]⟩, .slice none 0 0] 91)).alloc (.cells #[.int .i64 0, .string ⟨#[]⟩, .slice none 0 0] 132)) _ _ _ at hR
  generalize (w.alloc (.cells #[.string ⟨#[]⟩, .slice none 0 0] 91)).alloc (.cells #[.int .i64 0, .string ⟨#[]⟩, .slice none 0 0] 132) = v at *
  have d0 := hB.cell 0
  have d1 := hB.cell 1
  have f0 := hB.frozen 0
  have f1 := hB.frozen 1
  have r0 := hR.cell 0
  have r1 := hR.cell 1
  have r2 := hR.cell 2
  simp only [List.getElem?_cons_zero, List.getElem?_cons_succ] at d0 d1 r0 r1 r2
  have HB : Hid (Blk ((v.setCell ⟨w.heap.size, 0, none⟩ (.string ⟨#[]⟩)).setCell ⟨w.heap.size, 1, none⟩ (.slice none 0 0)).drew w.heap.size 91 [.string ⟨#[]⟩, .slice none 0 0]) := blk_two hB _ _
  have HU : Hid (Upd [] w ((v.setCell ⟨w.heap.size, 0, none⟩ (.string ⟨#[]⟩)).setCell ⟨w.heap.size, 1, none⟩ (.slice none 0 0)).drew) :=
    ((HUa.out.setCell _ _ (.inr (Nat.le_refl _))).setCell _ _ (.inr (Nat.le_refl _))).drew
  clear hB hR HUa
  go_region
  all_goals (go_wp2_with fail)
  all_goals
    have e0 := HB.out.cell 0
    have e1 := HB.out.cell 1
    have hU := HU.out
    clear HB HU
    generalize World.drew _ = W at *
    exact bodyPost_ret (v := .tuple #[iv 0, fv zF, .bool false]) (by simp [results, Try.results55, go_sem, e0, e1]; try rfl) rfl ⟨rfl, hU⟩
end
end Go.Proofs.Ytmhdhnipljonlaa
namespace Go.Proofs.Ytmhdhnipljonlaa
open Go.RowKit
set_option linter.unusedSimpArgs false
set_option linter.unusedVariables false
section
variable {base : Nat} {g : Nat} {lv : Value} {l : List (Int × (ByteArray × Sl))} {w w' : World}
set_option maxRecDepth 20000 in
set_option maxHeartbeats 400000 in
theorem tSetIF_old (w : World) (k : Int) (y : ByteArray × Sl) (hs : TBIF base w g lv l) (hr : Rising ltIF l) (hlen : l.length ≤ 100000) (hk : I64 k) (hn : isIn ltIF l k = true) :
    Calls Try.prog 53 #[.pointer (some ⟨g, 0, none⟩), iv k, fv y] w fun e w' => e = .returned (.bool false) ∧ TBIF base w' g lv (l.set (below ltIF l k) ((nth l (below ltIF l k)).1, y)) ∧ Upd (blk lv) w w' := by
  obtain ⟨nm, sl⟩ := y
  have hu0 := (Upd.refl [] w).alloc (.cells #[sv nm, slv sl] 91)
  have hs0 := hs.upd0 hu0
  have hc := tFindIF_any _ k hs0 hr hlen hk
  rw [hn] at hc
  have HC := Lib.hid hc
  have HS := Lib.hid hs0
  unfold isIn at hn
  have hlt := (of_decide_eq_true hn).1
  have hgl := hs.g_lv
  rcases hs0.rows.2 with ⟨-, h0⟩ | ⟨b, co, cur, rfl, hb, hg, -⟩
  · omega
  have hbw : b < w.heap.size := (hs.rows.ge b (by simp [blk])).2
  have HL := Lib.hid hlt
  obtain ⟨ao', co', e', -, -, hcell⟩ := hs.rows.rd rcIF_len
  injection e' with e1 e2 e3
  obtain ⟨b', off, e4, hc'⟩ := hcell (by intro h; simp [h] at hlt)
  rw [e4] at e1
  injection e1 with e1; injection e1 with e1 e5
  subst e1; subst e5
  have D0 := Lib.hid (show w.cell? ⟨g, 0, none⟩ = some (.slice (some ⟨b, 0, none⟩) l.length co) from hs.tab.cell 0)
  have D1 := Lib.hid (show w.cell? ⟨b, below ltIF l k * 3 + 1, none⟩ = some (sv (nth l (below ltIF l k)).2.1) from by simpa using hc' _ hlt 1 (by omega))
  have D2 := Lib.hid (show w.cell? ⟨b, below ltIF l k * 3 + 2, none⟩ = some (slv (nth l (below ltIF l k)).2.2) from by simpa using hc' _ hlt 2 (by omega))
  have HG := Lib.hid hg
  have HU0 := Lib.hid hu0
  clear hs hs0 hr hk hc hn hgl hg hcell hc' e2 e3 e4 hu0
  generalize below ltIF l k = i at *
  have q1 : (0 : Int) ≤ i := by omega
  have q2 : (i : Int) < l.length := by omega
  go_enter Try.func53, Try.ntmps53
  go_wp2_with fail
  (with_reducible refine HC.out.mono ?_)
  rintro e w1 ⟨rfl, hu1⟩
  have x0 := hu1.cell (p := ⟨w.heap.size, 0, none⟩) (v := sv nm) (by go_simp) (by simp)
  have x1 := hu1.cell (p := ⟨w.heap.size, 1, none⟩) (v := slv sl) (by go_simp) (by simp)
  have HU1 := Lib.hid (HU0.out.seq hu1)
  have d0 := HU1.out.cell D0.out (by simp)
  have d1 := HU1.out.cell D1.out (by simp)
  have d2 := HU1.out.cell D2.out (by simp)
  have hg1 := hu1.heap HG.out (by simp)
  have f1 : w1.frozen? ⟨b, i * 3 + 1, none⟩ = false := frozen_of_row w1 b _ cur _ hg1
  have f2 : w1.frozen? ⟨b, i * 3 + 2, none⟩ = false := frozen_of_row w1 b _ cur _ hg1
  have HS1 := Lib.hid (HS.out.upd0 hu1)
  clear hu1 hg1
  go_wp2_with fail
  go_region
  all_goals (go_wp2_with fail)
  all_goals
    go_ret
    have hl := HL.out
    have hs1 := HS1.out
    have hgb : g ≠ b := fun e => hs1.g_lv (by rw [e]; simp [blk])
    have hst : Upd [b] w1 ((w1.setCell ⟨b, i * 3 + 1, none⟩ (sv nm)).setCell ⟨b, i * 3 + 2, none⟩ (slv sl)) := ((Upd.refl [b] w1).setCell _ _ (.inl (by simp))).setCell _ _ (.inl (by simp))
    refine ⟨rfl, ⟨(hs1.tab.upd hst (by simpa using hgb)).upd (Upd.refl [] _).drew (by simp), ?_, hs1.gb⟩, ?_⟩
    · have h1 := OwnN.set_ rcIF_len hs1.rows i 1 hl (by omega) (sv nm) (l[i].1, nm, l[i].2.2) rfl
      have h2 := OwnN.set_ rcIF_len h1 i 2 (by rw [List.length_set]; exact hl) (by omega) (slv sl) (l[i].1, nm, sl) (by rw [List.getElem_set_self]; rfl)
      rw [List.set_set] at h2
      rw [nth_get l i hl]
      exact h2.upd (Upd.refl [] _).drew (by simp)
    · exact (((show Upd [b] w w1 from HU1.out.mono (by simp)).setCell _ _ (.inl (by simp))).setCell _ _ (.inl (by simp))).drew
set_option maxRecDepth 20000 in
set_option maxHeartbeats 1000000 in
theorem tSetIF_new (w : World) (k : Int) (y : ByteArray × Sl) (hs : TBIF base w g lv l) (hr : Rising ltIF l) (hlen : l.length ≤ 100000) (hbs : base ≤ w.heap.size) (hk : I64 k) (hn : isIn ltIF l k = false) :
    Calls Try.prog 53 #[.pointer (some ⟨g, 0, none⟩), iv k, fv y] w fun e w' => e = .returned (.bool true) ∧ ∃ lv', TBIF base w' g lv' (l.take (below ltIF l k) ++ (k, y) :: l.drop (below ltIF l k)) ∧ Upd (g :: blk lv) w w' ∧ (∀ x ∈ blk lv', x ∈ blk lv ∨ w.heap.size ≤ x) := by
  obtain ⟨nm, sl⟩ := y
  have hu0 := (Upd.refl [] w).alloc (.cells #[sv nm, slv sl] 91)
  have hs0 := hs.upd0 hu0
  have hc := tFindIF_any _ k hs0 hr hlen hk
  rw [hn] at hc
  have HC := Lib.hid hc
  have HS := Lib.hid hs
  have HU0 := Lib.hid hu0
  have hle := below_le (lt := ltIF) l k
  have HD : Hid (∀ (w1 W : World) (G : Nat), Upd [] w w1 → Upd [] w1 W → w1.heap.size ≤ G → Blk W G 132 [iv k, sv nm, slv sl] → Calls Try.prog 83 #[lv, .int .i64 ((below ltIF l k : Nat) : Int), .slice (some ⟨G, 0, none⟩) 1 1] W fun e w' => ∃ v', e = .returned v' ∧ OwnN 3 rcIF base 132 w' v' (l.take (below ltIF l k) ++ (k, nm, sl) :: l.drop (below ltIF l k)) ∧ Upd (blk lv) W w' ∧ (∀ y ∈ blk v', y ∈ blk lv ∨ W.heap.size ≤ y)) := fun w1 W G h1 h2 hG hB =>
    slInsIF_any W lv (below ltIF l k) G (k, nm, sl) (hs.rows.upd (h1.seq h2) (by simp)) hle hlen (by have := h1.size; have := h2.size; omega) hB (fun hx => by have := (hs.rows.ge _ hx).2; have := h1.size; omega)
  have D0 := Lib.hid (show w.cell? ⟨g, 0, none⟩ = some lv from hs.tab.cell 0)
  obtain ⟨ao, n, co, rfl⟩ := hs.rows.slice_
  clear hs hs0 hr hk hc hn hbs hle hu0
  generalize below ltIF l k = i at *
  go_enter Try.func53, Try.ntmps53
  go_wp2_with fail
  (with_reducible refine HC.out.mono ?_)
  rintro e w1 ⟨rfl, hu1⟩
  have x0 := hu1.cell (p := ⟨w.heap.size, 0, none⟩) (v := sv nm) (by go_simp) (by simp)
  have x1 := hu1.cell (p := ⟨w.heap.size, 1, none⟩) (v := slv sl) (by go_simp) (by simp)
  have HU1 := Lib.hid (HU0.out.seq hu1)
  have d0 := HU1.out.cell D0.out (by simp)
  have hgl := HS.out.g_lv
  have htab := HS.out.tab.upd HU1.out (by simp)
  have hua := (Upd.refl [] w1).alloc (.cells #[iv k, sv nm, slv sl] 132)
  have d0a := hua.cell d0 (by simp)
  have x0a := hua.cell x0 (by simp)
  have x1a := hua.cell x1 (by simp)
  clear hu1 hua
  go_wp2_with fail
  go_region_law
    (first
      | (go_simp; go_at_call 83; (with_reducible refine (HD.out w1 _ w1.heap.size HU1.out ?_ (Nat.le_refl _) ?_).mono ?_); (repeat (first | exact Upd.refl _ _ | apply Upd.drew | apply Upd.drewN | apply Upd.alloc)); (refine Blk.fresh (w := w1) (C := #[iv k, sv nm, slv sl]) (xs := [iv k, sv nm, slv sl]) rfl rfl ?_; (repeat (first | exact Upd.refl _ _ | apply Upd.drew | apply Upd.drewN | apply Upd.alloc))); (rintro e w2 ⟨v2, rfl, ho2, hu2, hb2⟩; obtain ⟨ao2, n2, co2, rfl⟩ := ho2.slice_; have hu3 : Upd [] w1 _ := Upd.alloc (Upd.drew (Upd.refl [] w1)) (.cells #[iv k, sv nm, slv sl] 132); have ht2 : Blk w2 g 127 _ := (htab.upd hu3 (by simp)).upd hu2 hgl; have f0 := ht2.frozen 0; have e0 := ht2.cell 0; dsimp only)))
  all_goals
    have hua := ((Upd.refl [] w1).alloc (.cells #[iv k, sv nm, slv sl] 132)).drew
    have hu4 : Upd (g :: blk (.slice ao n co)) w (w2.setCell ⟨g, 0, none⟩ (.slice ao2 n2 co2)) := ((HU1.out.seq hua).trans (T := g :: blk (.slice ao n co)) hu2 (by simp) (fun x hx => .inl (by simp [hx]))).setCell _ _ (.inl (by simp))
    have hb3 : ∀ x ∈ blk (.slice ao2 n2 co2), x ∈ blk (.slice ao n co) ∨ w.heap.size ≤ x := fun x hx => (hb2 x hx).imp id (fun h => by have := (HU1.out.seq hua).size; omega)
    have hg2 : g ∉ blk (.slice ao2 n2 co2) := fun hx => by
      rcases hb3 g hx with q | q
      · exact hgl q
      · have := HS.out.tab.lt; omega
    have HT : Hid (TBIF base (w2.setCell ⟨g, 0, none⟩ (.slice ao2 n2 co2)) g (.slice ao2 n2 co2) (l.take i ++ (k, nm, sl) :: l.drop i)) :=
      ⟨by simpa using ht2.set_ 0 (.slice ao2 n2 co2), ho2.upd ((Upd.refl [g] _).setCell _ _ (.inl (by simp))) (by intro x hx; simp; rintro rfl; exact hg2 hx), HS.out.gb⟩
    have HU4 := Lib.hid hu4
    have HB3 := Lib.hid hb3
    clear hua hu4 hb3 hg2 hu2 ho2 hb2 ht2 hgl
    go_wp2_with fail
    go_ret
    exact ⟨rfl, _, HT.out, HU4.out, HB3.out⟩
theorem tSetIF_any (w : World) (k : Int) (y : ByteArray × Sl) (hs : TBIF base w g lv l) (hr : Rising ltIF l) (hlen : l.length ≤ 100000) (hbs : base ≤ w.heap.size) (hk : I64 k) :
    Calls Try.prog 53 #[.pointer (some ⟨g, 0, none⟩), iv k, fv y] w fun e w' => e = .returned (.bool (!isIn ltIF l k)) ∧ ∃ lv', TBIF base w' g lv' (tSet ltIF l k y) ∧ Upd (g :: blk lv) w w' ∧ (∀ x ∈ blk lv', x ∈ blk lv ∨ w.heap.size ≤ x) := by
  cases hn : isIn ltIF l k with
  | false =>
    refine (tSetIF_new w k y hs hr hlen hbs hk hn).mono ?_
    rintro e w' ⟨rfl, v', ht, hu, hb⟩
    exact ⟨rfl, v', by unfold tSet; rw [hn]; exact ht, hu, hb⟩
  | true =>
    refine (tSetIF_old w k y hs hr hlen hk hn).mono ?_
    rintro e w' ⟨rfl, ht, hu⟩
    refine ⟨rfl, lv, ?_, hu.mono (fun x hx => .inl (by simp [hx])), fun x hx => .inl hx⟩
    rw [tSet_in l k y hn]; exact ht
end
end Go.Proofs.Ytmhdhnipljonlaa
namespace Go.Proofs.Ytmhdhnipljonlaa
open Go.RowKit
set_option linter.unusedSimpArgs false
set_option linter.unusedVariables false
/-- A table at g with the rows l; F: its blocks, all made since w0. -/
structure TXIF (w0 w : World) (g : Nat) (F : List Nat) (l : List (Int × (ByteArray × Sl))) : Prop where
  ex : ∃ lv, F = g :: blk lv ∧ TBIF w0.heap.size w g lv l
  ris : Rising ltIF l
  old : Upd [] w0 w
section
variable {w0 w w' : World} {g : Nat} {F : List Nat} {l : List (Int × (ByteArray × Sl))}
theorem TXIF.ge (h : TXIF w0 w g F l) : ∀ x ∈ F, w0.heap.size ≤ x ∧ x < w.heap.size := by
  obtain ⟨lv, rfl, ht⟩ := h.ex
  exact ht.lt
theorem TXIF.upd (h : TXIF w0 w g F l) {S : List Nat} (hu : Upd S w w') (hs : ∀ x ∈ F, x ∉ S) (hS : ∀ x ∈ S, w0.heap.size ≤ x) : TXIF w0 w' g F l := by
  obtain ⟨lv, rfl, ht⟩ := h.ex
  exact ⟨⟨lv, rfl, ht.upd hu hs⟩, h.ris, h.old.trans hu (by simp) (fun x hx => .inr (hS x hx))⟩
theorem TXIF.upd0 (h : TXIF w0 w g F l) (hu : Upd [] w w') : TXIF w0 w' g F l := h.upd hu (by simp) (by simp)
theorem TXIF.next (h : TXIF w0 w g F l) (hu : Upd F w w') : Upd [] w0 w' := h.old.trans hu (by simp) (fun x hx => .inr (h.ge x hx).1)
theorem txIF_New (w0 w : World) (hu : Upd [] w0 w) :
    Calls Try.prog 47 #[] w fun e w' => ∃ g F, e = .returned (.pointer (some ⟨g, 0, none⟩)) ∧ TXIF w0 w' g F [] ∧ Upd [] w w' ∧ (∀ x ∈ F, w.heap.size ≤ x) := by
  refine (tNewIF_any w).mono ?_
  rintro e w' ⟨rfl, ht, hu'⟩
  exact ⟨_, _, rfl, ⟨⟨_, rfl, ⟨ht.tab, OwnN.nil _ _ _, hu.size⟩⟩, Rising.nil, hu.seq hu'⟩, hu', fun x hx => (ht.lt x hx).1⟩
theorem txIF_Set (k : Int) (y : (ByteArray × Sl)) (r : Bool) (l' : List (Int × (ByteArray × Sl))) (hs : TXIF w0 w g F l) (hlen : l.length ≤ 100000) (hk : I64 k) (h1 : (!isIn ltIF l k) = r) (h2 : tSet ltIF l k y = l') :
    Calls Try.prog 53 #[.pointer (some ⟨g, 0, none⟩), iv k, fv y] w fun e w' => e = .returned (.bool r) ∧ ∃ F', TXIF w0 w' g F' l' ∧ Upd F w w' ∧ (∀ x ∈ F', x ∈ F ∨ w.heap.size ≤ x) := by
  subst h1; subst h2
  have hold := hs.old
  obtain ⟨⟨lv, rfl, ht⟩, hr, -⟩ := hs
  refine (tSetIF_any w k y ht hr hlen hold.size hk).mono ?_
  rintro e w' ⟨rfl, lv', ht', hu, hb⟩
  refine ⟨rfl, g :: blk lv', ⟨⟨lv', rfl, ht'⟩, hr.set_ intOrd k y, hold.trans hu (by simp) (fun x hx => .inr (ht.lt x hx).1)⟩, hu, fun x hx => ?_⟩
  rcases List.mem_cons.1 hx with rfl | hx
  · exact .inl (by simp)
  · exact (hb x hx).imp (fun q => by simp [q]) id
theorem txIF_Del (k : Int) (r : Bool) (l' : List (Int × (ByteArray × Sl))) (hs : TXIF w0 w g F l) (hlen : l.length ≤ 100000) (hk : I64 k) (h1 : isIn ltIF l k = r) (h2 : tDel ltIF l k = l') :
    Calls Try.prog 54 #[.pointer (some ⟨g, 0, none⟩), iv k] w fun e w' => e = .returned (.bool r) ∧ ∃ F', TXIF w0 w' g F' l' ∧ Upd F w w' ∧ (∀ x ∈ F', x ∈ F ∨ w.heap.size ≤ x) := by
  subst h1; subst h2
  have hold := hs.old
  obtain ⟨⟨lv, rfl, ht⟩, hr, -⟩ := hs
  refine (tDelIF_any w k ht hr hlen hk).mono ?_
  rintro e w' ⟨rfl, lv', ht', hu, hb⟩
  refine ⟨rfl, g :: blk lv', ⟨⟨lv', rfl, ht'⟩, hr.del intOrd k, hold.trans hu (by simp) (fun x hx => .inr (ht.lt x hx).1)⟩, hu, fun x hx => ?_⟩
  rcases List.mem_cons.1 hx with rfl | hx
  · exact .inl (by simp)
  · exact (hb x hx).imp (fun q => by simp [q]) id
theorem txIF_Get (k : Int) (y : (ByteArray × Sl)) (r : Bool) (hs : TXIF w0 w g F l) (hlen : l.length ≤ 100000) (hk : I64 k) (h : tGet ltIF (((⟨#[]⟩ : ByteArray), (⟨none, 0, 0⟩ : Sl)) : ByteArray × Sl) l k = (y, r)) :
    Calls Try.prog 52 #[.pointer (some ⟨g, 0, none⟩), iv k] w fun e w' => e = .returned (.tuple #[fv y, .bool r]) ∧ Upd [] w w' := by
  obtain ⟨⟨lv, rfl, ht⟩, hr, -⟩ := hs
  unfold tGet at h
  cases hn : isIn ltIF l k with
  | false => rw [hn] at h; injection h with h1 h2; subst h1; subst h2; exact tGetIF_no w k ht hr hlen hk hn
  | true => rw [hn] at h; injection h with h1 h2; subst h1; subst h2; exact tGetIF_ok w k ht hr hlen hk hn
theorem txIF_Len (n : Int) (hs : TXIF w0 w g F l) (h : (l.length : Int) = n) :
    Calls Try.prog 51 #[.pointer (some ⟨g, 0, none⟩)] w fun e w' => e = .returned (.int .i64 n) ∧ w = w' := by
  subst h
  obtain ⟨⟨lv, rfl, ht⟩, hr, -⟩ := hs
  exact tLenIF_any w ht
theorem txIF_At (i : Int) (k : Int) (y : (ByteArray × Sl)) (r : Bool) (hi : I64 i) (hs : TXIF w0 w g F l) (hlen : l.length ≤ 100000) (h : tAt (0 : Int) (((⟨#[]⟩ : ByteArray), (⟨none, 0, 0⟩ : Sl)) : ByteArray × Sl) l i = (k, y, r)) :
    Calls Try.prog 55 #[.pointer (some ⟨g, 0, none⟩), .int .i64 i] w fun e w' => e = .returned (.tuple #[iv k, fv y, .bool r]) ∧ Upd [] w w' := by
  obtain ⟨⟨lv, rfl, ht⟩, hr, -⟩ := hs
  unfold tAt at h
  split at h
  · rename_i hd
    obtain ⟨j, rfl⟩ := Int.eq_ofNat_of_zero_le hd.1
    injection h with h1 h2; injection h2 with h2 h3; subst h1; subst h2; subst h3
    exact tAtIF_ok w j ht hlen (by omega)
  · rename_i hd
    injection h with h1 h2; injection h2 with h2 h3; subst h1; subst h2; subst h3
    by_cases h0 : i < 0
    · exact tAtIF_neg w i hi ht h0
    · exact tAtIF_high w i hi ht hlen (by omega)
end
end Go.Proofs.Ytmhdhnipljonlaa
namespace Go.Proofs.Ytmhdhnipljonlaa
open Go.RowKit
set_option linter.unusedSimpArgs false
set_option linter.unusedVariables false
abbrev rcIJ (p : Int × Int) : List Value := [iv p.1, iv p.2]
theorem rcIJ_len : ∀ p, (rcIJ p).length = 2 := fun _ => rfl
theorem infoRowIJ : (Try.prog.info? 136).map (fun i => (i.zero, i.size, i.bytes)) = some (some (.agg #[.int .i64 0, .int .i64 0]), 2, 16) := by kernel_rfl
abbrev ltIJ : Int → Int → Bool := fun a b => decide (a < b)
/-- The table at g, its rows lv. -/
structure TBIJ (base : Nat) (w : World) (g : Nat) (lv : Value) (l : List (Int × Int)) : Prop where
  tab : Blk w g 130 [lv]
  rows : OwnN 2 rcIJ base 136 w lv l
  gb : base ≤ g
section
variable {base : Nat} {g : Nat} {lv : Value} {l : List (Int × Int)} {w w' : World}
theorem TBIJ.upd (h : TBIJ base w g lv l) {S : List Nat} (hu : Upd S w w') (hs : ∀ x ∈ g :: blk lv, x ∉ S) : TBIJ base w' g lv l :=
  ⟨h.tab.upd hu (hs g (by simp)), h.rows.upd hu (fun x hx => hs x (by simp [hx])), h.gb⟩
theorem TBIJ.upd0 (h : TBIJ base w g lv l) (hu : Upd [] w w') : TBIJ base w' g lv l := h.upd hu (by simp)
theorem TBIJ.g_lv (h : TBIJ base w g lv l) : g ∉ blk lv := fun e => by
  obtain ⟨C, f, hq⟩ := h.rows.typ g e
  exact h.tab.ne g hq (by decide) rfl
theorem TBIJ.lt (h : TBIJ base w g lv l) : ∀ x ∈ g :: blk lv, base ≤ x ∧ x < w.heap.size := by
  intro x hx
  rcases List.mem_cons.1 hx with rfl | hx
  · exact ⟨h.gb, h.tab.lt⟩
  · exact h.rows.ge x hx
theorem tNewIJ_any (w : World) :
    Calls Try.prog 48 #[] w fun e w' => e = .returned (.pointer (some ⟨w.heap.size, 0, none⟩)) ∧ TBIJ w.heap.size w' w.heap.size (.slice none 0 0) [] ∧ Upd [] w w' := by
  go_enter Try.func48, Try.ntmps48
  go_wp2
  go_ret
  exact ⟨rfl, ⟨Blk.new w _ [.slice none 0 0], OwnN.nil _ _ _, Nat.le_refl _⟩, (Upd.refl [] w).alloc _⟩
set_option maxRecDepth 20000 in
set_option maxHeartbeats 1000000 in
theorem tFindIJ_any (w : World) (k : Int) (hs : TBIJ base w g lv l) (hr : Rising ltIJ l) (hlen : l.length ≤ 100000) (hk : I64 k) :
    Calls Try.prog 85 #[.pointer (some ⟨g, 0, none⟩), iv k] w fun e w' => e = .returned (.tuple #[.int .i64 (below ltIJ l k : Int), .bool (isIn ltIJ l k)]) ∧ Upd [] w w' := by
  have HS := Lib.hid hs
  have HR := Lib.hid hr
  obtain ⟨ao, co, rfl, hlc, hcm, hcell⟩ := hs.rows.rd rcIJ_len
  have c0 : w.cell? ⟨g, 0, none⟩ = some (.slice ao l.length co) := hs.tab.cell 0
  have HC := Lib.hid hcell
  clear hs hr hcell hcm
  go_enter Try.func85, Try.ntmps85
  go_wp2_with fail
  go_quiet (fail)
  have HU := Lib.hid ((Upd.refl [] w).drewN nq)
  generalize w.drewN nq = v at *
  replace c0 := HU.out.cell c0 (by simp)
  go_wp2_with fail
  go_loop [6, 7] (fun lo hi => ∃ a b : Nat, lo = .int .i64 a ∧ hi = .int .i64 b ∧ a ≤ b ∧ b ≤ l.length ∧ Hid (∀ j, j < a → ltIJ (nth l j).1 k = true) ∧ Hid (∀ j, b ≤ j → j < l.length → ltIJ (nth l j).1 k = false)) (fun lo hi => (intOf hi).toNat - (intOf lo).toNat)
  case atStart => exact ⟨0, l.length, rfl, rfl, Nat.zero_le _, Nat.le_refl _, fun j h => absurd h (by omega), fun j h1 h2 => absurd h1 (by omega)⟩
  case round =>
    obtain ⟨a, b, rfl, rfl, hab, hbl, hlo, hhi⟩ := hrel
    by_cases hlt : a < b
    · have hmid : (a + b) / 2 < l.length := by omega
      obtain ⟨bl, off, rfl, hc⟩ := HC.out (by intro h; simp [h] at hmid)
      have d0 : v.cell? ⟨bl, off + (a + b) / 2 * 2, none⟩ = some (iv (nth l ((a + b) / 2)).1) := HU.out.cell (hc _ hmid 0 (by omega)) (by simp)
      clear hc
      cases hcmp : ltIJ (nth l ((a + b) / 2)).1 k with
      | true =>
        have HLO : Hid (∀ j, j < (a + b) / 2 + 1 → ltIJ (nth l j).1 k = true) := fun j hj => HR.out.mono intOrd k j ((a + b) / 2) (by omega) hmid hcmp
        generalize (nth l ((a + b) / 2)).1 = m at *
        have hc1 : m < k := by simpa using hcmp
        clear hcmp
        go_wp2
        go_round
        case rel => exact ⟨(a + b) / 2 + 1, b, by go_num, rfl, by omega, hbl, HLO, hhi⟩
        case measure => simp [intOf]; omega
      | false =>
        have HHI : Hid (∀ j, (a + b) / 2 ≤ j → j < l.length → ltIJ (nth l j).1 k = false) := fun j h1 h2 => by
          cases hq : ltIJ (nth l j).1 k with
          | false => rfl
          | true => exact absurd ((HR.out.mono intOrd k _ j h1 h2 hq).symm.trans hcmp) (by simp)
        generalize (nth l ((a + b) / 2)).1 = m at *
        have hc1 : ¬ m < k := by simpa using hcmp
        clear hcmp
        go_wp2
        go_round
        case rel => exact ⟨a, (a + b) / 2, rfl, by go_num, by omega, by omega, hlo, HHI⟩
        case measure => simp [intOf]; omega
    · obtain rfl : a = b := by omega
      have hbel : below ltIJ l k = a := below_eq l k a hbl hlo.out (fun h => hhi.out a (Nat.le_refl _) h)
      have HIN : Hid (isIn ltIJ l k = decide (a < l.length ∧ (nth l a).1 = k)) := by unfold Hid isIn; rw [hbel]
      have HBEL := Lib.hid hbel
      clear hbel
      by_cases hal : a < l.length
      · obtain ⟨bl, off, rfl, hc⟩ := HC.out (by intro h; simp [h] at hal)
        have d0 : v.cell? ⟨bl, off + a * 2, none⟩ = some (iv (nth l a).1) := HU.out.cell (hc _ hal 0 (by omega)) (by simp)
        have HIN2 : Hid (isIn ltIJ l k = decide ((nth l a).1 = k)) := by unfold Hid; rw [HIN.out]; simp [hal]
        clear hc
        generalize (nth l a).1 = m at *
        have q1 : (0 : Int) ≤ a := by omega
        have q2 : (a : Int) < l.length := by omega
        by_cases he : m = k
        · have t1 : (m == k) = true := by simpa using he
          have HF : Hid (isIn ltIJ l k = true) := by unfold Hid; rw [HIN2.out]; simp [he]
          clear he
          go_wp2_with fail
          go_quiet (fail)
          go_wp2_with fail
          go_ret2
          exact ⟨by rw [HBEL.out, HF.out]; rfl, by first | exact HU.out.drewN _ | exact HU.out.drew⟩
        · have t1 : (m == k) = false := by simpa using he
          have HF : Hid (isIn ltIJ l k = false) := by unfold Hid; rw [HIN2.out]; simp [he]
          clear he
          go_wp2_with fail
          go_quiet (fail)
          go_wp2_with fail
          go_ret2
          exact ⟨by rw [HBEL.out, HF.out]; rfl, by first | exact HU.out.drewN _ | exact HU.out.drew⟩
      · have HF : Hid (isIn ltIJ l k = false) := by unfold Hid; rw [HIN.out]; simp [hal]
        have hd : decide (a < l.length) = false := by simpa using hal
        go_wp2_with fail
        go_quiet (fail)
        go_wp2_with fail
        go_ret2
        exact ⟨by rw [HBEL.out, HF.out]; rfl, by first | exact HU.out.drewN _ | exact HU.out.drew⟩
end
end Go.Proofs.Ytmhdhnipljonlaa
namespace Go.Proofs.Ytmhdhnipljonlaa
open Go.RowKit
set_option linter.unusedSimpArgs false
set_option linter.unusedVariables false
theorem rcIJ_one : ∀ p, ∀ u ∈ rcIJ p, u.oneCell' = true := by intro p u hu; simp [rcIJ] at hu; rcases hu with rfl | rfl <;> rfl
theorem undIJ : Try.prog.underlying 128 = some (.slice 136) := by kernel_rfl
section
variable {base : Nat} {g : Nat} {lv : Value} {l : List (Int × Int)} {w w' : World}
end
section
variable {base : Nat} {g : Nat} {lv : Value} {l : List (Int × Int)} {w w' : World}
end
end Go.Proofs.Ytmhdhnipljonlaa
namespace Go.Proofs.Ytmhdhnipljonlaa
open Go.RowKit
set_option linter.unusedSimpArgs false
set_option linter.unusedVariables false
section
variable {base : Nat} {g : Nat} {lv : Value} {l : List (Int × Int)} {w w' : World}
set_option maxRecDepth 20000 in
set_option maxHeartbeats 400000 in
theorem tGetIJ_no (w : World) (k : Int) (hs : TBIJ base w g lv l) (hr : Rising ltIJ l) (hlen : l.length ≤ 100000) (hk : I64 k) (hn : isIn ltIJ l k = false) :
    Calls Try.prog 57 #[.pointer (some ⟨g, 0, none⟩), iv k] w fun e w' => e = .returned (.tuple #[.int .i64 0, .bool false]) ∧ Upd [] w w' := by
  have hc := tFindIJ_any w k hs hr hlen hk
  rw [hn] at hc
  have HC := Lib.hid hc
  clear hs hr hlen hk hc hn
  go_enter Try.func57, Try.ntmps57
  go_wp2_with fail
  refine HC.out.mono ?_
  rintro e w1 ⟨rfl, hu1⟩
  go_wp2_with fail
  go_ret2
  exact ⟨rfl, hu1⟩
set_option maxRecDepth 20000 in
set_option maxHeartbeats 400000 in
theorem tGetIJ_ok (w : World) (k : Int) (hs : TBIJ base w g lv l) (hr : Rising ltIJ l) (hlen : l.length ≤ 100000) (hk : I64 k) (hn : isIn ltIJ l k = true) :
    Calls Try.prog 57 #[.pointer (some ⟨g, 0, none⟩), iv k] w fun e w' => e = .returned (.tuple #[iv (nth l (below ltIJ l k)).2, .bool true]) ∧ Upd [] w w' := by
  have hc := tFindIJ_any w k hs hr hlen hk
  rw [hn] at hc
  have HC := Lib.hid hc
  unfold isIn at hn
  have hlt := (of_decide_eq_true hn).1
  obtain ⟨ao, co, rfl, hlc, hcm, hcell⟩ := hs.rows.rd rcIJ_len
  obtain ⟨b, off, rfl, hc'⟩ := hcell (by intro h; simp [h] at hlt)
  have D0 := Lib.hid (show w.cell? ⟨g, 0, none⟩ = some (.slice (some ⟨b, off, none⟩) l.length co) from hs.tab.cell 0)
  have D1 := Lib.hid (show w.cell? ⟨b, off + below ltIJ l k * 2 + 1, none⟩ = some (iv (nth l (below ltIJ l k)).2) from hc' _ hlt 1 (by omega))
  clear hs hr hk hc hn hcell hc' hcm
  generalize (nth l (below ltIJ l k)).2 = x at *
  generalize below ltIJ l k = i at *
  have q1 : (0 : Int) ≤ i := by omega
  have q2 : (i : Int) < l.length := by omega
  go_enter Try.func57, Try.ntmps57
  go_wp2_with fail
  refine HC.out.mono ?_
  rintro e w1 ⟨rfl, hu1⟩
  have d0 := hu1.cell D0.out (by simp)
  have d1 := hu1.cell D1.out (by simp)
  go_wp2_with fail
  go_ret2
  exact ⟨rfl, hu1⟩
end
end Go.Proofs.Ytmhdhnipljonlaa
namespace Go.Proofs.Ytmhdhnipljonlaa
open Go.RowKit
set_option linter.unusedSimpArgs false
set_option linter.unusedVariables false
section
variable {base : Nat} {g : Nat} {lv : Value} {l : List (Int × Int)} {w w' : World}
set_option maxRecDepth 20000 in
set_option maxHeartbeats 400000 in
theorem tSetIJ_old (w : World) (k : Int) (v : Int) (hs : TBIJ base w g lv l) (hr : Rising ltIJ l) (hlen : l.length ≤ 100000) (hk : I64 k) (hn : isIn ltIJ l k = true) :
    Calls Try.prog 56 #[.pointer (some ⟨g, 0, none⟩), iv k, iv v] w fun e w' => e = .returned (.bool false) ∧ TBIJ base w' g lv (l.set (below ltIJ l k) ((nth l (below ltIJ l k)).1, v)) ∧ Upd (blk lv) w w' := by
  have hc := tFindIJ_any w k hs hr hlen hk
  rw [hn] at hc
  have HC := Lib.hid hc
  have HS := Lib.hid hs
  unfold isIn at hn
  have hlt := (of_decide_eq_true hn).1
  have hgl := hs.g_lv
  rcases hs.rows.2 with ⟨-, h0⟩ | ⟨b, co, cur, rfl, hb, hg, -⟩
  · omega
  have D0 := Lib.hid (show w.cell? ⟨g, 0, none⟩ = some (.slice (some ⟨b, 0, none⟩) l.length co) from hs.tab.cell 0)
  have HL := Lib.hid hlt
  have D1 := Lib.hid (show ∃ u, w.cell? ⟨b, below ltIJ l k * 2 + 1, none⟩ = some u from by
    obtain ⟨ao', co', e', -, -, hcell⟩ := hs.rows.rd rcIJ_len
    injection e' with e1 e2 e3
    obtain ⟨b', off, e4, hc'⟩ := hcell (by intro h; simp [h] at hlt)
    rw [e4] at e1
    injection e1 with e1; injection e1 with e1 e5
    subst e1; subst e5
    exact ⟨_, by simpa using hc' _ hlt 1 (by omega)⟩)
  have HG := Lib.hid hg
  clear hs hr hk hc hn hgl hg
  generalize below ltIJ l k = i at *
  have q1 : (0 : Int) ≤ i := by omega
  have q2 : (i : Int) < l.length := by omega
  go_enter Try.func56, Try.ntmps56
  go_wp2_with fail
  with_reducible refine HC.out.mono ?_
  rintro e w1 ⟨rfl, hu1⟩
  have d0 := hu1.cell D0.out (by simp)
  obtain ⟨u, hu⟩ := D1.out
  have d1 := hu1.cell hu (by simp)
  have f1 : w1.frozen? ⟨b, i * 2 + 1, none⟩ = false := frozen_of_row w1 b _ cur _ (hu1.heap HG.out (by simp))
  go_wp2_with fail
  go_ret
  have hst : Upd [b] w1 (w1.setCell ⟨b, i * 2 + 1, none⟩ (iv v)) := (Upd.refl [b] w1).setCell _ _ (.inl (by simp))
  have hs1 := HS.out.upd0 hu1
  have hl := HL.out
  have hgb : g ≠ b := fun e => HS.out.g_lv (by rw [e]; simp [blk])
  refine ⟨rfl, ⟨hs1.tab.upd hst (by simpa using hgb), ?_, hs1.gb⟩, ?_⟩
  · refine OwnN.set_ rcIJ_len hs1.rows i 1 hl (by omega) (iv v) _ ?_
    rw [nth_get l i hl]
    rfl
  · exact (show Upd [b] w w1 from hu1.mono (by simp)).setCell _ _ (.inl (by simp))
end
end Go.Proofs.Ytmhdhnipljonlaa
namespace Go.Proofs.Ytmhdhnipljonlaa
open Go.RowKit
set_option linter.unusedSimpArgs false
set_option linter.unusedVariables false
section
variable {base : Nat} {g : Nat} {lv : Value} {l : List (Int × Int)} {w w' : World}
set_option maxRecDepth 20000 in
set_option maxHeartbeats 1000000 in
theorem slInsIJ_end (w : World) (v : Value) (vb : Nat) (x : Int × Int) (hs : OwnN 2 rcIJ base 136 w v l) (hlen : l.length ≤ 100000) (hbs : base ≤ w.heap.size) (hv : Blk w vb 136 (rcIJ x)) :
    Calls Try.prog 86 #[v, .int .i64 (l.length : Int), .slice (some ⟨vb, 0, none⟩) 1 1] w fun e w' => ∃ v', e = .returned v' ∧ OwnN 2 rcIJ base 136 w' v' (l ++ [x]) ∧ Upd (blk v) w w' ∧ (∀ y ∈ blk v', y ∈ blk v ∨ w.heap.size ≤ y) := by
  have hrd : RdN 2 rcIJ w (.slice (some ⟨vb, 0, none⟩) 1 1) [x] := ⟨_, 1, rfl, by simp, by simp [maxLen], fun _ => ⟨vb, 0, rfl, fun j hj i hi => by
    simp at hj; subst hj
    rw [hv.cell]; simp [nth_cons_zero]⟩⟩
  have HR := Lib.hid (fun ty => run_appN (P := Try.prog) (ty := ty) rcIJ_len (by decide) rcIJ_one undIJ infoRowIJ rfl v _ l [x] hs hrd (by simp; omega) (by simp [maxLen]; omega) hbs)
  obtain ⟨ao, n, co, rfl⟩ := hs.slice_
  have hn : n = l.length ∧ l.length ≤ co := by
    rcases hs.2 with ⟨he, h0⟩ | ⟨_, _, _, he, _, _, hc, _⟩
    · injection he with e1 e2 e3; subst e2; subst e3; exact ⟨h0.symm, by omega⟩
    · injection he with e1 e2 e3; subst e2; subst e3; exact ⟨rfl, hc⟩
  obtain ⟨rfl, hco⟩ := hn
  clear hs hrd hv
  have hd : co = l.length ∨ ¬ co = l.length := by omega
  rcases hd with hd | hd
  all_goals
    go_enter Try.func86, Try.ntmps86
    go_wp2_with (at_builtin; refine wpList_app_of rfl _ _ rfl (.slice ao l.length co) (.slice (some ⟨vb, 0, none⟩) 1 1) rfl rfl (HR.out _) ?_; rintro v1 w3 ⟨ho3, hu3, hb3⟩; have HO3 := Lib.hid ho3; obtain ⟨a1, n1, c1, rfl⟩ := ho3.slice_; clear ho3)
    go_ret
    exact ⟨_, rfl, HO3.out, hu3, hb3⟩
theorem ovlIJ (w : World) (vb gb vo go_ la ca lb cb kA kB : Nat) (tA tB : TypeId) (hne : vb ≠ gb) (hsa : w.shape? vb = some (tA, kA)) (hsb : w.shape? gb = some (tB, kB)) (hkB : kB ≠ 0) (hfa : w.frozen? ⟨vb, vo, none⟩ = false) (hfe : w.frozen? ⟨vb, kA, none⟩ = false) :
    (callFunc 98 #[.slice (some ⟨vb, vo, none⟩) la ca, .slice (some ⟨gb, go_, none⟩) lb cb]).run Try.prog w = .ok (.value (.bool false)) w := by
  have hz : ∀ w, (sizeOf 136).run Try.prog w = .ok 2 w := by
    intro w
    obtain ⟨i, h1, h2, h3, h4⟩ := info_parts infoRowIJ
    simp [sizeOf, typeInfo, h1, h3]
  rw [run_callFunc_extern Try.func98 (by kernel_rfl) (by kernel_rfl) (by kernel_rfl) (e := Extern.SlicesOverlaps.overlaps #[128, 128] #[4]) (by kernel_rfl),
    Lib.run_overlaps_apart w 128 4 136 undIJ 2 hz ⟨vb, vo, none⟩ ⟨gb, go_, none⟩ la ca lb cb hne tA tB kA kB hsa hsb hkB hfa hfe]
  rfl
set_option maxRecDepth 20000 in
set_option maxHeartbeats 2000000 in
theorem slInsIJ_shift (w : World) (g n cap i : Nat) (vb : Nat) (x : Int × Int) (hs : OwnN 2 rcIJ base 136 w (.slice (some ⟨g, 0, none⟩) n cap) l) (hi : i < l.length) (hroom : l.length + 1 ≤ cap) (hlen : l.length ≤ 100000) (hv : Blk w vb 136 (rcIJ x)) (hvg : vb ≠ g) :
    Calls Try.prog 86 #[.slice (some ⟨g, 0, none⟩) n cap, .int .i64 (i : Int), .slice (some ⟨vb, 0, none⟩) 1 1] w fun e w' => ∃ v', e = .returned v' ∧ OwnN 2 rcIJ base 136 w' v' (l.take i ++ x :: l.drop i) ∧ Upd [g] w w' ∧ (∀ y ∈ blk v', y ∈ [g] ∨ w.heap.size ≤ y) := by
  obtain ⟨rfl, hb, hc, hm, cur, hg, hsz, hp⟩ := hs.open_ rcIJ_len
  have hdl : ((l.drop i).flatMap rcIJ).length = (l.length - i) * 2 := by rw [flatMap_len rcIJ_len, List.length_drop]
  have htl : ((l.take i).flatMap rcIJ).length = i * 2 := by rw [flatMap_len rcIJ_len, List.length_take]; congr 1; omega
  have hp1 : Piece cur 0 ((l.take i).flatMap rcIJ) := by rw [flat_split rcIJ l i] at hp; exact hp.left
  have hp2 : Piece cur (i * 2) ((l.drop i).flatMap rcIJ) := by rw [flat_split rcIJ l i] at hp; have := hp.right; rwa [htl, Nat.zero_add] at this
  have h1c : ∀ u ∈ (l.drop i).flatMap rcIJ, u.oneCell' = true := mem_flat_one rcIJ_one _
  generalize hcs : (l.drop i).flatMap rcIJ = cs at *
  have hcap : (l.length + 1) * 2 ≤ cur.size := by rw [hsz]; exact Nat.mul_le_mul_right 2 (by omega)
  have hfit : (i + 1) * 2 + cs.length ≤ cur.size := by rw [hdl]; omega
  have hA := (fun ty dc sc => run_copy_lay (P := Try.prog) (sz := 2) (dT := 128) (sT := 128) (ty := ty) (dLen := l.length + 1 - (i + 1)) (dCap := dc) (a := ⟨g, i * 2, none⟩) (sLen := l.length + 1 - i) (sCap := sc) (k := l.length - i) undIJ (by kernel_rfl) w.drew hg (by simp only [Nat.min_def]; split <;> omega) hdl (fun j u hu => by rw [add_none]; exact hp2.cell hg j u hu) hfit h1c)
  have hz := lay_sz cur ((i + 1) * 2) cs hfit
  have k1 := hp1.stay ((i + 1) * 2) cs hfit (.inl (by omega))
  have k2 := Piece.lay cur ((i + 1) * 2) cs hfit
  generalize lay_ cur ((i + 1) * 2) cs = cur1 at *
  have hg1 : (w.drew.setRow g cur1).heap[g]? = some (.cells cur1 136 (0, 0)) := setRow_heap w.drew g cur cur1 _ _ hg
  have hu1 : Upd [g] w (w.drew.setRow g cur1) := (Upd.refl [g] w).drew.setRow g _ (.inl (by simp))
  have hv1 := hv.upd hu1 (by simpa using hvg)
  obtain ⟨W1, hW1⟩ : ∃ W1, W1 = w.drew.setRow g cur1 := ⟨_, rfl⟩
  rw [← hW1] at hA hg1 hu1 hv1
  have hfx : i * 2 + (rcIJ x).length ≤ cur1.size := by rw [hz, rcIJ_len]; omega
  have hB := (fun ty dc => run_copy_lay (P := Try.prog) (sz := 2) (dT := 128) (sT := 128) (ty := ty) (dLen := l.length + 1 - i) (dCap := dc) (a := ⟨vb, 0, none⟩) (sLen := 1) (sCap := 1) (k := 1) (cs := rcIJ x) undIJ (by kernel_rfl) W1 hg1 (by simp only [Nat.min_def]; split <;> omega) rfl (fun j u hu => by rw [add_none, hv1.cell, Nat.zero_add]; exact hu) hfx (rcIJ_one x))
  have hz2 := lay_sz cur1 (i * 2) (rcIJ x) hfx
  have m1 := k1.stay (i * 2) (rcIJ x) hfx (.inl (by omega))
  have m2 := Piece.lay cur1 (i * 2) (rcIJ x) hfx
  have m3 := k2.stay (i * 2) (rcIJ x) hfx (.inr (by rw [rcIJ_len]; omega))
  generalize lay_ cur1 (i * 2) (rcIJ x) = cur2 at *
  have HK := Lib.hid (show OwnN 2 rcIJ base 136 (W1.setRow g cur2) (.slice (some ⟨g, 0, none⟩) (l.length + 1) cap) (l.take i ++ x :: l.drop i) from by
    refine OwnN.of_piece rcIJ_len cur2 (by simp; omega) hb (by simp; omega) hm (setRow_heap _ g cur1 _ _ _ hg1) (by rw [hz2, hz, hsz]) ?_
    rw [List.flatMap_append, List.flatMap_cons, hcs]
    refine m1.app ?_
    rw [htl, Nat.zero_add (i * 2)]
    refine m2.app ?_
    rw [rcIJ_len, show i * 2 + 2 = (i + 1) * 2 by omega]
    exact m3)
  have HU := Lib.hid (show Upd [g] w (W1.setRow g cur2) from hu1.setRow g _ (.inl (by simp)))
  obtain ⟨W2, hW2⟩ : ∃ W2, W2 = W1.setRow g cur2 := ⟨_, rfl⟩
  rw [← hW2] at hB HK HU
  have HA := Lib.hid hA
  have HB := Lib.hid hB
  have HO := Lib.hid (fun lb cb => ovlIJ w vb g 0 ((i + 1) * 2) 1 1 lb cb (rcIJ x).toArray.size cur.size 136 136 hvg (by unfold World.shape?; rw [show w.heap[vb]? = _ from hv]) (by unfold World.shape?; rw [hg]) (by omega) (hv.frozen 0) (hv.frozen _))
  clear hs hp hp1 hp2 hsz hg hdl htl h1c hfit hz k1 k2 hg1 hcs hcap hA hB hv hv1 hu1 hfx hz2 m1 m2 m3 hW1 hW2
  have HL := Lib.hid (show True from trivial)
  generalize l.length = n at *
  have hc63 : cap ≤ 9223372036854775807 := by unfold maxLen at hm; omega
  have hz1 : ¬ ((i : Int) = (n : Int)) := by omega
  have hw1 : IntKind.i64.wrap ((i : Int) + 1) = (i : Int) + 1 := by rw [IntKind.wrap_i64]; omega
  have hw2 : IntKind.i64.wrap ((n : Int) + 1) = (n : Int) + 1 := by rw [IntKind.wrap_i64]; omega
  have b1 : (0 : Int) ≤ (i : Int) + 1 := by omega
  have b2 : (0 : Int) ≤ (n : Int) + 1 := by omega
  have t1 : ((i : Int) + 1).toNat = i + 1 := by omega
  have t2 : ((n : Int) + 1).toNat = n + 1 := by omega
  have b3 : ¬ (cap = i + 1) := by omega
  have b4 : ¬ (cap = i) := by omega
  have b5 : (i : Int) + 1 ≤ (n : Int) + 1 := by omega
  have b6 : (i : Int) ≤ (n : Int) + 1 := by omega
  have b7 : (n : Int) + 1 ≤ (cap : Int) := by omega
  have b8 : i ≤ n := by omega
  go_enter Try.func86, Try.ntmps86
  go_wp2_with (simp only [HO.out])
  go_region_law (refine step_copy_eq rfl (.tmp 73) (.tmp 76) 128 128 rfl (.slice (some ⟨g, (i + 1) * 2, none⟩) (n + 1 - (i + 1)) (cap - (i + 1))) (.slice (some ⟨g, i * 2, none⟩) (n + 1 - i) (cap - i)) (by simp [Act.eval, Act.put]) (by simp [Act.eval, Act.put]) (HA.out _ _ _) ?_)
  go_wp2_with (with_reducible refine wpList_copy_eq rfl (.tmp 80) (.tmp 81) 128 128 rfl (.slice (some ⟨g, i * 2, none⟩) (n + 1 - i) (cap - i)) (.slice (some ⟨vb, 0, none⟩) 1 1) rfl rfl (HB.out _ _) ?_)
  go_ret
  exact ⟨_, rfl, HK.out, HU.out, fun y hy => .inl (by simpa [blk] using hy)⟩
set_option maxRecDepth 20000 in
set_option maxHeartbeats 2000000 in
theorem slInsIJ_grow (w : World) (g n cap i : Nat) (vb : Nat) (x : Int × Int) (hs : OwnN 2 rcIJ base 136 w (.slice (some ⟨g, 0, none⟩) n cap) l) (hi : i < l.length) (hroom : cap < l.length + 1) (hlen : l.length ≤ 100000) (hbs : base ≤ w.heap.size) (hv : Blk w vb 136 (rcIJ x)) :
    Calls Try.prog 86 #[.slice (some ⟨g, 0, none⟩) n cap, .int .i64 (i : Int), .slice (some ⟨vb, 0, none⟩) 1 1] w fun e w' => ∃ v', e = .returned v' ∧ OwnN 2 rcIJ base 136 w' v' (l.take i ++ x :: l.drop i) ∧ Upd [g] w w' ∧ (∀ y ∈ blk v', y ∈ [g] ∨ w.heap.size ≤ y) := by
  obtain ⟨rfl, hb, hc, hm, cur, hg, hsz, hp⟩ := hs.open_ rcIJ_len
  obtain ⟨i0, hi0, hz0, hzs, hzb⟩ := info_parts infoRowIJ
  have hdl : ((l.drop i).flatMap rcIJ).length = (l.length - i) * 2 := by rw [flatMap_len rcIJ_len, List.length_drop]
  have htl : ((l.take i).flatMap rcIJ).length = i * 2 := by rw [flatMap_len rcIJ_len, List.length_take]; congr 1; omega
  have hp1 : Piece cur 0 ((l.take i).flatMap rcIJ) := by rw [flat_split rcIJ l i] at hp; exact hp.left
  have hp2 : Piece cur (i * 2) ((l.drop i).flatMap rcIJ) := by rw [flat_split rcIJ l i] at hp; have := hp.right; rwa [htl, Nat.zero_add] at this
  have h1c : ∀ u ∈ (l.drop i).flatMap rcIJ, u.oneCell' = true := mem_flat_one rcIJ_one _
  have hgw : g < w.heap.size := (Array.getElem?_eq_some_iff.1 hg).1
  have hold : (Builtin.firstCells i0.size i (.slice (some ⟨g, 0, none⟩) i cap)).run Try.prog w.drew = .ok ((l.take i).flatMap rcIJ).toArray w.drew := by
    rw [hzs]
    exact run_firstCells_some w.drew 2 i ⟨g, 0, none⟩ i cap _ htl (fun j u hu => by rw [add_none]; exact hp1.cell hg j u hu)
  have hkk : (l.length : Int) + 1 - (i : Int) = ((l.length + 1 - i : Nat) : Int) := by omega
  have hik : i + (l.length + 1 - i) = l.length + 1 := by omega
  have u3 : Try.prog.underlying 3 = some (.int .i64) := by kernel_rfl
  have hrz := fun ty => Lib.run_append_grow_zeros (P := Try.prog) w 128 3 ty 136 i0 _ .i64 .i64 undIJ u3 hi0 hz0 (some ⟨g, 0, none⟩) i cap _ hold (l.length + 1 - i) (by omega) (by omega) (by omega) (by omega) (by rw [hzb]; omega) (by rw [hzb, hik]; exact growslice_fits (by omega) (by omega))
  rw [hik] at hrz
  have hGe := grownCap_ge w (l.length + 1) cap 136
  have hGm : grownCap w (l.length + 1) cap 136 ≤ maxLen := grownCap_le_maxLen w (l.length + 1) cap _ (by unfold maxLen; omega)
  generalize grownCap w (l.length + 1) cap 136 = G at *
  obtain ⟨ROW, hROW⟩ : ∃ ROW : Array Value, ROW = ((l.take i).flatMap rcIJ).toArray ++ Builtin.zeroCells (Value.agg #[.int .i64 0, .int .i64 0]).cells (l.length + 1 - i) ++ Builtin.zeroCells (Value.agg #[.int .i64 0, .int .i64 0]).cells (G - (l.length + 1)) := ⟨_, rfl⟩
  rw [← hROW] at hrz
  have hzz : (Value.agg #[.int .i64 0, .int .i64 0]).cells.size = 2 := rfl
  have hRs : ROW.size = G * 2 := by
    rw [hROW]
    simp only [Array.size_append, List.size_toArray, size_zeroCells, hzz, htl]
    omega
  have hRp : Piece ROW 0 ((l.take i).flatMap rcIJ) := fun j u hu => by
    have hj := (List.getElem?_eq_some_iff.1 hu).1
    rw [hROW, Array.append_assoc, Array.getElem?_append_left (by simp only [Array.size_append, List.size_toArray]; omega), Nat.zero_add]
    simpa using hu
  clear hROW hold hp1
  obtain ⟨W1, hW1⟩ : ∃ W1, W1 = w.drew.alloc (.cells ROW 136) := ⟨_, rfl⟩
  rw [← hW1] at hrz
  have hg1 : W1.heap[w.heap.size]? = some (.cells ROW 136 (0, 0)) := by rw [hW1]; exact heap_alloc_new w.drew _
  have hu1 : Upd [] w W1 := by rw [hW1]; exact (Upd.refl [] w).drew.alloc _
  have hv1 := hv.upd hu1 (by simp)
  have hgg := hu1.heap hg (by simp)
  generalize hgn : w.heap.size = gn at *
  have hgne : g ≠ gn := by omega
  have hvw : vb < gn := by rw [← hgn]; exact hv.lt
  have hvne : vb ≠ gn := by omega
  have hfx : i * 2 + (rcIJ x).length ≤ ROW.size := by rw [hRs, rcIJ_len]; omega
  have hB := (fun ty dc => run_copy_lay (P := Try.prog) (sz := 2) (dT := 128) (sT := 128) (ty := ty) (dLen := l.length + 1 - i) (dCap := dc) (a := ⟨vb, 0, none⟩) (sLen := 1) (sCap := 1) (k := 1) (cs := rcIJ x) undIJ (by kernel_rfl) W1 hg1 (by simp only [Nat.min_def]; split <;> omega) rfl (fun j u hu => by rw [add_none, hv1.cell, Nat.zero_add]; exact hu) hfx (rcIJ_one x))
  have hz2 := lay_sz ROW (i * 2) (rcIJ x) hfx
  have m1 := hRp.stay (i * 2) (rcIJ x) hfx (.inl (by omega))
  have m2 := Piece.lay ROW (i * 2) (rcIJ x) hfx
  generalize lay_ ROW (i * 2) (rcIJ x) = cur1 at *
  have hg2 : (W1.setRow gn cur1).heap[gn]? = some (.cells cur1 136 (0, 0)) := setRow_heap W1 gn ROW cur1 _ _ hg1
  have hu2 : Upd [gn] W1 (W1.setRow gn cur1) := (Upd.refl [gn] W1).setRow gn _ (.inl (by simp))
  have hgg2 := hu2.heap hgg (by simpa using hgne)
  obtain ⟨W2, hW2⟩ : ∃ W2, W2 = W1.setRow gn cur1 := ⟨_, rfl⟩
  rw [← hW2] at hB hg2 hu2 hgg2
  generalize hcs : (l.drop i).flatMap rcIJ = cs at *
  have hfit : (i + 1) * 2 + cs.length ≤ cur1.size := by rw [hdl, hz2, hRs]; omega
  have hA := (fun ty dc sc => run_copy_lay (P := Try.prog) (sz := 2) (dT := 128) (sT := 128) (ty := ty) (dLen := l.length + 1 - (i + 1)) (dCap := dc) (a := ⟨g, i * 2, none⟩) (sLen := l.length - i) (sCap := sc) (k := l.length - i) undIJ (by kernel_rfl) W2.drew hg2 (by simp only [Nat.min_def]; split <;> omega) hdl (fun j u hu => by rw [add_none]; exact hp2.cell hgg2 j u hu) hfit h1c)
  have hz3 := lay_sz cur1 ((i + 1) * 2) cs hfit
  have k1 := m1.stay ((i + 1) * 2) cs hfit (.inl (by omega))
  have k2 := m2.stay ((i + 1) * 2) cs hfit (.inl (by rw [rcIJ_len]; omega))
  have k3 := Piece.lay cur1 ((i + 1) * 2) cs hfit
  generalize lay_ cur1 ((i + 1) * 2) cs = cur2 at *
  have HK := Lib.hid (show OwnN 2 rcIJ base 136 (W2.drew.setRow gn cur2) (.slice (some ⟨gn, 0, none⟩) (l.length + 1) G) (l.take i ++ x :: l.drop i) from by
    refine OwnN.of_piece rcIJ_len cur2 (by simp; omega) hbs (by simp; omega) hGm (setRow_heap W2.drew gn cur1 _ _ _ hg2) (by rw [hz3, hz2, hRs]) ?_
    rw [List.flatMap_append, List.flatMap_cons, hcs]
    refine k1.app ?_
    rw [htl, Nat.zero_add (i * 2)]
    refine k2.app ?_
    rw [rcIJ_len, show i * 2 + 2 = (i + 1) * 2 by omega]
    exact k3)
  have HU := Lib.hid (show Upd [g] w (W2.drew.setRow gn cur2) from (((hu1.trans (T := [g]) hu2 (by simp) (fun y hy => .inr (by simp at hy; omega))).drew).setRow gn _ (.inr (by omega))))
  obtain ⟨W3, hW3⟩ : ∃ W3, W3 = W2.drew.setRow gn cur2 := ⟨_, rfl⟩
  rw [← hW3] at hA HK HU
  have HA := Lib.hid hA
  have HB := Lib.hid hB
  have hrz' : ∀ ty, (Builtin.append_ #[128, 3] ty #[.slice (some ⟨g, 0, none⟩) i cap, .int .i64 ((l.length : Int) + 1 - (i : Int))]).run Try.prog w = .ok (.slice (some ⟨gn, 0, none⟩) (l.length + 1) G) W1 := fun ty => by rw [hkk]; exact hrz ty
  have HZ := Lib.hid hrz'
  have HG := Lib.hid hgn
  clear hs hp hp2 hsz hg hdl htl h1c hfit k1 k2 k3 hg1 hg2 hcs hA hB hv hv1 hu1 hu2 hfx hz2 hz3 m1 m2 hW1 hW2 hW3 hrz hrz' hgg hgg2 hRs hRp hgn hgw hi0 hz0 hzs hzb hkk hik hzz hgne hvw hvne
  generalize l.length = n at *
  obtain rfl : cap = n := by omega
  have hc63 : G ≤ 9223372036854775807 := by unfold maxLen at hGm; omega
  have hz1 : ¬ ((i : Int) = (cap : Int)) := by omega
  have hw1 : IntKind.i64.wrap ((i : Int) + 1) = (i : Int) + 1 := by rw [IntKind.wrap_i64]; omega
  have hw2 : IntKind.i64.wrap ((cap : Int) + 1) = (cap : Int) + 1 := by rw [IntKind.wrap_i64]; omega
  have hw3 : IntKind.i64.wrap ((cap : Int) + 1 - (i : Int)) = (cap : Int) + 1 - (i : Int) := by rw [IntKind.wrap_i64]; omega
  have b1 : (0 : Int) ≤ (i : Int) + 1 := by omega
  have b2 : (0 : Int) ≤ (cap : Int) + 1 := by omega
  have t1 : ((i : Int) + 1).toNat = i + 1 := by omega
  have t2 : ((cap : Int) + 1).toNat = cap + 1 := by omega
  have b3 : ¬ (G = i + 1) := by omega
  have b4 : ¬ (G = i) := by omega
  have b5 : (i : Int) + 1 ≤ (cap : Int) + 1 := by omega
  have b6 : (i : Int) ≤ (cap : Int) + 1 := by omega
  have b7 : ¬ (cap = i) := by omega
  have b8 : i ≤ cap := by omega
  go_enter Try.func86, Try.ntmps86
  go_wp2_with (first
    | (at_builtin; refine wpList_app_eq rfl _ _ 128 3 rfl (.slice (some ⟨g, 0, none⟩) i cap) (.int .i64 ((cap : Int) + 1 - (i : Int))) rfl rfl (HZ.out _) ?_)
    | (with_reducible refine wpList_copy_eq rfl (.tmp 43) (.tmp 44) 128 128 rfl (.slice (some ⟨gn, i * 2, none⟩) (cap + 1 - i) (G - i)) (.slice (some ⟨vb, 0, none⟩) 1 1) rfl rfl (HB.out _ _) ?_))
  go_region_law (refine step_copy_eq rfl (.tmp 50) (.tmp 53) 128 128 rfl (.slice (some ⟨gn, (i + 1) * 2, none⟩) (cap + 1 - (i + 1)) (G - (i + 1))) (.slice (some ⟨g, i * 2, none⟩) (cap - i) (cap - i)) (by simp [Act.eval, Act.put]) (by simp [Act.eval, Act.put]) (HA.out _ _ _) ?_)
  go_wp2_with fail
  go_ret
  exact ⟨_, rfl, HK.out, HU.out, fun y hy => .inr (by simp [blk] at hy; have := HG.out; omega)⟩
theorem slInsIJ_any (w : World) (v : Value) (i : Nat) (vb : Nat) (x : Int × Int) (hs : OwnN 2 rcIJ base 136 w v l) (hi : i ≤ l.length) (hlen : l.length ≤ 100000) (hbs : base ≤ w.heap.size) (hv : Blk w vb 136 (rcIJ x)) (hvg : vb ∉ blk v) :
    Calls Try.prog 86 #[v, .int .i64 (i : Int), .slice (some ⟨vb, 0, none⟩) 1 1] w fun e w' => ∃ v', e = .returned v' ∧ OwnN 2 rcIJ base 136 w' v' (l.take i ++ x :: l.drop i) ∧ Upd (blk v) w w' ∧ (∀ y ∈ blk v', y ∈ blk v ∨ w.heap.size ≤ y) := by
  by_cases he : i = l.length
  · subst he
    rw [List.take_length, List.drop_length]
    exact slInsIJ_end w v vb x hs hlen hbs hv
  · rcases hs.2 with ⟨-, h0⟩ | ⟨g, cap, cur, rfl, -⟩
    · omega
    · by_cases hc : l.length + 1 ≤ cap
      · exact slInsIJ_shift w g l.length cap i vb x hs (by omega) hc hlen hv (by simpa [blk] using hvg)
      · exact slInsIJ_grow w g l.length cap i vb x hs (by omega) (by omega) hlen hbs hv
set_option maxRecDepth 20000 in
set_option maxHeartbeats 400000 in
theorem tSetIJ_new (w : World) (k : Int) (y : Int) (hs : TBIJ base w g lv l) (hr : Rising ltIJ l) (hlen : l.length ≤ 100000) (hbs : base ≤ w.heap.size) (hk : I64 k) (hn : isIn ltIJ l k = false) :
    Calls Try.prog 56 #[.pointer (some ⟨g, 0, none⟩), iv k, iv y] w fun e w' => e = .returned (.bool true) ∧ ∃ lv', TBIJ base w' g lv' (l.take (below ltIJ l k) ++ (k, y) :: l.drop (below ltIJ l k)) ∧ Upd (g :: blk lv) w w' ∧ (∀ x ∈ blk lv', x ∈ blk lv ∨ w.heap.size ≤ x) := by
  have hc := tFindIJ_any w k hs hr hlen hk
  rw [hn] at hc
  have HC := Lib.hid hc
  have HS := Lib.hid hs
  have hle := below_le (lt := ltIJ) l k
  have HD := Lib.hid (fun w1 (h : Upd [] w w1) => slInsIJ_any (w1.alloc (.cells #[iv k, iv y] 136)) lv (below ltIJ l k) w1.heap.size (k, y) (hs.rows.upd (h.alloc _) (by simp)) hle hlen (by have := h.size; simp; omega) (Blk.new w1 _ [iv k, iv y]) (fun hx => by have := (hs.rows.ge _ hx).2; have := h.size; omega))
  have D0 := Lib.hid (show w.cell? ⟨g, 0, none⟩ = some lv from hs.tab.cell 0)
  obtain ⟨ao, n, co, rfl⟩ := hs.rows.slice_
  clear hs hr hk hc hn hbs hle
  generalize below ltIJ l k = i at *
  go_enter Try.func56, Try.ntmps56
  go_wp2_with fail
  with_reducible refine HC.out.mono ?_
  rintro e w1 ⟨rfl, hu1⟩
  have d0 := hu1.cell D0.out (by simp)
  have HU1 := Lib.hid hu1
  go_wp2_with fail
  with_reducible refine (HD.out w1 HU1.out).mono ?_
  rintro e w2 ⟨v2, rfl, ho2, hu2, hb2⟩
  have hgl := HS.out.g_lv
  have hu1' := HU1.out.alloc (.cells #[iv k, iv y] 136)
  have f0 : w2.frozen? ⟨g, 0, none⟩ = false := ((HS.out.tab.upd hu1' (by simp)).upd hu2 hgl).frozen 0
  have d2 : w2.cell? ⟨g, 0, none⟩ = some (.slice ao n co) := hu2.cell (hu1'.cell D0.out (by simp)) hgl
  obtain ⟨ao2, n2, co2, rfl⟩ := ho2.slice_
  have hg2 : g ∉ blk (.slice ao2 n2 co2) := fun hx => by
    rcases hb2 g hx with q | q
    · exact hgl q
    · have := HS.out.tab.lt; have := hu1'.size; omega
  have HT := Lib.hid (show TBIJ base (w2.setCell ⟨g, 0, none⟩ (.slice ao2 n2 co2)) g (.slice ao2 n2 co2) (l.take i ++ (k, y) :: l.drop i) from
    ⟨by simpa using ((HS.out.tab.upd hu1' (by simp)).upd hu2 hgl).set_ 0 (.slice ao2 n2 co2), ho2.upd ((Upd.refl [g] _).setCell _ _ (.inl (by simp))) (by intro x hx; simp; rintro rfl; exact hg2 hx), HS.out.gb⟩)
  have HU2 := Lib.hid (show Upd (g :: blk (.slice ao n co)) w (w2.setCell ⟨g, 0, none⟩ (.slice ao2 n2 co2)) from (hu1'.trans (T := g :: blk (.slice ao n co)) hu2 (by simp) (fun x hx => .inl (by simp [hx]))).setCell _ _ (.inl (by simp)))
  have HB2 := Lib.hid (show ∀ x ∈ blk (.slice ao2 n2 co2), x ∈ blk (.slice ao n co) ∨ w.heap.size ≤ x from fun x hx => (hb2 x hx).imp id (fun h => by have := hu1'.size; omega))
  clear ho2 hu1 hu2 hgl hg2 hb2 hu1'
  go_wp2_with fail
  go_ret
  exact ⟨rfl, _, HT.out, HU2.out, HB2.out⟩
theorem tSetIJ_any (w : World) (k : Int) (y : Int) (hs : TBIJ base w g lv l) (hr : Rising ltIJ l) (hlen : l.length ≤ 100000) (hbs : base ≤ w.heap.size) (hk : I64 k) :
    Calls Try.prog 56 #[.pointer (some ⟨g, 0, none⟩), iv k, iv y] w fun e w' => e = .returned (.bool (!isIn ltIJ l k)) ∧ ∃ lv', TBIJ base w' g lv' (tSet ltIJ l k y) ∧ Upd (g :: blk lv) w w' ∧ (∀ x ∈ blk lv', x ∈ blk lv ∨ w.heap.size ≤ x) := by
  cases hn : isIn ltIJ l k with
  | false =>
    refine (tSetIJ_new w k y hs hr hlen hbs hk hn).mono ?_
    rintro e w' ⟨rfl, v', ht, hu, hb⟩
    exact ⟨rfl, v', by unfold tSet; rw [hn]; exact ht, hu, hb⟩
  | true =>
    refine (tSetIJ_old w k y hs hr hlen hk hn).mono ?_
    rintro e w' ⟨rfl, ht, hu⟩
    refine ⟨rfl, lv, ?_, hu.mono (fun x hx => .inl (by simp [hx])), fun x hx => .inl hx⟩
    rw [tSet_in l k y hn]; exact ht
end
end Go.Proofs.Ytmhdhnipljonlaa
namespace Go.Proofs.Ytmhdhnipljonlaa
open Go.RowKit
set_option linter.unusedSimpArgs false
set_option linter.unusedVariables false
/-- A table at g with the rows l; F: its blocks, all made since w0. -/
structure TXIJ (w0 w : World) (g : Nat) (F : List Nat) (l : List (Int × Int)) : Prop where
  ex : ∃ lv, F = g :: blk lv ∧ TBIJ w0.heap.size w g lv l
  ris : Rising ltIJ l
  old : Upd [] w0 w
section
variable {w0 w w' : World} {g : Nat} {F : List Nat} {l : List (Int × Int)}
theorem TXIJ.ge (h : TXIJ w0 w g F l) : ∀ x ∈ F, w0.heap.size ≤ x ∧ x < w.heap.size := by
  obtain ⟨lv, rfl, ht⟩ := h.ex
  exact ht.lt
theorem TXIJ.upd (h : TXIJ w0 w g F l) {S : List Nat} (hu : Upd S w w') (hs : ∀ x ∈ F, x ∉ S) (hS : ∀ x ∈ S, w0.heap.size ≤ x) : TXIJ w0 w' g F l := by
  obtain ⟨lv, rfl, ht⟩ := h.ex
  exact ⟨⟨lv, rfl, ht.upd hu hs⟩, h.ris, h.old.trans hu (by simp) (fun x hx => .inr (hS x hx))⟩
theorem TXIJ.upd0 (h : TXIJ w0 w g F l) (hu : Upd [] w w') : TXIJ w0 w' g F l := h.upd hu (by simp) (by simp)
theorem TXIJ.next (h : TXIJ w0 w g F l) (hu : Upd F w w') : Upd [] w0 w' := h.old.trans hu (by simp) (fun x hx => .inr (h.ge x hx).1)
theorem txIJ_New (w0 w : World) (hu : Upd [] w0 w) :
    Calls Try.prog 48 #[] w fun e w' => ∃ g F, e = .returned (.pointer (some ⟨g, 0, none⟩)) ∧ TXIJ w0 w' g F [] ∧ Upd [] w w' ∧ (∀ x ∈ F, w.heap.size ≤ x) := by
  refine (tNewIJ_any w).mono ?_
  rintro e w' ⟨rfl, ht, hu'⟩
  exact ⟨_, _, rfl, ⟨⟨_, rfl, ⟨ht.tab, OwnN.nil _ _ _, hu.size⟩⟩, Rising.nil, hu.seq hu'⟩, hu', fun x hx => (ht.lt x hx).1⟩
theorem txIJ_Set (k : Int) (y : Int) (r : Bool) (l' : List (Int × Int)) (hs : TXIJ w0 w g F l) (hlen : l.length ≤ 100000) (hk : I64 k) (h1 : (!isIn ltIJ l k) = r) (h2 : tSet ltIJ l k y = l') :
    Calls Try.prog 56 #[.pointer (some ⟨g, 0, none⟩), iv k, iv y] w fun e w' => e = .returned (.bool r) ∧ ∃ F', TXIJ w0 w' g F' l' ∧ Upd F w w' ∧ (∀ x ∈ F', x ∈ F ∨ w.heap.size ≤ x) := by
  subst h1; subst h2
  have hold := hs.old
  obtain ⟨⟨lv, rfl, ht⟩, hr, -⟩ := hs
  refine (tSetIJ_any w k y ht hr hlen hold.size hk).mono ?_
  rintro e w' ⟨rfl, lv', ht', hu, hb⟩
  refine ⟨rfl, g :: blk lv', ⟨⟨lv', rfl, ht'⟩, hr.set_ intOrd k y, hold.trans hu (by simp) (fun x hx => .inr (ht.lt x hx).1)⟩, hu, fun x hx => ?_⟩
  rcases List.mem_cons.1 hx with rfl | hx
  · exact .inl (by simp)
  · exact (hb x hx).imp (fun q => by simp [q]) id
theorem txIJ_Get (k : Int) (y : Int) (r : Bool) (hs : TXIJ w0 w g F l) (hlen : l.length ≤ 100000) (hk : I64 k) (h : tGet ltIJ (0 : Int) l k = (y, r)) :
    Calls Try.prog 57 #[.pointer (some ⟨g, 0, none⟩), iv k] w fun e w' => e = .returned (.tuple #[iv y, .bool r]) ∧ Upd [] w w' := by
  obtain ⟨⟨lv, rfl, ht⟩, hr, -⟩ := hs
  unfold tGet at h
  cases hn : isIn ltIJ l k with
  | false => rw [hn] at h; injection h with h1 h2; subst h1; subst h2; exact tGetIJ_no w k ht hr hlen hk hn
  | true => rw [hn] at h; injection h with h1 h2; subst h1; subst h2; exact tGetIJ_ok w k ht hr hlen hk hn
end
end Go.Proofs.Ytmhdhnipljonlaa
namespace Go.Proofs.Ytmhdhnipljonlaa
open Go.RowKit
set_option linter.unusedSimpArgs false
set_option linter.unusedVariables false
set_option maxHeartbeats 400000 in
theorem within_any (n lo hi : Int) (w : World) (hn : -9223372036854775808 ≤ n ∧ n ≤ 9223372036854775807) (h : lo ≤ hi) (hl : 0 ≤ lo) (hh : hi ≤ 4611686018427387904) :
    Calls Try.prog 24 #[.int .i64 n, .int .i64 lo, .int .i64 hi] w fun e w' => e = .returned (.int .i64 (within n lo hi)) ∧ w = w' := by
  have hp : 0 < hi - lo + 1 := by omega
  obtain ⟨b2, b3⟩ := tmod_bd n (hi - lo + 1) hp
  have hz : ((hi - lo + 1) == 0) = false := by rw [beq_eq_false_iff_ne]; omega
  obtain ⟨hn1, hn2⟩ := hn
  by_cases hs : n.tmod (hi - lo + 1) < 0
  · have HF : Hid (lo + (n.tmod (hi - lo + 1) + hi - lo + 1) = within n lo hi) := by
      unfold Hid within; rw [← within_neg n (hi - lo + 1) hp hs]; omega
    go_enter Try.func24, Try.ntmps24
    go_wp2
    go_ret
    exact ⟨congrArg (fun n => Ending.returned (.int .i64 n)) HF.out, rfl⟩
  · have HF : Hid (lo + n.tmod (hi - lo + 1) = within n lo hi) := by
      unfold Hid within; rw [← within_pos n (hi - lo + 1) hp (by omega)]
    go_enter Try.func24, Try.ntmps24
    go_wp2
    go_ret
    exact ⟨congrArg (fun n => Ending.returned (.int .i64 n)) HF.out, rfl⟩

end Go.Proofs.Ytmhdhnipljonlaa
