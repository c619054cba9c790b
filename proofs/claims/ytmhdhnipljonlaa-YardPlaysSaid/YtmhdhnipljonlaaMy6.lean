/- Texts of the proof, joined: Chapter 4's reads at string,[]uint8. slices. Chapter 4's Get, At and Least at string,[]uint8. Chapter 4's Set on a key that is there, at string,[]uint8. slices. Chapter 4's Keys at string,[]uint8. Chapter 4's At out of range at string,[]uint8. A table of the call's own, at string,[]uint8: the contracts that the laws use. Chapter 22: a table of files in memory. The document's disk: rows of files; where a name stands. Chapter 22 as plain law: how much a call adds. Chapter 22: a raw write is done to a table of files. -/
import Derived.Test.YtmhdhnipljonlaaRows
import Derived.Test.YtmhdhnipljonlaaMy1
import Derived.StillTailTactics
import Derived.Test.YtmhdhnipljonlaaMy5
import Derived.Test.YtmhdhnipljonlaaMy2
import Derived.Laws.Externs
import Derived.Lib.JoinLaws
import Derived.Test.YtmhdhnipljonlaaMy3
import Derived.Deep.RegionHeld3
namespace Go.Proofs.Ytmhdhnipljonlaa
open Go.RowKit
set_option linter.unusedSimpArgs false
set_option linter.unusedVariables false
abbrev rcSL (p : ByteArray × Sl) : List Value := [sv p.1, slv p.2]
theorem rcSL_len : ∀ p, (rcSL p).length = 2 := fun _ => rfl
theorem infoRowSL : (Try.prog.info? 143).map (fun i => (i.zero, i.size, i.bytes)) = some (some (.agg #[.string ⟨#[]⟩, .slice none 0 0]), 2, 40) := by kernel_rfl
abbrev ltSL : ByteArray → ByteArray → Bool := strLt
/-- The table at g, its rows lv. -/
structure TBSL (base : Nat) (w : World) (g : Nat) (lv : Value) (l : List (ByteArray × Sl)) : Prop where
  tab : Blk w g 140 [lv]
  rows : OwnN 2 rcSL base 143 w lv l
  gb : base ≤ g
section
variable {base : Nat} {g : Nat} {lv : Value} {l : List (ByteArray × Sl)} {w w' : World}
theorem TBSL.upd (h : TBSL base w g lv l) {S : List Nat} (hu : Upd S w w') (hs : ∀ x ∈ g :: blk lv, x ∉ S) : TBSL base w' g lv l :=
  ⟨h.tab.upd hu (hs g (by simp)), h.rows.upd hu (fun x hx => hs x (by simp [hx])), h.gb⟩
theorem TBSL.upd0 (h : TBSL base w g lv l) (hu : Upd [] w w') : TBSL base w' g lv l := h.upd hu (by simp)
theorem TBSL.g_lv (h : TBSL base w g lv l) : g ∉ blk lv := fun e => by
  obtain ⟨C, f, hq⟩ := h.rows.typ g e
  exact h.tab.ne g hq (by decide) rfl
theorem TBSL.lt (h : TBSL base w g lv l) : ∀ x ∈ g :: blk lv, base ≤ x ∧ x < w.heap.size := by
  intro x hx
  rcases List.mem_cons.1 hx with rfl | hx
  · exact ⟨h.gb, h.tab.lt⟩
  · exact h.rows.ge x hx
theorem tLenSL_any (w : World) (hs : TBSL base w g lv l) :
    Calls Try.prog 74 #[.pointer (some ⟨g, 0, none⟩)] w fun e w' => e = .returned (.int .i64 (l.length : Int)) ∧ w = w' := by
  obtain ⟨ao, co, rfl, -⟩ := hs.rows.rd rcSL_len
  have c0 : w.cell? ⟨g, 0, none⟩ = some (.slice ao l.length co) := hs.tab.cell 0
  go_enter Try.func74, Try.ntmps74
  go_wp2
  go_ret
  exact ⟨rfl, rfl⟩
theorem tNewSL_any (w : World) :
    Calls Try.prog 58 #[] w fun e w' => e = .returned (.pointer (some ⟨w.heap.size, 0, none⟩)) ∧ TBSL w.heap.size w' w.heap.size (.slice none 0 0) [] ∧ Upd [] w w' := by
  go_enter Try.func58, Try.ntmps58
  go_wp2
  go_ret
  exact ⟨rfl, ⟨Blk.new w _ [.slice none 0 0], OwnN.nil _ _ _, Nat.le_refl _⟩, (Upd.refl [] w).alloc _⟩
set_option maxRecDepth 20000 in
set_option maxHeartbeats 1000000 in
theorem tFindSL_any (w : World) (k : ByteArray) (hs : TBSL base w g lv l) (hr : Rising ltSL l) (hlen : l.length ≤ 100000) (hk : True) :
    Calls Try.prog 87 #[.pointer (some ⟨g, 0, none⟩), sv k] w fun e w' => e = .returned (.tuple #[.int .i64 (below ltSL l k : Int), .bool (isIn ltSL l k)]) ∧ Upd [] w w' := by
  have HS := Lib.hid hs
  have HR := Lib.hid hr
  obtain ⟨ao, co, rfl, hlc, hcm, hcell⟩ := hs.rows.rd rcSL_len
  have c0 : w.cell? ⟨g, 0, none⟩ = some (.slice ao l.length co) := hs.tab.cell 0
  have HC := Lib.hid hcell
  clear hs hr hcell hcm
  go_enter Try.func87, Try.ntmps87
  go_wp2_with fail
  go_quiet (fail)
  have HU := Lib.hid ((Upd.refl [] w).drewN nq)
  generalize w.drewN nq = v at *
  replace c0 := HU.out.cell c0 (by simp)
  go_wp2_with fail
  go_loop [6, 7] (fun lo hi => ∃ a b : Nat, lo = .int .i64 a ∧ hi = .int .i64 b ∧ a ≤ b ∧ b ≤ l.length ∧ Hid (∀ j, j < a → ltSL (nth l j).1 k = true) ∧ Hid (∀ j, b ≤ j → j < l.length → ltSL (nth l j).1 k = false)) (fun lo hi => (intOf hi).toNat - (intOf lo).toNat)
  case atStart => exact ⟨0, l.length, rfl, rfl, Nat.zero_le _, Nat.le_refl _, fun j h => absurd h (by omega), fun j h1 h2 => absurd h1 (by omega)⟩
  case round =>
    obtain ⟨a, b, rfl, rfl, hab, hbl, hlo, hhi⟩ := hrel
    by_cases hlt : a < b
    · have hmid : (a + b) / 2 < l.length := by omega
      obtain ⟨bl, off, rfl, hc⟩ := HC.out (by intro h; simp [h] at hmid)
      have d0 : v.cell? ⟨bl, off + (a + b) / 2 * 2, none⟩ = some (sv (nth l ((a + b) / 2)).1) := HU.out.cell (hc _ hmid 0 (by omega)) (by simp)
      clear hc
      cases hcmp : ltSL (nth l ((a + b) / 2)).1 k with
      | true =>
        have HLO : Hid (∀ j, j < (a + b) / 2 + 1 → ltSL (nth l j).1 k = true) := fun j hj => HR.out.mono strOrd k j ((a + b) / 2) (by omega) hmid hcmp
        generalize (nth l ((a + b) / 2)).1 = m at *
        have hc1 := hcmp
        clear hcmp
        go_wp2
        go_round
        case rel => exact ⟨(a + b) / 2 + 1, b, by go_num, rfl, by omega, hbl, HLO, hhi⟩
        case measure => simp [intOf]; omega
      | false =>
        have HHI : Hid (∀ j, (a + b) / 2 ≤ j → j < l.length → ltSL (nth l j).1 k = false) := fun j h1 h2 => by
          cases hq : ltSL (nth l j).1 k with
          | false => rfl
          | true => exact absurd ((HR.out.mono strOrd k _ j h1 h2 hq).symm.trans hcmp) (by simp)
        generalize (nth l ((a + b) / 2)).1 = m at *
        have hc1 := hcmp
        clear hcmp
        go_wp2
        go_round
        case rel => exact ⟨a, (a + b) / 2, rfl, by go_num, by omega, by omega, hlo, HHI⟩
        case measure => simp [intOf]; omega
    · obtain rfl : a = b := by omega
      have hbel : below ltSL l k = a := below_eq l k a hbl hlo.out (fun h => hhi.out a (Nat.le_refl _) h)
      have HIN : Hid (isIn ltSL l k = decide (a < l.length ∧ (nth l a).1 = k)) := by unfold Hid isIn; rw [hbel]
      have HBEL := Lib.hid hbel
      clear hbel
      by_cases hal : a < l.length
      · obtain ⟨bl, off, rfl, hc⟩ := HC.out (by intro h; simp [h] at hal)
        have d0 : v.cell? ⟨bl, off + a * 2, none⟩ = some (sv (nth l a).1) := HU.out.cell (hc _ hal 0 (by omega)) (by simp)
        have HIN2 : Hid (isIn ltSL l k = decide ((nth l a).1 = k)) := by unfold Hid; rw [HIN.out]; simp [hal]
        clear hc
        generalize (nth l a).1 = m at *
        have q1 : (0 : Int) ≤ a := by omega
        have q2 : (a : Int) < l.length := by omega
        by_cases he : m = k
        · have t1 : (m.toList == k.toList) = true := by rw [he]; simp
          have HF : Hid (isIn ltSL l k = true) := by unfold Hid; rw [HIN2.out]; simp [he]
          clear he
          go_wp2_with fail
          go_quiet (fail)
          go_wp2_with fail
          go_ret2
          exact ⟨by rw [HBEL.out, HF.out]; rfl, by first | exact HU.out.drewN _ | exact HU.out.drew⟩
        · have t1 : (m.toList == k.toList) = false := by rw [beq_eq_false_iff_ne]; exact fun h => he (str_inj _ _ h)
          have HF : Hid (isIn ltSL l k = false) := by unfold Hid; rw [HIN2.out]; simp [he]
          clear he
          go_wp2_with fail
          go_quiet (fail)
          go_wp2_with fail
          go_ret2
          exact ⟨by rw [HBEL.out, HF.out]; rfl, by first | exact HU.out.drewN _ | exact HU.out.drew⟩
      · have HF : Hid (isIn ltSL l k = false) := by unfold Hid; rw [HIN.out]; simp [hal]
        have hd : decide (a < l.length) = false := by simpa using hal
        go_wp2_with fail
        go_quiet (fail)
        go_wp2_with fail
        go_ret2
        exact ⟨by rw [HBEL.out, HF.out]; rfl, by first | exact HU.out.drewN _ | exact HU.out.drew⟩
end
end Go.Proofs.Ytmhdhnipljonlaa
namespace Go.Proofs.Ytmhdhnipljonlaa
open Go.RowKit
set_option linter.unusedSimpArgs false
set_option linter.unusedVariables false
theorem rcSL_one : ∀ p, ∀ u ∈ rcSL p, u.oneCell' = true := by intro p u hu; simp [rcSL] at hu; rcases hu with rfl | rfl <;> rfl
theorem undSL : Try.prog.underlying 138 = some (.slice 143) := by kernel_rfl
section
variable {base : Nat} {g : Nat} {lv : Value} {l : List (ByteArray × Sl)} {w w' : World}
set_option maxRecDepth 20000 in
set_option maxHeartbeats 1000000 in
theorem slDelSL (w : World) (v : Value) (i : Nat) (hs : OwnN 2 rcSL base 143 w v l) (hi : i < l.length) (hlen : l.length ≤ 100000) :
    Calls Try.prog 101 #[v, .int .i64 (i : Int), .int .i64 ((i : Int) + 1)] w fun e w' => ∃ v', e = .returned v' ∧ OwnN 2 rcSL base 143 w' v' (l.take i ++ l.drop (i + 1)) ∧ Upd (blk v) w w' ∧ blk v' = blk v := by
  rcases hs.2 with ⟨-, h0⟩ | ⟨g, cap, cur0, rfl, -⟩
  · omega
  obtain ⟨-, hb, hc, hm, cur, hg, hsz, hp⟩ := hs.open_ rcSL_len
  obtain ⟨m, hlm⟩ : ∃ m, l.length = i + 1 + m := ⟨l.length - (i + 1), by omega⟩
  have hcl : ((l.drop (i + 1)).flatMap rcSL).length = m * 2 := by rw [flatMap_len rcSL_len, List.length_drop, hlm]; congr 1; omega
  have htl : ((l.take i).flatMap rcSL).length = i * 2 := by rw [flatMap_len rcSL_len, List.length_take]; congr 1; omega
  have htl' : ((l.take (i + 1)).flatMap rcSL).length = (i + 1) * 2 := by rw [flatMap_len rcSL_len, List.length_take]; congr 1; omega
  have hp1 : Piece cur 0 ((l.take i).flatMap rcSL) := by rw [flat_split rcSL l i] at hp; exact hp.left
  have hp2 : Piece cur ((i + 1) * 2) ((l.drop (i + 1)).flatMap rcSL) := by rw [flat_split rcSL l (i + 1)] at hp; have := hp.right; rwa [htl', Nat.zero_add] at this
  generalize hcs : (l.drop (i + 1)).flatMap rcSL = cs at *
  have hcap : (i + 1 + m) * 2 ≤ cur.size := by rw [hsz]; exact Nat.mul_le_mul_right 2 (by omega)
  have hfit : i * 2 + cs.length ≤ cur.size := by rw [hcl]; omega
  obtain ⟨A, hA, hsrc⟩ : ∃ A : Addr, (if cap = i + 1 then some (⟨g, 0, none⟩ : Addr) else some ⟨g, (i + 1) * 2, none⟩) = some A ∧ ∀ j u, cs[j]? = some u → w.cell? (A.add j) = some u := by
    by_cases h : cap = i + 1
    · refine ⟨⟨g, 0, none⟩, by simp [h], fun j u hu => ?_⟩
      have h0 : cs.length = 0 := by rw [hcl]; omega
      rw [List.length_eq_zero_iff.1 h0] at hu
      simp at hu
    · refine ⟨⟨g, (i + 1) * 2, none⟩, by simp [h], fun j u hu => ?_⟩
      rw [add_none]; exact hp2.cell hg j u hu
  have h1c : ∀ u ∈ cs, u.oneCell' = true := by rw [← hcs]; exact mem_flat_one rcSL_one _
  have HA := Lib.hid (fun ty c => run_app_lay (P := Try.prog) (ty := ty) (n := i) (m := m) (cap := cap) (c := c) (sz := 2) undSL (by kernel_rfl) w.drew hg hcl hsrc h1c (by omega) hfit)
  have hz := lay_sz cur (i * 2) cs hfit
  have k1 := hp1.stay (i * 2) cs hfit (.inl (by omega))
  have k2 := Piece.lay cur (i * 2) cs hfit
  generalize lay_ cur (i * 2) cs = cur1 at *
  have hg1 : (w.drew.setRow g cur1).heap[g]? = some (.cells cur1 143 (0, 0)) := setRow_heap w.drew g cur cur1 _ _ hg
  have hfit1 : (i + m) * 2 + 1 * 2 ≤ cur1.size := by rw [hz]; omega
  have q7 : i + 1 + m - (i + m) = 1 := by omega
  have hB := (fun ty c => run_clear_lay (P := Try.prog) (ty := ty) (c := c) (n := 1) undSL infoRowSL rfl (by intro u hu; simp [Value.cells] at hu; rcases hu with rfl | rfl <;> rfl) (w.drew.setRow g cur1) (by omega) hg1 hfit1)
  have HB : Hid (∀ ty c, (Builtin.clear_ #[138] ty #[.slice (some ⟨g, (i + m) * 2, none⟩) (i + 1 + m - (i + m)) c]).run Try.prog (w.drew.setRow g cur1) = .ok (.tuple #[]) ((w.drew.setRow g cur1).setRow g (lay_ cur1 ((i + m) * 2) (Builtin.zeroCells (Value.agg #[.string ⟨#[]⟩, .slice none 0 0]).cells 1).toList))) := fun ty c => by rw [q7]; exact hB ty c
  clear hB
  have HK := Lib.hid (show OwnN 2 rcSL base 143 ((w.drew.setRow g cur1).setRow g (lay_ cur1 ((i + m) * 2) (Builtin.zeroCells (Value.agg #[.string ⟨#[]⟩, .slice none 0 0]).cells 1).toList)) (.slice (some ⟨g, 0, none⟩) (i + m) cap) (l.take i ++ l.drop (i + 1)) from by
    have hzl : (Builtin.zeroCells (Value.agg #[.string ⟨#[]⟩, .slice none 0 0]).cells 1).toList.length = 2 := by rw [Array.length_toList, size_zeroCells]; rfl
    have hf2 : (i + m) * 2 + (Builtin.zeroCells (Value.agg #[.string ⟨#[]⟩, .slice none 0 0]).cells 1).toList.length ≤ cur1.size := by rw [hzl]; omega
    refine OwnN.of_piece rcSL_len _ (by simp; omega) hb (by simp; omega) hm (setRow_heap _ g cur1 _ _ _ hg1) (by rw [lay_sz _ _ _ hf2, hz, hsz]) ?_
    rw [List.flatMap_append, hcs]
    refine (k1.stay _ _ hf2 (.inl (by omega))).app ?_
    rw [htl, Nat.zero_add (i * 2)]
    exact k2.stay _ _ hf2 (.inl (by omega)))
  clear hs hp hp1 hp2 hsz hg hcl htl htl' hsrc h1c hfit hz k1 k2 hg1 hfit1 hcs hcap
  rw [hlm] at hlen hc ⊢
  have hwr : IntKind.i64.wrap ((i : Int) + 1) = (i : Int) + 1 := by rw [IntKind.wrap_i64]; omega
  have q1 : (0 : Int) ≤ (i : Int) + 1 := by omega
  have q2 : (i : Int) + 1 ≤ (i : Int) + 1 + (m : Int) := by omega
  have q3 : ((i : Int) + 1).toNat = i + 1 := by omega
  have q4 : i + 1 + m - (i + 1) = m := by omega
  have q5 : i ≤ cap := by omega
  have q6 : ¬ (cap = i + m) := by omega
  have q8 : i + m ≤ i + 1 + m := by omega
  have q9 : (i : Int) + (m : Int) ≤ (i : Int) + 1 + (m : Int) := by omega
  go_enter Try.func101, Try.ntmps101
  go_wp2_with fail
  go_region_law (refine step_app_eq rfl (.tmp 22) (.tmp 25) 138 rfl (.slice (some ⟨g, 0, none⟩) i cap) (.slice (some A) m (cap - (i + 1))) (by simp [Act.eval, Act.put]) (by simp [Act.eval, Act.put]) (HA.out _ _) ?_)
  go_wp2_with (with_reducible refine wpList_clear_eq rfl (.tmp 31) 138 rfl (.slice (some ⟨g, (i + m) * 2, none⟩) (i + 1 + m - (i + m)) (cap - (i + m))) rfl (HB.out _ _) ?_)
  go_ret
  exact ⟨_, rfl, HK.out, ((Upd.refl [g] w).drew.setRow g _ (.inl (by simp))).setRow g _ (.inl (by simp)), rfl⟩
set_option maxRecDepth 20000 in
set_option maxHeartbeats 400000 in
theorem tDelSL_no (w : World) (k : ByteArray) (hs : TBSL base w g lv l) (hr : Rising ltSL l) (hlen : l.length ≤ 100000) (hk : True) (hn : isIn ltSL l k = false) :
    Calls Try.prog 89 #[.pointer (some ⟨g, 0, none⟩), sv k] w fun e w' => e = .returned (.bool false) ∧ Upd [] w w' := by
  have hc := tFindSL_any w k hs hr hlen hk
  rw [hn] at hc
  have HC := Lib.hid hc
  clear hs hr hlen hk hc hn
  go_enter Try.func89, Try.ntmps89
  go_wp2_with fail
  with_reducible refine HC.out.mono ?_
  rintro e w1 ⟨rfl, hu1⟩
  go_wp2_with fail
  go_ret
  exact ⟨rfl, hu1⟩
set_option maxRecDepth 20000 in
set_option maxHeartbeats 400000 in
theorem tDelSL_yes (w : World) (k : ByteArray) (hs : TBSL base w g lv l) (hr : Rising ltSL l) (hlen : l.length ≤ 100000) (hk : True) (hn : isIn ltSL l k = true) :
    Calls Try.prog 89 #[.pointer (some ⟨g, 0, none⟩), sv k] w fun e w' => e = .returned (.bool true) ∧ ∃ lv', TBSL base w' g lv' (l.take (below ltSL l k) ++ l.drop (below ltSL l k + 1)) ∧ Upd (g :: blk lv) w w' ∧ blk lv' = blk lv := by
  have hc := tFindSL_any w k hs hr hlen hk
  rw [hn] at hc
  have HC := Lib.hid hc
  have HS := Lib.hid hs
  unfold isIn at hn
  have hlt := (of_decide_eq_true hn).1
  have HD := Lib.hid (fun w1 (h : Upd [] w w1) => slDelSL w1 lv (below ltSL l k) (hs.rows.upd h (by simp)) hlt hlen)
  have D0 := Lib.hid (show w.cell? ⟨g, 0, none⟩ = some lv from hs.tab.cell 0)
  obtain ⟨ao, n, co, rfl⟩ := hs.rows.slice_
  clear hs hr hk hc hn
  generalize below ltSL l k = i at *
  have hwr : IntKind.i64.wrap ((i : Int) + 1) = (i : Int) + 1 := by rw [IntKind.wrap_i64]; omega
  go_enter Try.func89, Try.ntmps89
  go_wp2_with fail
  with_reducible refine HC.out.mono ?_
  rintro e w1 ⟨rfl, hu1⟩
  have d0 := hu1.cell D0.out (by simp)
  have HU1 := Lib.hid hu1
  go_wp2_with fail
  with_reducible refine (HD.out w1 HU1.out).mono ?_
  rintro e w2 ⟨v2, rfl, ho2, hu2, hb2⟩
  have hgl := HS.out.g_lv
  have f0 : w2.frozen? ⟨g, 0, none⟩ = false := ((HS.out.tab.upd HU1.out (by simp)).upd hu2 hgl).frozen 0
  have d2 : w2.cell? ⟨g, 0, none⟩ = some (.slice ao n co) := hu2.cell d0 hgl
  obtain ⟨ao2, n2, co2, rfl⟩ := ho2.slice_
  have HT := Lib.hid (show TBSL base (w2.setCell ⟨g, 0, none⟩ (.slice ao2 n2 co2)) g (.slice ao2 n2 co2) (l.take i ++ l.drop (i + 1)) from
    ⟨by simpa using ((HS.out.tab.upd HU1.out (by simp)).upd hu2 hgl).set_ 0 (.slice ao2 n2 co2), ho2.upd ((Upd.refl [g] _).setCell _ _ (.inl (by simp))) (by rw [hb2]; intro x hx; simp; rintro rfl; exact hgl hx), HS.out.gb⟩)
  have HU2 := Lib.hid (show Upd (g :: blk (.slice ao n co)) w (w2.setCell ⟨g, 0, none⟩ (.slice ao2 n2 co2)) from (HU1.out.trans (T := g :: blk (.slice ao n co)) hu2 (by simp) (fun x hx => .inl (by simp [hx]))).setCell _ _ (.inl (by simp)))
  clear ho2 hu1 hu2 hgl
  go_wp2_with fail
  go_ret
  exact ⟨rfl, _, HT.out, HU2.out, hb2⟩
end
section
variable {base : Nat} {g : Nat} {lv : Value} {l : List (ByteArray × Sl)} {w w' : World}
theorem tDelSL_any (w : World) (k : ByteArray) (hs : TBSL base w g lv l) (hr : Rising ltSL l) (hlen : l.length ≤ 100000) (hk : True) :
    Calls Try.prog 89 #[.pointer (some ⟨g, 0, none⟩), sv k] w fun e w' => e = .returned (.bool (isIn ltSL l k)) ∧ ∃ lv', TBSL base w' g lv' (tDel ltSL l k) ∧ Upd (g :: blk lv) w w' ∧ (∀ x ∈ blk lv', x ∈ blk lv ∨ w.heap.size ≤ x) := by
  cases hn : isIn ltSL l k with
  | false =>
    refine (tDelSL_no w k hs hr hlen hk hn).mono ?_
    rintro e w' ⟨rfl, hu⟩
    exact ⟨rfl, lv, by unfold tDel; rw [hn]; exact hs.upd0 hu, hu.mono (by simp), fun x hx => .inl hx⟩
  | true =>
    refine (tDelSL_yes w k hs hr hlen hk hn).mono ?_
    rintro e w' ⟨rfl, v', ht, hu, hb⟩
    exact ⟨rfl, v', by unfold tDel; rw [hn]; exact ht, hu, fun x hx => .inl (by rw [← hb]; exact hx)⟩
end
end Go.Proofs.Ytmhdhnipljonlaa
namespace Go.Proofs.Ytmhdhnipljonlaa
open Go.RowKit
set_option linter.unusedSimpArgs false
set_option linter.unusedVariables false
section
variable {base : Nat} {g : Nat} {lv : Value} {l : List (ByteArray × Sl)} {w w' : World}
set_option maxRecDepth 20000 in
set_option maxHeartbeats 400000 in
theorem tGetSL_no (w : World) (k : ByteArray) (hs : TBSL base w g lv l) (hr : Rising ltSL l) (hlen : l.length ≤ 100000) (hk : True) (hn : isIn ltSL l k = false) :
    Calls Try.prog 60 #[.pointer (some ⟨g, 0, none⟩), sv k] w fun e w' => e = .returned (.tuple #[.slice none 0 0, .bool false]) ∧ Upd [] w w' := by
  have hc := tFindSL_any w k hs hr hlen hk
  rw [hn] at hc
  have HC := Lib.hid hc
  clear hs hr hlen hk hc hn
  go_enter Try.func60, Try.ntmps60
  go_wp2_with fail
  refine HC.out.mono ?_
  rintro e w1 ⟨rfl, hu1⟩
  go_wp2_with fail
  go_ret2
  exact ⟨rfl, hu1⟩
set_option maxRecDepth 20000 in
set_option maxHeartbeats 400000 in
theorem tGetSL_ok (w : World) (k : ByteArray) (hs : TBSL base w g lv l) (hr : Rising ltSL l) (hlen : l.length ≤ 100000) (hk : True) (hn : isIn ltSL l k = true) :
    Calls Try.prog 60 #[.pointer (some ⟨g, 0, none⟩), sv k] w fun e w' => e = .returned (.tuple #[slv (nth l (below ltSL l k)).2, .bool true]) ∧ Upd [] w w' := by
  have hc := tFindSL_any w k hs hr hlen hk
  rw [hn] at hc
  have HC := Lib.hid hc
  unfold isIn at hn
  have hlt := (of_decide_eq_true hn).1
  obtain ⟨ao, co, rfl, hlc, hcm, hcell⟩ := hs.rows.rd rcSL_len
  obtain ⟨b, off, rfl, hc'⟩ := hcell (by intro h; simp [h] at hlt)
  have D0 := Lib.hid (show w.cell? ⟨g, 0, none⟩ = some (.slice (some ⟨b, off, none⟩) l.length co) from hs.tab.cell 0)
  have D1 := Lib.hid (show w.cell? ⟨b, off + below ltSL l k * 2 + 1, none⟩ = some (slv (nth l (below ltSL l k)).2) from hc' _ hlt 1 (by omega))
  clear hs hr hk hc hn hcell hc' hcm
  generalize (nth l (below ltSL l k)).2 = x at *
  generalize below ltSL l k = i at *
  have q1 : (0 : Int) ≤ i := by omega
  have q2 : (i : Int) < l.length := by omega
  go_enter Try.func60, Try.ntmps60
  go_wp2_with fail
  refine HC.out.mono ?_
  rintro e w1 ⟨rfl, hu1⟩
  have d0 := hu1.cell D0.out (by simp)
  have d1 := hu1.cell D1.out (by simp)
  go_wp2_with fail
  go_ret2
  exact ⟨rfl, hu1⟩
set_option maxRecDepth 20000 in
set_option maxHeartbeats 400000 in
theorem tAtSL_ok (w : World) (i : Nat) (hs : TBSL base w g lv l) (hlen : l.length ≤ 100000) (hi : i < l.length) :
    Calls Try.prog 75 #[.pointer (some ⟨g, 0, none⟩), .int .i64 (i : Int)] w fun e w' => e = .returned (.tuple #[sv (nth l i).1, slv (nth l i).2, .bool true]) ∧ Upd [] w w' := by
  obtain ⟨ao, co, rfl, hlc, hcm, hcell⟩ := hs.rows.rd rcSL_len
  obtain ⟨b, off, rfl, hc'⟩ := hcell (by intro h; simp [h] at hi)
  have d0 : w.cell? ⟨g, 0, none⟩ = some (.slice (some ⟨b, off, none⟩) l.length co) := hs.tab.cell 0
  have d1 : w.cell? ⟨b, off + i * 2, none⟩ = some (sv (nth l i).1) := hc' _ hi 0 (by omega)
  have d2 : w.cell? ⟨b, off + i * 2 + 1, none⟩ = some (slv (nth l i).2) := hc' _ hi 1 (by omega)
  clear hs hcell hc' hcm
  generalize (nth l i).1 = x at *
  generalize (nth l i).2 = y at *
  have q1 : (0 : Int) ≤ i := by omega
  have q2 : (i : Int) < l.length := by omega
  go_enter Try.func75, Try.ntmps75
  go_wp2_with fail
  go_quiet (fail)
  go_wp2_with fail
  go_ret3
  exact ⟨rfl, by first | exact (Upd.refl [] _).drewN _ | exact (Upd.refl [] _).drew⟩
end
end Go.Proofs.Ytmhdhnipljonlaa
namespace Go.Proofs.Ytmhdhnipljonlaa
open Go.RowKit
set_option linter.unusedSimpArgs false
set_option linter.unusedVariables false
section
variable {base : Nat} {g : Nat} {lv : Value} {l : List (ByteArray × Sl)} {w w' : World}
set_option maxRecDepth 20000 in
set_option maxHeartbeats 400000 in
theorem tSetSL_old (w : World) (k : ByteArray) (v : Sl) (hs : TBSL base w g lv l) (hr : Rising ltSL l) (hlen : l.length ≤ 100000) (hk : True) (hn : isIn ltSL l k = true) :
    Calls Try.prog 88 #[.pointer (some ⟨g, 0, none⟩), sv k, slv v] w fun e w' => e = .returned (.bool false) ∧ TBSL base w' g lv (l.set (below ltSL l k) ((nth l (below ltSL l k)).1, v)) ∧ Upd (blk lv) w w' := by
  have hc := tFindSL_any w k hs hr hlen hk
  rw [hn] at hc
  have HC := Lib.hid hc
  have HS := Lib.hid hs
  unfold isIn at hn
  have hlt := (of_decide_eq_true hn).1
  have hgl := hs.g_lv
  rcases hs.rows.2 with ⟨-, h0⟩ | ⟨b, co, cur, rfl, hb, hg, -⟩
  · omega
  have D0 := Lib.hid (show w.cell? ⟨g, 0, none⟩ = some (.slice (some ⟨b, 0, none⟩) l.length co) from hs.tab.cell 0)
  have HL := Lib.hid hlt
  have D1 := Lib.hid (show ∃ u, w.cell? ⟨b, below ltSL l k * 2 + 1, none⟩ = some u from by
    obtain ⟨ao', co', e', -, -, hcell⟩ := hs.rows.rd rcSL_len
    injection e' with e1 e2 e3
    obtain ⟨b', off, e4, hc'⟩ := hcell (by intro h; simp [h] at hlt)
    rw [e4] at e1
    injection e1 with e1; injection e1 with e1 e5
    subst e1; subst e5
    exact ⟨_, by simpa using hc' _ hlt 1 (by omega)⟩)
  have HG := Lib.hid hg
  clear hs hr hk hc hn hgl hg
  generalize below ltSL l k = i at *
  have q1 : (0 : Int) ≤ i := by omega
  have q2 : (i : Int) < l.length := by omega
  go_enter Try.func88, Try.ntmps88
  go_wp2_with fail
  with_reducible refine HC.out.mono ?_
  rintro e w1 ⟨rfl, hu1⟩
  have d0 := hu1.cell D0.out (by simp)
  obtain ⟨u, hu⟩ := D1.out
  have d1 := hu1.cell hu (by simp)
  have f1 : w1.frozen? ⟨b, i * 2 + 1, none⟩ = false := frozen_of_row w1 b _ cur _ (hu1.heap HG.out (by simp))
  go_wp2_with fail
  go_ret
  have hst : Upd [b] w1 (w1.setCell ⟨b, i * 2 + 1, none⟩ (slv v)) := (Upd.refl [b] w1).setCell _ _ (.inl (by simp))
  have hs1 := HS.out.upd0 hu1
  have hl := HL.out
  have hgb : g ≠ b := fun e => HS.out.g_lv (by rw [e]; simp [blk])
  refine ⟨rfl, ⟨hs1.tab.upd hst (by simpa using hgb), ?_, hs1.gb⟩, ?_⟩
  · refine OwnN.set_ rcSL_len hs1.rows i 1 hl (by omega) (slv v) _ ?_
    rw [nth_get l i hl]
    rfl
  · exact (show Upd [b] w w1 from hu1.mono (by simp)).setCell _ _ (.inl (by simp))
end
end Go.Proofs.Ytmhdhnipljonlaa
namespace Go.Proofs.Ytmhdhnipljonlaa
open Go.RowKit
set_option linter.unusedSimpArgs false
set_option linter.unusedVariables false
section
variable {base : Nat} {g : Nat} {lv : Value} {l : List (ByteArray × Sl)} {w w' : World}
set_option maxRecDepth 20000 in
set_option maxHeartbeats 1000000 in
theorem slInsSL_end (w : World) (v : Value) (vb : Nat) (x : ByteArray × Sl) (hs : OwnN 2 rcSL base 143 w v l) (hlen : l.length ≤ 100000) (hbs : base ≤ w.heap.size) (hv : Blk w vb 143 (rcSL x)) :
    Calls Try.prog 100 #[v, .int .i64 (l.length : Int), .slice (some ⟨vb, 0, none⟩) 1 1] w fun e w' => ∃ v', e = .returned v' ∧ OwnN 2 rcSL base 143 w' v' (l ++ [x]) ∧ Upd (blk v) w w' ∧ (∀ y ∈ blk v', y ∈ blk v ∨ w.heap.size ≤ y) := by
  have hrd : RdN 2 rcSL w (.slice (some ⟨vb, 0, none⟩) 1 1) [x] := ⟨_, 1, rfl, by simp, by simp [maxLen], fun _ => ⟨vb, 0, rfl, fun j hj i hi => by
    simp at hj; subst hj
    rw [hv.cell]; simp [nth_cons_zero]⟩⟩
  have HR := Lib.hid (fun ty => run_appN (P := Try.prog) (ty := ty) rcSL_len (by decide) rcSL_one undSL infoRowSL rfl v _ l [x] hs hrd (by simp; omega) (by simp [maxLen]; omega) hbs)
  obtain ⟨ao, n, co, rfl⟩ := hs.slice_
  have hn : n = l.length ∧ l.length ≤ co := by
    rcases hs.2 with ⟨he, h0⟩ | ⟨_, _, _, he, _, _, hc, _⟩
    · injection he with e1 e2 e3; subst e2; subst e3; exact ⟨h0.symm, by omega⟩
    · injection he with e1 e2 e3; subst e2; subst e3; exact ⟨rfl, hc⟩
  obtain ⟨rfl, hco⟩ := hn
  clear hs hrd hv
  have hd : co = l.length ∨ ¬ co = l.length := by omega
  rcases hd with hd | hd
  all_goals
    go_enter Try.func100, Try.ntmps100
    go_wp2_with (at_builtin; refine wpList_app_of rfl _ _ rfl (.slice ao l.length co) (.slice (some ⟨vb, 0, none⟩) 1 1) rfl rfl (HR.out _) ?_; rintro v1 w3 ⟨ho3, hu3, hb3⟩; have HO3 := Lib.hid ho3; obtain ⟨a1, n1, c1, rfl⟩ := ho3.slice_; clear ho3)
    go_ret
    exact ⟨_, rfl, HO3.out, hu3, hb3⟩
theorem ovlSL (w : World) (vb gb vo go_ la ca lb cb kA kB : Nat) (tA tB : TypeId) (hne : vb ≠ gb) (hsa : w.shape? vb = some (tA, kA)) (hsb : w.shape? gb = some (tB, kB)) (hkB : kB ≠ 0) (hfa : w.frozen? ⟨vb, vo, none⟩ = false) (hfe : w.frozen? ⟨vb, kA, none⟩ = false) :
    (callFunc 104 #[.slice (some ⟨vb, vo, none⟩) la ca, .slice (some ⟨gb, go_, none⟩) lb cb]).run Try.prog w = .ok (.value (.bool false)) w := by
  have hz : ∀ w, (sizeOf 143).run Try.prog w = .ok 2 w := by
    intro w
    obtain ⟨i, h1, h2, h3, h4⟩ := info_parts infoRowSL
    simp [sizeOf, typeInfo, h1, h3]
  rw [run_callFunc_extern Try.func104 (by kernel_rfl) (by kernel_rfl) (by kernel_rfl) (e := Extern.SlicesOverlaps.overlaps #[138, 138] #[4]) (by kernel_rfl),
    Lib.run_overlaps_apart w 138 4 143 undSL 2 hz ⟨vb, vo, none⟩ ⟨gb, go_, none⟩ la ca lb cb hne tA tB kA kB hsa hsb hkB hfa hfe]
  rfl
set_option maxRecDepth 20000 in
set_option maxHeartbeats 2000000 in
theorem slInsSL_shift (w : World) (g n cap i : Nat) (vb : Nat) (x : ByteArray × Sl) (hs : OwnN 2 rcSL base 143 w (.slice (some ⟨g, 0, none⟩) n cap) l) (hi : i < l.length) (hroom : l.length + 1 ≤ cap) (hlen : l.length ≤ 100000) (hv : Blk w vb 143 (rcSL x)) (hvg : vb ≠ g) :
    Calls Try.prog 100 #[.slice (some ⟨g, 0, none⟩) n cap, .int .i64 (i : Int), .slice (some ⟨vb, 0, none⟩) 1 1] w fun e w' => ∃ v', e = .returned v' ∧ OwnN 2 rcSL base 143 w' v' (l.take i ++ x :: l.drop i) ∧ Upd [g] w w' ∧ (∀ y ∈ blk v', y ∈ [g] ∨ w.heap.size ≤ y) := by
  obtain ⟨rfl, hb, hc, hm, cur, hg, hsz, hp⟩ := hs.open_ rcSL_len
  have hdl : ((l.drop i).flatMap rcSL).length = (l.length - i) * 2 := by rw [flatMap_len rcSL_len, List.length_drop]
  have htl : ((l.take i).flatMap rcSL).length = i * 2 := by rw [flatMap_len rcSL_len, List.length_take]; congr 1; omega
  have hp1 : Piece cur 0 ((l.take i).flatMap rcSL) := by rw [flat_split rcSL l i] at hp; exact hp.left
  have hp2 : Piece cur (i * 2) ((l.drop i).flatMap rcSL) := by rw [flat_split rcSL l i] at hp; have := hp.right; rwa [htl, Nat.zero_add] at this
  have h1c : ∀ u ∈ (l.drop i).flatMap rcSL, u.oneCell' = true := mem_flat_one rcSL_one _
  generalize hcs : (l.drop i).flatMap rcSL = cs at *
  have hcap : (l.length + 1) * 2 ≤ cur.size := by rw [hsz]; exact Nat.mul_le_mul_right 2 (by omega)
  have hfit : (i + 1) * 2 + cs.length ≤ cur.size := by rw [hdl]; omega
  have hA := (fun ty dc sc => run_copy_lay (P := Try.prog) (sz := 2) (dT := 138) (sT := 138) (ty := ty) (dLen := l.length + 1 - (i + 1)) (dCap := dc) (a := ⟨g, i * 2, none⟩) (sLen := l.length + 1 - i) (sCap := sc) (k := l.length - i) undSL (by kernel_rfl) w.drew hg (by simp only [Nat.min_def]; split <;> omega) hdl (fun j u hu => by rw [add_none]; exact hp2.cell hg j u hu) hfit h1c)
  have hz := lay_sz cur ((i + 1) * 2) cs hfit
  have k1 := hp1.stay ((i + 1) * 2) cs hfit (.inl (by omega))
  have k2 := Piece.lay cur ((i + 1) * 2) cs hfit
  generalize lay_ cur ((i + 1) * 2) cs = cur1 at *
  have hg1 : (w.drew.setRow g cur1).heap[g]? = some (.cells cur1 143 (0, 0)) := setRow_heap w.drew g cur cur1 _ _ hg
  have hu1 : Upd [g] w (w.drew.setRow g cur1) := (Upd.refl [g] w).drew.setRow g _ (.inl (by simp))
  have hv1 := hv.upd hu1 (by simpa using hvg)
  obtain ⟨W1, hW1⟩ : ∃ W1, W1 = w.drew.setRow g cur1 := ⟨_, rfl⟩
  rw [← hW1] at hA hg1 hu1 hv1
  have hfx : i * 2 + (rcSL x).length ≤ cur1.size := by rw [hz, rcSL_len]; omega
  have hB := (fun ty dc => run_copy_lay (P := Try.prog) (sz := 2) (dT := 138) (sT := 138) (ty := ty) (dLen := l.length + 1 - i) (dCap := dc) (a := ⟨vb, 0, none⟩) (sLen := 1) (sCap := 1) (k := 1) (cs := rcSL x) undSL (by kernel_rfl) W1 hg1 (by simp only [Nat.min_def]; split <;> omega) rfl (fun j u hu => by rw [add_none, hv1.cell, Nat.zero_add]; exact hu) hfx (rcSL_one x))
  have hz2 := lay_sz cur1 (i * 2) (rcSL x) hfx
  have m1 := k1.stay (i * 2) (rcSL x) hfx (.inl (by omega))
  have m2 := Piece.lay cur1 (i * 2) (rcSL x) hfx
  have m3 := k2.stay (i * 2) (rcSL x) hfx (.inr (by rw [rcSL_len]; omega))
  generalize lay_ cur1 (i * 2) (rcSL x) = cur2 at *
  have HK := Lib.hid (show OwnN 2 rcSL base 143 (W1.setRow g cur2) (.slice (some ⟨g, 0, none⟩) (l.length + 1) cap) (l.take i ++ x :: l.drop i) from by
    refine OwnN.of_piece rcSL_len cur2 (by simp; omega) hb (by simp; omega) hm (setRow_heap _ g cur1 _ _ _ hg1) (by rw [hz2, hz, hsz]) ?_
    rw [List.flatMap_append, List.flatMap_cons, hcs]
    refine m1.app ?_
    rw [htl, Nat.zero_add (i * 2)]
    refine m2.app ?_
    rw [rcSL_len, show i * 2 + 2 = (i + 1) * 2 by omega]
    exact m3)
  have HU := Lib.hid (show Upd [g] w (W1.setRow g cur2) from hu1.setRow g _ (.inl (by simp)))
  obtain ⟨W2, hW2⟩ : ∃ W2, W2 = W1.setRow g cur2 := ⟨_, rfl⟩
  rw [← hW2] at hB HK HU
  have HA := Lib.hid hA
  have HB := Lib.hid hB
  have HO := Lib.hid (fun lb cb => ovlSL w vb g 0 ((i + 1) * 2) 1 1 lb cb (rcSL x).toArray.size cur.size 143 143 hvg (by unfold World.shape?; rw [show w.heap[vb]? = _ from hv]) (by unfold World.shape?; rw [hg]) (by omega) (hv.frozen 0) (hv.frozen _))
  clear hs hp hp1 hp2 hsz hg hdl htl h1c hfit hz k1 k2 hg1 hcs hcap hA hB hv hv1 hu1 hfx hz2 m1 m2 m3 hW1 hW2
  have HL := Lib.hid (show True from trivial)
  generalize l.length = n at *
  have hc63 : cap ≤ 9223372036854775807 := by unfold maxLen at hm; omega
  have hz1 : ¬ ((i : Int) = (n : Int)) := by omega
  have hw1 : IntKind.i64.wrap ((i : Int) + 1) = (i : Int) + 1 := by rw [IntKind.wrap_i64]; omega
  have hw2 : IntKind.i64.wrap ((n : Int) + 1) = (n : Int) + 1 := by rw [IntKind.wrap_i64]; omega
  have b1 : (0 : Int) ≤ (i : Int) + 1 := by omega
  have b2 : (0 : Int) ≤ (n : Int) + 1 := by omega
  have t1 : ((i : Int) + 1).toNat = i + 1 := by omega
  have t2 : ((n : Int) + 1).toNat = n + 1 := by omega
  have b3 : ¬ (cap = i + 1) := by omega
  have b4 : ¬ (cap = i) := by omega
  have b5 : (i : Int) + 1 ≤ (n : Int) + 1 := by omega
  have b6 : (i : Int) ≤ (n : Int) + 1 := by omega
  have b7 : (n : Int) + 1 ≤ (cap : Int) := by omega
  have b8 : i ≤ n := by omega
  go_enter Try.func100, Try.ntmps100
  go_wp2_with (simp only [HO.out])
  go_region_law (refine step_copy_eq rfl (.tmp 73) (.tmp 76) 138 138 rfl (.slice (some ⟨g, (i + 1) * 2, none⟩) (n + 1 - (i + 1)) (cap - (i + 1))) (.slice (some ⟨g, i * 2, none⟩) (n + 1 - i) (cap - i)) (by simp [Act.eval, Act.put]) (by simp [Act.eval, Act.put]) (HA.out _ _ _) ?_)
  go_wp2_with (with_reducible refine wpList_copy_eq rfl (.tmp 80) (.tmp 81) 138 138 rfl (.slice (some ⟨g, i * 2, none⟩) (n + 1 - i) (cap - i)) (.slice (some ⟨vb, 0, none⟩) 1 1) rfl rfl (HB.out _ _) ?_)
  go_ret
  exact ⟨_, rfl, HK.out, HU.out, fun y hy => .inl (by simpa [blk] using hy)⟩
set_option maxRecDepth 20000 in
set_option maxHeartbeats 2000000 in
theorem slInsSL_grow (w : World) (g n cap i : Nat) (vb : Nat) (x : ByteArray × Sl) (hs : OwnN 2 rcSL base 143 w (.slice (some ⟨g, 0, none⟩) n cap) l) (hi : i < l.length) (hroom : cap < l.length + 1) (hlen : l.length ≤ 100000) (hbs : base ≤ w.heap.size) (hv : Blk w vb 143 (rcSL x)) :
    Calls Try.prog 100 #[.slice (some ⟨g, 0, none⟩) n cap, .int .i64 (i : Int), .slice (some ⟨vb, 0, none⟩) 1 1] w fun e w' => ∃ v', e = .returned v' ∧ OwnN 2 rcSL base 143 w' v' (l.take i ++ x :: l.drop i) ∧ Upd [g] w w' ∧ (∀ y ∈ blk v', y ∈ [g] ∨ w.heap.size ≤ y) := by
  obtain ⟨rfl, hb, hc, hm, cur, hg, hsz, hp⟩ := hs.open_ rcSL_len
  obtain ⟨i0, hi0, hz0, hzs, hzb⟩ := info_parts infoRowSL
  have hdl : ((l.drop i).flatMap rcSL).length = (l.length - i) * 2 := by rw [flatMap_len rcSL_len, List.length_drop]
  have htl : ((l.take i).flatMap rcSL).length = i * 2 := by rw [flatMap_len rcSL_len, List.length_take]; congr 1; omega
  have hp1 : Piece cur 0 ((l.take i).flatMap rcSL) := by rw [flat_split rcSL l i] at hp; exact hp.left
  have hp2 : Piece cur (i * 2) ((l.drop i).flatMap rcSL) := by rw [flat_split rcSL l i] at hp; have := hp.right; rwa [htl, Nat.zero_add] at this
  have h1c : ∀ u ∈ (l.drop i).flatMap rcSL, u.oneCell' = true := mem_flat_one rcSL_one _
  have hgw : g < w.heap.size := (Array.getElem?_eq_some_iff.1 hg).1
  have hold : (Builtin.firstCells i0.size i (.slice (some ⟨g, 0, none⟩) i cap)).run Try.prog w.drew = .ok ((l.take i).flatMap rcSL).toArray w.drew := by
    rw [hzs]
    exact run_firstCells_some w.drew 2 i ⟨g, 0, none⟩ i cap _ htl (fun j u hu => by rw [add_none]; exact hp1.cell hg j u hu)
  have hkk : (l.length : Int) + 1 - (i : Int) = ((l.length + 1 - i : Nat) : Int) := by omega
  have hik : i + (l.length + 1 - i) = l.length + 1 := by omega
  have u3 : Try.prog.underlying 3 = some (.int .i64) := by kernel_rfl
  have hrz := fun ty => Lib.run_append_grow_zeros (P := Try.prog) w 138 3 ty 143 i0 _ .i64 .i64 undSL u3 hi0 hz0 (some ⟨g, 0, none⟩) i cap _ hold (l.length + 1 - i) (by omega) (by omega) (by omega) (by omega) (by rw [hzb]; omega) (by rw [hzb, hik]; exact growslice_fits (by omega) (by omega))
  rw [hik] at hrz
  have hGe := grownCap_ge w (l.length + 1) cap 143
  have hGm : grownCap w (l.length + 1) cap 143 ≤ maxLen := grownCap_le_maxLen w (l.length + 1) cap _ (by unfold maxLen; omega)
  generalize grownCap w (l.length + 1) cap 143 = G at *
  obtain ⟨ROW, hROW⟩ : ∃ ROW : Array Value, ROW = ((l.take i).flatMap rcSL).toArray ++ Builtin.zeroCells (Value.agg #[.string ⟨#[]⟩, .slice none 0 0]).cells (l.length + 1 - i) ++ Builtin.zeroCells (Value.agg #[.string ⟨#[]⟩, .slice none 0 0]).cells (G - (l.length + 1)) := ⟨_, rfl⟩
  rw [← hROW] at hrz
  have hzz : (Value.agg #[.string ⟨#[]⟩, .slice none 0 0]).cells.size = 2 := rfl
  have hRs : ROW.size = G * 2 := by
    rw [hROW]
    simp only [Array.size_append, List.size_toArray, size_zeroCells, hzz, htl]
    omega
  have hRp : Piece ROW 0 ((l.take i).flatMap rcSL) := fun j u hu => by
    have hj := (List.getElem?_eq_some_iff.1 hu).1
    rw [hROW, Array.append_assoc, Array.getElem?_append_left (by simp only [Array.size_append, List.size_toArray]; omega), Nat.zero_add]
    simpa using hu
  clear hROW hold hp1
  obtain ⟨W1, hW1⟩ : ∃ W1, W1 = w.drew.alloc (.cells ROW 143) := ⟨_, rfl⟩
  rw [← hW1] at hrz
  have hg1 : W1.heap[w.heap.size]? = some (.cells ROW 143 (0, 0)) := by rw [hW1]; exact heap_alloc_new w.drew _
  have hu1 : Upd [] w W1 := by rw [hW1]; exact (Upd.refl [] w).drew.alloc _
  have hv1 := hv.upd hu1 (by simp)
  have hgg := hu1.heap hg (by simp)
  generalize hgn : w.heap.size = gn at *
  have hgne : g ≠ gn := by omega
  have hvw : vb < gn := by rw [← hgn]; exact hv.lt
  have hvne : vb ≠ gn := by omega
  have hfx : i * 2 + (rcSL x).length ≤ ROW.size := by rw [hRs, rcSL_len]; omega
  have hB := (fun ty dc => run_copy_lay (P := Try.prog) (sz := 2) (dT := 138) (sT := 138) (ty := ty) (dLen := l.length + 1 - i) (dCap := dc) (a := ⟨vb, 0, none⟩) (sLen := 1) (sCap := 1) (k := 1) (cs := rcSL x) undSL (by kernel_rfl) W1 hg1 (by simp only [Nat.min_def]; split <;> omega) rfl (fun j u hu => by rw [add_none, hv1.cell, Nat.zero_add]; exact hu) hfx (rcSL_one x))
  have hz2 := lay_sz ROW (i * 2) (rcSL x) hfx
  have m1 := hRp.stay (i * 2) (rcSL x) hfx (.inl (by omega))
  have m2 := Piece.lay ROW (i * 2) (rcSL x) hfx
  generalize lay_ ROW (i * 2) (rcSL x) = cur1 at *
  have hg2 : (W1.setRow gn cur1).heap[gn]? = some (.cells cur1 143 (0, 0)) := setRow_heap W1 gn ROW cur1 _ _ hg1
  have hu2 : Upd [gn] W1 (W1.setRow gn cur1) := (Upd.refl [gn] W1).setRow gn _ (.inl (by simp))
  have hgg2 := hu2.heap hgg (by simpa using hgne)
  obtain ⟨W2, hW2⟩ : ∃ W2, W2 = W1.setRow gn cur1 := ⟨_, rfl⟩
  rw [← hW2] at hB hg2 hu2 hgg2
  generalize hcs : (l.drop i).flatMap rcSL = cs at *
  have hfit : (i + 1) * 2 + cs.length ≤ cur1.size := by rw [hdl, hz2, hRs]; omega
  have hA := (fun ty dc sc => run_copy_lay (P := Try.prog) (sz := 2) (dT := 138) (sT := 138) (ty := ty) (dLen := l.length + 1 - (i + 1)) (dCap := dc) (a := ⟨g, i * 2, none⟩) (sLen := l.length - i) (sCap := sc) (k := l.length - i) undSL (by kernel_rfl) W2.drew hg2 (by simp only [Nat.min_def]; split <;> omega) hdl (fun j u hu => by rw [add_none]; exact hp2.cell hgg2 j u hu) hfit h1c)
  have hz3 := lay_sz cur1 ((i + 1) * 2) cs hfit
  have k1 := m1.stay ((i + 1) * 2) cs hfit (.inl (by omega))
  have k2 := m2.stay ((i + 1) * 2) cs hfit (.inl (by rw [rcSL_len]; omega))
  have k3 := Piece.lay cur1 ((i + 1) * 2) cs hfit
  generalize lay_ cur1 ((i + 1) * 2) cs = cur2 at *
  have HK := Lib.hid (show OwnN 2 rcSL base 143 (W2.drew.setRow gn cur2) (.slice (some ⟨gn, 0, none⟩) (l.length + 1) G) (l.take i ++ x :: l.drop i) from by
    refine OwnN.of_piece rcSL_len cur2 (by simp; omega) hbs (by simp; omega) hGm (setRow_heap W2.drew gn cur1 _ _ _ hg2) (by rw [hz3, hz2, hRs]) ?_
    rw [List.flatMap_append, List.flatMap_cons, hcs]
    refine k1.app ?_
    rw [htl, Nat.zero_add (i * 2)]
    refine k2.app ?_
    rw [rcSL_len, show i * 2 + 2 = (i + 1) * 2 by omega]
    exact k3)
  have HU := Lib.hid (show Upd [g] w (W2.drew.setRow gn cur2) from (((hu1.trans (T := [g]) hu2 (by simp) (fun y hy => .inr (by simp at hy; omega))).drew).setRow gn _ (.inr (by omega))))
  obtain ⟨W3, hW3⟩ : ∃ W3, W3 = W2.drew.setRow gn cur2 := ⟨_, rfl⟩
  rw [← hW3] at hA HK HU
  have HA := Lib.hid hA
  have HB := Lib.hid hB
  have hrz' : ∀ ty, (Builtin.append_ #[138, 3] ty #[.slice (some ⟨g, 0, none⟩) i cap, .int .i64 ((l.length : Int) + 1 - (i : Int))]).run Try.prog w = .ok (.slice (some ⟨gn, 0, none⟩) (l.length + 1) G) W1 := fun ty => by rw [hkk]; exact hrz ty
  have HZ := Lib.hid hrz'
  have HG := Lib.hid hgn
  clear hs hp hp2 hsz hg hdl htl h1c hfit k1 k2 k3 hg1 hg2 hcs hA hB hv hv1 hu1 hu2 hfx hz2 hz3 m1 m2 hW1 hW2 hW3 hrz hrz' hgg hgg2 hRs hRp hgn hgw hi0 hz0 hzs hzb hkk hik hzz hgne hvw hvne
  generalize l.length = n at *
  obtain rfl : cap = n := by omega
  have hc63 : G ≤ 9223372036854775807 := by unfold maxLen at hGm; omega
  have hz1 : ¬ ((i : Int) = (cap : Int)) := by omega
  have hw1 : IntKind.i64.wrap ((i : Int) + 1) = (i : Int) + 1 := by rw [IntKind.wrap_i64]; omega
  have hw2 : IntKind.i64.wrap ((cap : Int) + 1) = (cap : Int) + 1 := by rw [IntKind.wrap_i64]; omega
  have hw3 : IntKind.i64.wrap ((cap : Int) + 1 - (i : Int)) = (cap : Int) + 1 - (i : Int) := by rw [IntKind.wrap_i64]; omega
  have b1 : (0 : Int) ≤ (i : Int) + 1 := by omega
  have b2 : (0 : Int) ≤ (cap : Int) + 1 := by omega
  have t1 : ((i : Int) + 1).toNat = i + 1 := by omega
  have t2 : ((cap : Int) + 1).toNat = cap + 1 := by omega
  have b3 : ¬ (G = i + 1) := by omega
  have b4 : ¬ (G = i) := by omega
  have b5 : (i : Int) + 1 ≤ (cap : Int) + 1 := by omega
  have b6 : (i : Int) ≤ (cap : Int) + 1 := by omega
  have b7 : ¬ (cap = i) := by omega
  have b8 : i ≤ cap := by omega
  go_enter Try.func100, Try.ntmps100
  go_wp2_with (first
    | (at_builtin; refine wpList_app_eq rfl _ _ 138 3 rfl (.slice (some ⟨g, 0, none⟩) i cap) (.int .i64 ((cap : Int) + 1 - (i : Int))) rfl rfl (HZ.out _) ?_)
    | (with_reducible refine wpList_copy_eq rfl (.tmp 43) (.tmp 44) 138 138 rfl (.slice (some ⟨gn, i * 2, none⟩) (cap + 1 - i) (G - i)) (.slice (some ⟨vb, 0, none⟩) 1 1) rfl rfl (HB.out _ _) ?_))
  go_region_law (refine step_copy_eq rfl (.tmp 50) (.tmp 53) 138 138 rfl (.slice (some ⟨gn, (i + 1) * 2, none⟩) (cap + 1 - (i + 1)) (G - (i + 1))) (.slice (some ⟨g, i * 2, none⟩) (cap - i) (cap - i)) (by simp [Act.eval, Act.put]) (by simp [Act.eval, Act.put]) (HA.out _ _ _) ?_)
  go_wp2_with fail
  go_ret
  exact ⟨_, rfl, HK.out, HU.out, fun y hy => .inr (by simp [blk] at hy; have := HG.out; omega)⟩
theorem slInsSL_any (w : World) (v : Value) (i : Nat) (vb : Nat) (x : ByteArray × Sl) (hs : OwnN 2 rcSL base 143 w v l) (hi : i ≤ l.length) (hlen : l.length ≤ 100000) (hbs : base ≤ w.heap.size) (hv : Blk w vb 143 (rcSL x)) (hvg : vb ∉ blk v) :
    Calls Try.prog 100 #[v, .int .i64 (i : Int), .slice (some ⟨vb, 0, none⟩) 1 1] w fun e w' => ∃ v', e = .returned v' ∧ OwnN 2 rcSL base 143 w' v' (l.take i ++ x :: l.drop i) ∧ Upd (blk v) w w' ∧ (∀ y ∈ blk v', y ∈ blk v ∨ w.heap.size ≤ y) := by
  by_cases he : i = l.length
  · subst he
    rw [List.take_length, List.drop_length]
    exact slInsSL_end w v vb x hs hlen hbs hv
  · rcases hs.2 with ⟨-, h0⟩ | ⟨g, cap, cur, rfl, -⟩
    · omega
    · by_cases hc : l.length + 1 ≤ cap
      · exact slInsSL_shift w g l.length cap i vb x hs (by omega) hc hlen hv (by simpa [blk] using hvg)
      · exact slInsSL_grow w g l.length cap i vb x hs (by omega) (by omega) hlen hbs hv
set_option maxRecDepth 20000 in
set_option maxHeartbeats 400000 in
theorem tSetSL_new (w : World) (k : ByteArray) (y : Sl) (hs : TBSL base w g lv l) (hr : Rising ltSL l) (hlen : l.length ≤ 100000) (hbs : base ≤ w.heap.size) (hk : True) (hn : isIn ltSL l k = false) :
    Calls Try.prog 88 #[.pointer (some ⟨g, 0, none⟩), sv k, slv y] w fun e w' => e = .returned (.bool true) ∧ ∃ lv', TBSL base w' g lv' (l.take (below ltSL l k) ++ (k, y) :: l.drop (below ltSL l k)) ∧ Upd (g :: blk lv) w w' ∧ (∀ x ∈ blk lv', x ∈ blk lv ∨ w.heap.size ≤ x) := by
  have hc := tFindSL_any w k hs hr hlen hk
  rw [hn] at hc
  have HC := Lib.hid hc
  have HS := Lib.hid hs
  have hle := below_le (lt := ltSL) l k
  have HD := Lib.hid (fun w1 (h : Upd [] w w1) => slInsSL_any (w1.alloc (.cells #[sv k, slv y] 143)) lv (below ltSL l k) w1.heap.size (k, y) (hs.rows.upd (h.alloc _) (by simp)) hle hlen (by have := h.size; simp; omega) (Blk.new w1 _ [sv k, slv y]) (fun hx => by have := (hs.rows.ge _ hx).2; have := h.size; omega))
  have D0 := Lib.hid (show w.cell? ⟨g, 0, none⟩ = some lv from hs.tab.cell 0)
  obtain ⟨ao, n, co, rfl⟩ := hs.rows.slice_
  clear hs hr hk hc hn hbs hle
  generalize below ltSL l k = i at *
  go_enter Try.func88, Try.ntmps88
  go_wp2_with fail
  with_reducible refine HC.out.mono ?_
  rintro e w1 ⟨rfl, hu1⟩
  have d0 := hu1.cell D0.out (by simp)
  have HU1 := Lib.hid hu1
  go_wp2_with fail
  with_reducible refine (HD.out w1 HU1.out).mono ?_
  rintro e w2 ⟨v2, rfl, ho2, hu2, hb2⟩
  have hgl := HS.out.g_lv
  have hu1' := HU1.out.alloc (.cells #[sv k, slv y] 143)
  have f0 : w2.frozen? ⟨g, 0, none⟩ = false := ((HS.out.tab.upd hu1' (by simp)).upd hu2 hgl).frozen 0
  have d2 : w2.cell? ⟨g, 0, none⟩ = some (.slice ao n co) := hu2.cell (hu1'.cell D0.out (by simp)) hgl
  obtain ⟨ao2, n2, co2, rfl⟩ := ho2.slice_
  have hg2 : g ∉ blk (.slice ao2 n2 co2) := fun hx => by
    rcases hb2 g hx with q | q
    · exact hgl q
    · have := HS.out.tab.lt; have := hu1'.size; omega
  have HT := Lib.hid (show TBSL base (w2.setCell ⟨g, 0, none⟩ (.slice ao2 n2 co2)) g (.slice ao2 n2 co2) (l.take i ++ (k, y) :: l.drop i) from
    ⟨by simpa using ((HS.out.tab.upd hu1' (by simp)).upd hu2 hgl).set_ 0 (.slice ao2 n2 co2), ho2.upd ((Upd.refl [g] _).setCell _ _ (.inl (by simp))) (by intro x hx; simp; rintro rfl; exact hg2 hx), HS.out.gb⟩)
  have HU2 := Lib.hid (show Upd (g :: blk (.slice ao n co)) w (w2.setCell ⟨g, 0, none⟩ (.slice ao2 n2 co2)) from (hu1'.trans (T := g :: blk (.slice ao n co)) hu2 (by simp) (fun x hx => .inl (by simp [hx]))).setCell _ _ (.inl (by simp)))
  have HB2 := Lib.hid (show ∀ x ∈ blk (.slice ao2 n2 co2), x ∈ blk (.slice ao n co) ∨ w.heap.size ≤ x from fun x hx => (hb2 x hx).imp id (fun h => by have := hu1'.size; omega))
  clear ho2 hu1 hu2 hgl hg2 hb2 hu1'
  go_wp2_with fail
  go_ret
  exact ⟨rfl, _, HT.out, HU2.out, HB2.out⟩
theorem tSetSL_any (w : World) (k : ByteArray) (y : Sl) (hs : TBSL base w g lv l) (hr : Rising ltSL l) (hlen : l.length ≤ 100000) (hbs : base ≤ w.heap.size) (hk : True) :
    Calls Try.prog 88 #[.pointer (some ⟨g, 0, none⟩), sv k, slv y] w fun e w' => e = .returned (.bool (!isIn ltSL l k)) ∧ ∃ lv', TBSL base w' g lv' (tSet ltSL l k y) ∧ Upd (g :: blk lv) w w' ∧ (∀ x ∈ blk lv', x ∈ blk lv ∨ w.heap.size ≤ x) := by
  cases hn : isIn ltSL l k with
  | false =>
    refine (tSetSL_new w k y hs hr hlen hbs hk hn).mono ?_
    rintro e w' ⟨rfl, v', ht, hu, hb⟩
    exact ⟨rfl, v', by unfold tSet; rw [hn]; exact ht, hu, hb⟩
  | true =>
    refine (tSetSL_old w k y hs hr hlen hk hn).mono ?_
    rintro e w' ⟨rfl, ht, hu⟩
    refine ⟨rfl, lv, ?_, hu.mono (fun x hx => .inl (by simp [hx])), fun x hx => .inl hx⟩
    rw [tSet_in l k y hn]; exact ht
end
end Go.Proofs.Ytmhdhnipljonlaa
namespace Go.Proofs.Ytmhdhnipljonlaa
open Go.RowKit
set_option linter.unusedSimpArgs false
set_option linter.unusedVariables false
theorem infoKeySL : (Try.prog.info? 9).map (fun i => (i.zero, i.size, i.bytes)) = some (some (.string ⟨#[]⟩), 1, 16) := by kernel_rfl
theorem undKSL : Try.prog.underlying 56 = some (.slice 9) := by kernel_rfl
section
variable {base : Nat} {g : Nat} {lv : Value} {l : List (ByteArray × Sl)} {w w' : World}
set_option maxRecDepth 20000 in
set_option maxHeartbeats 400000 in
theorem tKeysSL_any (w : World) (hs : TBSL base w g lv l) (hlen : l.length ≤ 100000) :
    Calls Try.prog 63 #[.pointer (some ⟨g, 0, none⟩)] w fun e w' => ∃ v, e = .returned v ∧ Own sv w.heap.size 9 w' v (l.map (·.1)) ∧ Upd [] w w' := by
  have HS := Lib.hid hs
  obtain ⟨ao, co, rfl, hlc, hcm, hcell⟩ := hs.rows.rd rcSL_len
  have c0 : w.cell? ⟨g, 0, none⟩ = some (.slice ao l.length co) := hs.tab.cell 0
  have HC := Lib.hid hcell
  clear hs hcell hcm
  go_enter Try.func63, Try.ntmps63
  go_wp2_with fail
  go_loopw [3, 5, 11] (fun v p i wr => ∃ k : Nat, k ≤ l.length ∧ i = .int .i64 k ∧ Hid (Own sv w.heap.size 9 wr v ((l.take k).map (·.1))) ∧ Hid (Upd [] w wr)) (fun _ _ i _ => l.length - (intOf i).toNat)
  case atStart => exact ⟨0, Nat.zero_le _, rfl, World.ownsRow_nil _ _ _ _, Upd.refl _ _⟩
  case round =>
    obtain ⟨k, hk, rfl, ho, hu⟩ := hrel
    by_cases hlt : k < l.length
    · have HT : Hid ((l.take (k + 1)).map (·.1) = (l.take k).map (·.1) ++ [(nth l k).1]) := by unfold Hid; rw [List.take_succ_eq_append_getElem hlt, nth_get l k hlt, List.map_append]; rfl
      have hlen2 : ((l.take k).map (·.1)).length = k := by rw [List.length_map, List.length_take]; omega
      obtain ⟨bl, off, rfl, hc⟩ := HC.out (by intro h; simp [h] at hlt)
      obtain ⟨ao2, co2, rfl, -⟩ := ho.out.rd
      rw [hlen2] at ho ⊢
      have HLEN := Lib.hid hlen2
      have d0 : wr.cell? ⟨bl, off + k * 2, none⟩ = some (sv (nth l k).1) := hu.out.cell (hc _ hlt 0 (by omega)) (by simp)
      have d1 : wr.cell? ⟨bl, off + k * 2 + 1, none⟩ = some (slv (nth l k).2) := hu.out.cell (hc _ hlt 1 (by omega)) (by simp)
      have HKS : Hid (∃ ks, ks = (l.take k).map (·.1)) := ⟨_, rfl⟩
      generalize hks : (l.take k).map (·.1) = ks at *
      generalize (nth l k).1 = x at *
      generalize (nth l k).2 = y at *
      clear hlen2 hc hks HKS
      have q0 : (0 : Int) ≤ k := by omega
      have q1 : (k : Int) < l.length := by omega
      have HB : Hid ((ks.length + [x].length) * 16 ≤ 140737488355328) := by unfold Hid; rw [HLEN.out]; simp; omega
      have HL : Hid (ks.length + [x].length ≤ maxLen) := by unfold Hid maxLen; rw [HLEN.out]; simp; omega
      have hsz := hu.out.size
      go_wp2_with (at_builtin; go_must (refine wpList_app_of rfl _ _ rfl (.slice ao2 k co2) (.slice (some ⟨wr.heap.size + 1, 0, none⟩) 1 1) rfl rfl (run_app (c := sv) (fun _ => rfl) undKSL infoKeySL rfl _ _ ks [x] (ho.out.upd (((Upd.refl [] _).alloc _).alloc _) (by simp)) (Rd.lit [x] (by simp) rfl rfl (by decide) (by decide)) HB.out HL.out (by simp <;> omega)) ?_; rintro v1 w3 ⟨ho3, hu3, hk3⟩; have HO3 := Lib.hid ho3; have HU3 : Hid (Upd [] w w3) := (((hu.out.alloc _).alloc _).trans hu3 (by simp) (fun y hy => .inr (ho.out.ge y hy).1)); clear ho3 hu3 hk3))
      go_roundw
      case rel => exact ⟨k + 1, by omega, by go_num, by rw [HT.out]; exact HO3, HU3⟩
      case measure => simp [intOf]; omega
    · obtain rfl : k = l.length := by omega
      go_wp2_with fail
      go_ret
      exact ⟨_, rfl, by have := ho.out; rwa [List.take_length] at this, hu.out⟩
end
end Go.Proofs.Ytmhdhnipljonlaa
namespace Go.Proofs.Ytmhdhnipljonlaa
open Go.RowKit
set_option linter.unusedSimpArgs false
set_option linter.unusedVariables false
section
variable {base : Nat} {g : Nat} {lv : Value} {l : List (ByteArray × Sl)} {w w' : World}
set_option maxRecDepth 20000 in
set_option maxHeartbeats 400000 in
theorem tAtSL_neg (w : World) (i : Int) (hi64 : I64 i) (hs : TBSL base w g lv l) (hi : i < 0) :
    Calls Try.prog 75 #[.pointer (some ⟨g, 0, none⟩), .int .i64 i] w fun e w' => e = .returned (.tuple #[.string ⟨#[]⟩, .slice none 0 0, .bool false]) ∧ Upd [] w w' := by
  obtain ⟨ao, co, rfl, hlc, hcm, hcell⟩ := hs.rows.rd rcSL_len
  have d0 : w.cell? ⟨g, 0, none⟩ = some (.slice ao l.length co) := hs.tab.cell 0
  clear hs hcell hcm
  go_enter Try.func75, Try.ntmps75
  go_wp2_with fail
  go_quiet (fail)
  go_wp2_with fail
  go_ret3
  exact ⟨rfl, by first | exact Upd.refl [] _ | exact (Upd.refl [] _).alloc _ | exact ((Upd.refl [] _).alloc _).drewN _⟩
set_option maxRecDepth 20000 in
set_option maxHeartbeats 400000 in
theorem tAtSL_high (w : World) (i : Int) (hi64 : I64 i) (hs : TBSL base w g lv l) (hlen : l.length ≤ 100000) (hi : (l.length : Int) ≤ i) :
    Calls Try.prog 75 #[.pointer (some ⟨g, 0, none⟩), .int .i64 i] w fun e w' => e = .returned (.tuple #[.string ⟨#[]⟩, .slice none 0 0, .bool false]) ∧ Upd [] w w' := by
  obtain ⟨ao, co, rfl, hlc, hcm, hcell⟩ := hs.rows.rd rcSL_len
  have d0 : w.cell? ⟨g, 0, none⟩ = some (.slice ao l.length co) := hs.tab.cell 0
  have q1 : (0 : Int) ≤ i := by omega
  clear hs hcell hcm
  go_enter Try.func75, Try.ntmps75
  go_wp2_with fail
  go_quiet (fail)
  go_wp2_with fail
  go_ret3
  exact ⟨rfl, by first | exact Upd.refl [] _ | exact (Upd.refl [] _).alloc _ | exact ((Upd.refl [] _).alloc _).drewN _⟩
end
end Go.Proofs.Ytmhdhnipljonlaa
namespace Go.Proofs.Ytmhdhnipljonlaa
open Go.RowKit
set_option linter.unusedSimpArgs false
set_option linter.unusedVariables false
/-- A table at g with the rows l; F: its blocks, all made since w0. -/
structure TXSL (w0 w : World) (g : Nat) (F : List Nat) (l : List (ByteArray × Sl)) : Prop where
  ex : ∃ lv, F = g :: blk lv ∧ TBSL w0.heap.size w g lv l
  ris : Rising ltSL l
  old : Upd [] w0 w
section
variable {w0 w w' : World} {g : Nat} {F : List Nat} {l : List (ByteArray × Sl)}
theorem TXSL.ge (h : TXSL w0 w g F l) : ∀ x ∈ F, w0.heap.size ≤ x ∧ x < w.heap.size := by
  obtain ⟨lv, rfl, ht⟩ := h.ex
  exact ht.lt
theorem TXSL.upd (h : TXSL w0 w g F l) {S : List Nat} (hu : Upd S w w') (hs : ∀ x ∈ F, x ∉ S) (hS : ∀ x ∈ S, w0.heap.size ≤ x) : TXSL w0 w' g F l := by
  obtain ⟨lv, rfl, ht⟩ := h.ex
  exact ⟨⟨lv, rfl, ht.upd hu hs⟩, h.ris, h.old.trans hu (by simp) (fun x hx => .inr (hS x hx))⟩
theorem TXSL.upd0 (h : TXSL w0 w g F l) (hu : Upd [] w w') : TXSL w0 w' g F l := h.upd hu (by simp) (by simp)
theorem TXSL.next (h : TXSL w0 w g F l) (hu : Upd F w w') : Upd [] w0 w' := h.old.trans hu (by simp) (fun x hx => .inr (h.ge x hx).1)
theorem txSL_New (w0 w : World) (hu : Upd [] w0 w) :
    Calls Try.prog 58 #[] w fun e w' => ∃ g F, e = .returned (.pointer (some ⟨g, 0, none⟩)) ∧ TXSL w0 w' g F [] ∧ Upd [] w w' ∧ (∀ x ∈ F, w.heap.size ≤ x) := by
  refine (tNewSL_any w).mono ?_
  rintro e w' ⟨rfl, ht, hu'⟩
  exact ⟨_, _, rfl, ⟨⟨_, rfl, ⟨ht.tab, OwnN.nil _ _ _, hu.size⟩⟩, Rising.nil, hu.seq hu'⟩, hu', fun x hx => (ht.lt x hx).1⟩
theorem txSL_Set (k : ByteArray) (y : Sl) (r : Bool) (l' : List (ByteArray × Sl)) (hs : TXSL w0 w g F l) (hlen : l.length ≤ 100000) (hk : True) (h1 : (!isIn ltSL l k) = r) (h2 : tSet ltSL l k y = l') :
    Calls Try.prog 88 #[.pointer (some ⟨g, 0, none⟩), sv k, slv y] w fun e w' => e = .returned (.bool r) ∧ ∃ F', TXSL w0 w' g F' l' ∧ Upd F w w' ∧ (∀ x ∈ F', x ∈ F ∨ w.heap.size ≤ x) := by
  subst h1; subst h2
  have hold := hs.old
  obtain ⟨⟨lv, rfl, ht⟩, hr, -⟩ := hs
  refine (tSetSL_any w k y ht hr hlen hold.size hk).mono ?_
  rintro e w' ⟨rfl, lv', ht', hu, hb⟩
  refine ⟨rfl, g :: blk lv', ⟨⟨lv', rfl, ht'⟩, hr.set_ strOrd k y, hold.trans hu (by simp) (fun x hx => .inr (ht.lt x hx).1)⟩, hu, fun x hx => ?_⟩
  rcases List.mem_cons.1 hx with rfl | hx
  · exact .inl (by simp)
  · exact (hb x hx).imp (fun q => by simp [q]) id
theorem txSL_Del (k : ByteArray) (r : Bool) (l' : List (ByteArray × Sl)) (hs : TXSL w0 w g F l) (hlen : l.length ≤ 100000) (hk : True) (h1 : isIn ltSL l k = r) (h2 : tDel ltSL l k = l') :
    Calls Try.prog 89 #[.pointer (some ⟨g, 0, none⟩), sv k] w fun e w' => e = .returned (.bool r) ∧ ∃ F', TXSL w0 w' g F' l' ∧ Upd F w w' ∧ (∀ x ∈ F', x ∈ F ∨ w.heap.size ≤ x) := by
  subst h1; subst h2
  have hold := hs.old
  obtain ⟨⟨lv, rfl, ht⟩, hr, -⟩ := hs
  refine (tDelSL_any w k ht hr hlen hk).mono ?_
  rintro e w' ⟨rfl, lv', ht', hu, hb⟩
  refine ⟨rfl, g :: blk lv', ⟨⟨lv', rfl, ht'⟩, hr.del strOrd k, hold.trans hu (by simp) (fun x hx => .inr (ht.lt x hx).1)⟩, hu, fun x hx => ?_⟩
  rcases List.mem_cons.1 hx with rfl | hx
  · exact .inl (by simp)
  · exact (hb x hx).imp (fun q => by simp [q]) id
theorem txSL_Get (k : ByteArray) (y : Sl) (r : Bool) (hs : TXSL w0 w g F l) (hlen : l.length ≤ 100000) (hk : True) (h : tGet ltSL (⟨none, 0, 0⟩ : Sl) l k = (y, r)) :
    Calls Try.prog 60 #[.pointer (some ⟨g, 0, none⟩), sv k] w fun e w' => e = .returned (.tuple #[slv y, .bool r]) ∧ Upd [] w w' := by
  obtain ⟨⟨lv, rfl, ht⟩, hr, -⟩ := hs
  unfold tGet at h
  cases hn : isIn ltSL l k with
  | false => rw [hn] at h; injection h with h1 h2; subst h1; subst h2; exact tGetSL_no w k ht hr hlen hk hn
  | true => rw [hn] at h; injection h with h1 h2; subst h1; subst h2; exact tGetSL_ok w k ht hr hlen hk hn
theorem txSL_Keys (ks : List ByteArray) (hs : TXSL w0 w g F l) (hlen : l.length ≤ 100000) (h : l.map (·.1) = ks) :
    Calls Try.prog 63 #[.pointer (some ⟨g, 0, none⟩)] w fun e w' => ∃ v, e = .returned v ∧ Own sv w.heap.size 9 w' v ks ∧ Upd [] w w' := by
  subst h
  obtain ⟨⟨lv, rfl, ht⟩, hr, -⟩ := hs
  exact tKeysSL_any w ht hlen
theorem txSL_Len (n : Int) (hs : TXSL w0 w g F l) (h : (l.length : Int) = n) :
    Calls Try.prog 74 #[.pointer (some ⟨g, 0, none⟩)] w fun e w' => e = .returned (.int .i64 n) ∧ w = w' := by
  subst h
  obtain ⟨⟨lv, rfl, ht⟩, hr, -⟩ := hs
  exact tLenSL_any w ht
theorem txSL_At (i : Int) (k : ByteArray) (y : Sl) (r : Bool) (hi : I64 i) (hs : TXSL w0 w g F l) (hlen : l.length ≤ 100000) (h : tAt (⟨#[]⟩ : ByteArray) (⟨none, 0, 0⟩ : Sl) l i = (k, y, r)) :
    Calls Try.prog 75 #[.pointer (some ⟨g, 0, none⟩), .int .i64 i] w fun e w' => e = .returned (.tuple #[sv k, slv y, .bool r]) ∧ Upd [] w w' := by
  obtain ⟨⟨lv, rfl, ht⟩, hr, -⟩ := hs
  unfold tAt at h
  split at h
  · rename_i hd
    obtain ⟨j, rfl⟩ := Int.eq_ofNat_of_zero_le hd.1
    injection h with h1 h2; injection h2 with h2 h3; subst h1; subst h2; subst h3
    exact tAtSL_ok w j ht hlen (by omega)
  · rename_i hd
    injection h with h1 h2; injection h2 with h2 h3; subst h1; subst h2; subst h3
    by_cases h0 : i < 0
    · exact tAtSL_neg w i hi ht h0
    · exact tAtSL_high w i hi ht hlen (by omega)
end
end Go.Proofs.Ytmhdhnipljonlaa
namespace Go.Proofs.Ytmhdhnipljonlaa
open Go.RowKit
set_option linter.unusedSimpArgs false
set_option linter.unusedVariables false
set_option linter.unusedSectionVars false
abbrev CF := List (ByteArray × (Sl × List UInt8))
abbrev rowsF (cs : CF) : List (ByteArray × Sl) := tMap id (·.1) cs
abbrev dfOf (cs : CF) : DF := tMap id (·.2) cs
section
variable {ν μ : Type} [Inhabited ν] [Inhabited μ]
theorem strLt_irr (a b : ByteArray) (h : strLt a b = true) : a ≠ b := by rintro rfl; rw [strOrd.irr] at h; exact absurd h (by simp)
theorem mem_take_nthS {α : Type} [Inhabited α] {l : List α} {n : Nat} {p : α} (h : p ∈ l.take n) : ∃ i, i < n ∧ i < l.length ∧ nth l i = p := by
  obtain ⟨i, hi, rfl⟩ := List.mem_iff_getElem.1 h
  rw [List.length_take] at hi
  exact ⟨i, by omega, by omega, by rw [nth_get l i (by omega)]; simp⟩
theorem mem_drop_nthS {α : Type} [Inhabited α] {l : List α} {n : Nat} {p : α} (h : p ∈ l.drop n) : ∃ i, n ≤ i ∧ i < l.length ∧ nth l i = p := by
  obtain ⟨i, hi, rfl⟩ := List.mem_iff_getElem.1 h
  rw [List.length_drop] at hi
  exact ⟨n + i, by omega, by omega, by rw [nth_get l _ (by omega)]; simp⟩
theorem tSet_memS {l : List (ByteArray × ν)} (h : Rising strLt l) (k : ByteArray) (v : ν) (p : ByteArray × ν) (hp : p ∈ tSet strLt l k v) : p = (k, v) ∨ (p ∈ l ∧ p.1 ≠ k) := by
  unfold tSet at hp
  rcases List.mem_append.1 hp with hp | hp
  · obtain ⟨i, hi, hl, rfl⟩ := mem_take_nthS hp
    exact .inr ⟨nth_mem i hl, strLt_irr _ _ (below_lt l k i hi)⟩
  · rcases List.mem_cons.1 hp with hp | hp
    · exact .inl hp
    · obtain ⟨i, hi, hl, rfl⟩ := mem_drop_nthS hp
      exact .inr ⟨nth_mem i hl, (strLt_irr _ _ (above strOrd h k i hi hl)).symm⟩
theorem tDel_memS {l : List (ByteArray × ν)} (h : Rising strLt l) (k : ByteArray) (p : ByteArray × ν) (hp : p ∈ tDel strLt l k) : p ∈ l ∧ (isIn strLt l k = true → p.1 ≠ k) := by
  refine ⟨tDel_mem l k p hp, fun hin => ?_⟩
  unfold tDel at hp
  rw [if_pos hin] at hp
  rcases List.mem_append.1 hp with hp | hp
  · obtain ⟨i, hi, hl, rfl⟩ := mem_take_nthS hp
    exact strLt_irr _ _ (below_lt l k i hi)
  · obtain ⟨i, hi, hl, rfl⟩ := mem_drop_nthS hp
    exact (strLt_irr _ _ (above strOrd h k i (by rw [if_pos hin]; exact hi) hl)).symm
variable (f : ν → μ)
theorem mapS_isIn (l : List (ByteArray × ν)) (k : ByteArray) : isIn strLt (tMap id f l) k = isIn strLt l k := tMap_isIn (lt := strLt) (lt' := strLt) id f (fun _ => True) (fun _ _ _ _ => rfl) (fun _ _ _ _ h => h) l (fun _ _ => trivial) k trivial
theorem mapS_below (l : List (ByteArray × ν)) (k : ByteArray) : below strLt (tMap id f l) k = below strLt l k := tMap_below (lt := strLt) (lt' := strLt) id f (fun _ => True) (fun _ _ _ _ => rfl) l (fun _ _ => trivial) k trivial
theorem mapS_set (l : List (ByteArray × ν)) (k : ByteArray) (v : ν) : tSet strLt (tMap id f l) k (f v) = tMap id f (tSet strLt l k v) := tMap_set (lt := strLt) (lt' := strLt) id f (fun _ => True) (fun _ _ _ _ => rfl) (fun _ _ _ _ h => h) l (fun _ _ => trivial) k trivial v
theorem mapS_del (l : List (ByteArray × ν)) (k : ByteArray) : tDel strLt (tMap id f l) k = tMap id f (tDel strLt l k) := tMap_del (lt := strLt) (lt' := strLt) id f (fun _ => True) (fun _ _ _ _ => rfl) (fun _ _ _ _ h => h) l (fun _ _ => trivial) k trivial
theorem mapS_len (l : List (ByteArray × ν)) : (tMap (κ' := ByteArray) id f l).length = l.length := by simp [tMap]
theorem mapS_rising {l : List (ByteArray × ν)} (h : Rising strLt (tMap (κ' := ByteArray) id f l)) : Rising strLt l := fun i j hij hj => by
  have hl := mapS_len f l
  have := h i j hij (by rw [hl]; exact hj)
  rwa [tMap_nth id f l i (by omega), tMap_nth id f l j hj] at this
theorem mapS_rising' {l : List (ByteArray × ν)} (h : Rising strLt l) : Rising strLt (tMap (κ' := ByteArray) id f l) := fun i j hij hj => by
  have hl := mapS_len f l
  rw [tMap_nth id f l i (by omega), tMap_nth id f l j (by omega)]
  exact h i j hij (by omega)
end
theorem df_len (cs : CF) : (dfOf cs).length = cs.length := by simp [tMap]
theorem rowsF_len (cs : CF) : (rowsF cs).length = cs.length := by simp [tMap]
/-- A table of files at g. -/
structure TD (w0 w : World) (g : Nat) (F B : List Nat) (K : KB) (cs : CF) : Prop where
  tab : TXSL w0 w g F (rowsF cs)
  sh : ∀ c ∈ cs, Sh B K c.2.1 c.2.2
  gr : ∀ c ∈ cs, Gr B K c.2.1 c.2.2
  ap : ∀ c ∈ cs, ∀ d ∈ cs, c.1 ≠ d.1 → Ap (gb c.2.1) (gb d.2.1)
theorem sl_ty {w0 w : World} {g : Nat} {F : List Nat} {l : List (ByteArray × Sl)} (h : TXSL w0 w g F l) : ∀ x ∈ F, ∃ C f e, w.heap[x]? = some (.cells C e f) ∧ (e = 140 ∨ e = 143) := by
  intro x hx
  obtain ⟨lv, rfl, ht⟩ := h.ex
  rcases List.mem_cons.1 hx with rfl | hx
  · exact ⟨_, _, _, ht.tab, .inl rfl⟩
  · obtain ⟨C, f, hq⟩ := ht.rows.typ x hx
    exact ⟨C, f, _, hq, .inr rfl⟩
theorem ty_eq {w : World} {x : Nat} {C C' : Array Value} {e e' : TypeId} {f f' : Nat × Nat} (h : w.heap[x]? = some (.cells C e f)) (h' : w.heap[x]? = some (.cells C' e' f')) : e = e' := by
  rw [h] at h'
  injection h' with h1; injection h1
theorem sl_bks {w0 w : World} {g base : Nat} {F B : List Nat} {K : KB} {l : List (ByteArray × Sl)} (h : TXSL w0 w g F l) (k : Bks base w B K) : Ap F B := by
  intro x hx hB
  obtain ⟨C, f, e, h1, h2⟩ := sl_ty h x hx
  obtain ⟨C', f', h1'⟩ := k.typ x hB
  have := ty_eq h1 h1'
  rcases h2 with h2 | h2 <;> (rw [h2] at this; exact absurd this (by decide))
section
variable {w0 w w' : World} {g : Nat} {F B B' : List Nat} {K K' : KB} {cs : CF}
theorem TD.ris (h : TD w0 w g F B K cs) : Rising strLt cs := mapS_rising (fun x : Sl × List UInt8 => x.1) h.tab.ris
theorem TD.risD (h : TD w0 w g F B K cs) : Rising strLt (dfOf cs) := mapS_rising' (fun x : Sl × List UInt8 => x.2) h.ris
theorem TD.upd (h : TD w0 w g F B K cs) {S : List Nat} (hu : Upd S w w') (hs : ∀ x ∈ F, x ∉ S) (hS : ∀ x ∈ S, w0.heap.size ≤ x) : TD w0 w' g F B K cs := ⟨h.tab.upd hu hs hS, h.sh, h.gr, h.ap⟩
theorem TD.upd0 (h : TD w0 w g F B K cs) (hu : Upd [] w w') : TD w0 w' g F B K cs := h.upd hu (by simp) (by simp)
/-- Blocks are added; none of those that the table's files may grow in is written. -/
theorem TD.keep (h : TD w0 w g F B K cs) (he : Ext B K B' K') (hk : ∀ x ∈ B, K' x = K x) : TD w0 w g F B' K' cs :=
  ⟨h.tab, fun c hc => (h.sh c hc).ext he, fun c hc => (h.gr c hc).keep he.sub hk, h.ap⟩
/-- No file has room behind it. -/
def Full (cs : CF) : Prop := ∀ c ∈ cs, c.2.1.k ≤ c.2.1.n
theorem TD.ext (h : TD w0 w g F B K cs) (hf : Full cs) (he : Ext B K B' K') : TD w0 w g F B' K' cs :=
  ⟨h.tab, fun c hc => (h.sh c hc).ext he, fun c hc => Gr.full (hf c hc), h.ap⟩
theorem get_rows (cs : CF) (k : ByteArray) (h : isIn strLt cs k = true) : tGet strLt (⟨none, 0, 0⟩ : Sl) (rowsF cs) k = ((nth cs (below strLt cs k)).2.1, true) := by
  have hlt : below strLt cs k < cs.length := by unfold isIn at h; exact (of_decide_eq_true h).1
  unfold tGet
  rw [mapS_isIn (·.1) cs k, h, if_pos rfl, mapS_below (·.1) cs k, tMap_nth id (·.1) cs _ hlt]
theorem get_rows_no (cs : CF) (k : ByteArray) (h : isIn strLt cs k = false) : tGet strLt (⟨none, 0, 0⟩ : Sl) (rowsF cs) k = (⟨none, 0, 0⟩, false) := by
  unfold tGet
  rw [mapS_isIn (·.1) cs k, h]; rfl
theorem get_df (cs : CF) (k : ByteArray) (h : isIn strLt cs k = true) : dGet (dfOf cs) k = ((nth cs (below strLt cs k)).2.2, true) := by
  have hlt : below strLt cs k < cs.length := by unfold isIn at h; exact (of_decide_eq_true h).1
  unfold dGet tGet
  rw [mapS_isIn (·.2) cs k, h, if_pos rfl, mapS_below (·.2) cs k, tMap_nth id (·.2) cs _ hlt]
theorem in_df (cs : CF) (k : ByteArray) : inD (dfOf cs) k = isIn strLt cs k := mapS_isIn (·.2) cs k
/-- A file is found: its slice, and what is known of it; or there is none. -/
theorem TD.found (h : TD w0 w g F B K cs) (k : ByteArray) : ∃ s l b, tGet strLt (⟨none, 0, 0⟩ : Sl) (rowsF cs) k = (s, b) ∧ dGet (dfOf cs) k = (l, b) ∧ inD (dfOf cs) k = b ∧ Sh B K s l ∧ Gr B K s l ∧ (∀ d ∈ cs, d.1 ≠ k → Gr B K d.2.1 d.2.2 ∧ Ap (gb d.2.1) (gb s)) := by
  cases hin : isIn strLt cs k with
  | true =>
    have hd : below strLt cs k < cs.length ∧ (nth cs (below strLt cs k)).1 = k := by unfold isIn at hin; exact of_decide_eq_true hin
    have hm := nth_mem (l := cs) _ hd.1
    exact ⟨_, _, true, get_rows cs k hin, get_df cs k hin, by rw [in_df, hin], h.sh _ hm, h.gr _ hm, fun d hd' hne => ⟨h.gr d hd', h.ap d hd' _ hm (by rw [hd.2]; exact hne)⟩⟩
  | false =>
    refine ⟨⟨none, 0, 0⟩, [], false, get_rows_no cs k hin, dGet_no (by rw [in_df, hin]), by rw [in_df, hin], Sh.nil, Gr.full (Nat.le_refl _), fun d hd _ => ⟨h.gr d hd, fun x _ hx => ?_⟩⟩
    rw [gb_full (Nat.le_refl _)] at hx; simp at hx
/-- Behind a call on a table: the files are fs'. -/
def TDoes (w0 w : World) (g : Nat) (F B : List Nat) (K : KB) (fs' : DF) (w' : World) : Prop :=
  ∃ F' B' K' cs', TD w0 w' g F' B' K' cs' ∧ Bks w0.heap.size w' B' K' ∧ Ext B K B' K' ∧ dfOf cs' = fs' ∧ Upd (F ++ B) w w' ∧ (∀ x ∈ F', x ∈ F ∨ w.heap.size ≤ x) ∧ (∀ x ∈ B', x ∈ B ∨ w.heap.size ≤ x)
theorem td_set (k : ByteArray) (s : Sl) (l : List UInt8) (ht : TXSL w0 w g F (rowsF cs)) (hB : Bks w0.heap.size w B K) (hlen : cs.length ≤ 100000) (hc : ∀ d ∈ cs, d.1 ≠ k → Sh B K d.2.1 d.2.2 ∧ Gr B K d.2.1 d.2.2 ∧ Ap (gb d.2.1) (gb s)) (hap : ∀ c ∈ cs, ∀ d ∈ cs, c.1 ≠ d.1 → Ap (gb c.2.1) (gb d.2.1)) (hs : Sh B K s l) (hg : Gr B K s l) :
    Calls Try.prog 88 #[.pointer (some ⟨g, 0, none⟩), sv k, slv s] w fun e w' => (∃ r, e = .returned (.bool r)) ∧ ∃ F', TD w0 w' g F' B K (tSet strLt cs k (s, l)) ∧ Bks w0.heap.size w' B K ∧ Upd F w w' ∧ (∀ x ∈ F', x ∈ F ∨ w.heap.size ≤ x) := by
  have hr : Rising strLt cs := mapS_rising (fun x : Sl × List UInt8 => x.1) ht.ris
  refine (txSL_Set k s _ _ ht (by rw [rowsF_len]; exact hlen) trivial rfl rfl).mono ?_
  rintro e w' ⟨rfl, F', hf, hu, hfr⟩
  have hrow : tSet ltSL (rowsF cs) k s = rowsF (tSet strLt cs k (s, l)) := mapS_set (·.1) cs k (s, l)
  rw [hrow] at hf
  refine ⟨⟨_, rfl⟩, F', ⟨hf, fun c hm => ?_, fun c hm => ?_, fun c hm d hd hne => ?_⟩, hB.upd hu (sl_bks ht hB).symm, hu, hfr⟩
  · rcases tSet_memS hr k _ c hm with rfl | ⟨q, qk⟩
    · exact hs
    · exact (hc c q qk).1
  · rcases tSet_memS hr k _ c hm with rfl | ⟨q, qk⟩
    · exact hg
    · exact (hc c q qk).2.1
  · rcases tSet_memS hr k _ c hm with rfl | ⟨q, qk⟩ <;> rcases tSet_memS hr k _ d hd with rfl | ⟨r, rk⟩
    · exact absurd rfl hne
    · exact (hc d r rk).2.2.symm
    · exact (hc c q qk).2.2
    · exact hap c q d r hne
theorem td_del (k : ByteArray) (h : TD w0 w g F B K cs) (hB : Bks w0.heap.size w B K) (hlen : cs.length ≤ 100000) :
    Calls Try.prog 89 #[.pointer (some ⟨g, 0, none⟩), sv k] w fun e w' => (∃ r, e = .returned (.bool r)) ∧ ∃ F', TD w0 w' g F' B K (tDel strLt cs k) ∧ Bks w0.heap.size w' B K ∧ Upd F w w' ∧ (∀ x ∈ F', x ∈ F ∨ w.heap.size ≤ x) := by
  refine (txSL_Del k _ _ h.tab (by rw [rowsF_len]; exact hlen) trivial rfl rfl).mono ?_
  rintro e w' ⟨rfl, F', hf, hu, hfr⟩
  have hrow : tDel ltSL (rowsF cs) k = rowsF (tDel strLt cs k) := mapS_del (·.1) cs k
  rw [hrow] at hf
  exact ⟨⟨_, rfl⟩, F', ⟨hf, fun c hm => h.sh c (tDel_mem cs k c hm), fun c hm => h.gr c (tDel_mem cs k c hm), fun c hm d hd hne => h.ap c (tDel_mem cs k c hm) d (tDel_mem cs k d hd) hne⟩, hB.upd hu (sl_bks h.tab hB).symm, hu, hfr⟩
theorem df_set (cs : CF) (k : ByteArray) (s : Sl) (l : List UInt8) : dfOf (tSet strLt cs k (s, l)) = tSet strLt (dfOf cs) k l := (mapS_set (·.2) cs k (s, l)).symm
theorem df_del (cs : CF) (k : ByteArray) : dfOf (tDel strLt cs k) = tDel strLt (dfOf cs) k := (mapS_del (·.2) cs k).symm
end
end Go.Proofs.Ytmhdhnipljonlaa
namespace Go.Proofs.Ytmhdhnipljonlaa
open Go.RowKit
set_option linter.unusedSimpArgs false
set_option linter.unusedVariables false
set_option linter.unusedSectionVars false
abbrev OW := ByteArray × (Sl × List UInt8)
abbrev owCells (c : OW) : List Value := [sv c.1, slv c.2.1]
theorem owCells_len : ∀ x, (owCells x).length = 2 := fun _ => rfl
theorem owCells_one : ∀ x, ∀ u ∈ owCells x, u.oneCell' = true := by intro x u hu; simp [owCells] at hu; rcases hu with rfl | rfl <;> rfl
theorem infoOW : (Try.prog.info? 150).map (fun i => (i.zero, i.size, i.bytes)) = some (some (.agg #[.string ⟨#[]⟩, .slice none 0 0]), 2, 40) := by kernel_rfl
theorem undOW : Try.prog.underlying 60 = some (.slice 150) := by kernel_rfl
theorem sizeOW : (Try.prog.info? 150).map (·.size) = some 2 := by kernel_rfl
/-- Where a name stands, or -1. -/
def atI (l : List OW) (nm : ByteArray) : Int := if isIn strLt l nm then (below strLt l nm : Int) else -1
theorem str_neR {a b : ByteArray} (h : a ≠ b) : (a.toList == b.toList) = false := by rw [beq_eq_false_iff_ne]; exact fun q => h (str_inj _ _ q)
set_option maxRecDepth 20000 in
set_option maxHeartbeats 1000000 in
theorem rdAt_any (w : World) (v : Value) (l : List OW) (nm : ByteArray) (h : RdN 2 owCells w v l) (hr : Rising strLt l) (hl : l.length ≤ 100000) :
    Calls Try.prog 91 #[v, sv nm] w fun e w' => e = .returned (.int .i64 (atI l nm)) ∧ Upd [] w w' := by
  obtain ⟨a, cap, rfl, hlc, hcm, hcell⟩ := h
  have hcap : cap ≤ 9223372036854775807 := by unfold maxLen at hcm; omega
  have HC := Lib.hid hcell
  have HR := Lib.hid hr
  clear hcell hr hcm
  go_enter Try.func91, Try.ntmps91
  go_wp2_with fail
  go_loopw [5] (fun i wr => ∃ k : Nat, k ≤ l.length ∧ i = .int .i64 k ∧ Hid (Upd [] w wr) ∧ Hid (∀ j, j < k → (nth l j).1 ≠ nm)) (fun i _ => l.length - (intOf i).toNat)
  case atStart => exact ⟨0, Nat.zero_le _, rfl, Upd.refl _ _, fun j h => absurd h (by omega)⟩
  case round =>
    obtain ⟨k, hk, rfl, hu, hne⟩ := hrel
    by_cases hlt : k < l.length
    · obtain ⟨b, off, rfl, hc⟩ := HC.out (by intro h; simp [h] at hlt)
      have c0 : wr.cell? ⟨b, off + k * 2, none⟩ = some (.string (nth l k).1) := hu.out.cell (hc k hlt 0 (by omega)) (by simp)
      have HX : Hid (∃ m, (nth l k).1 = m) := ⟨_, rfl⟩
      have HK : Hid ((nth l k).1 = nm → atI l nm = (k : Int)) := fun he => by
        unfold atI
        rw [← he, isIn_at strOrd HR.out k hlt, below_at strOrd HR.out k hlt]; rfl
      have HNE : Hid ((nth l k).1 ≠ nm → ∀ j, j < k + 1 → (nth l j).1 ≠ nm) := fun he j hj => by
        rcases Nat.lt_or_eq_of_le (Nat.le_of_lt_succ hj) with q | q
        · exact hne.out j q
        · subst q; exact he
      clear hc HX hne
      generalize (nth l k).1 = m at *
      have q0 : (0 : Int) ≤ k := by omega
      have q1 : (k : Int) < l.length := by omega
      by_cases he : m = nm
      · have HI := Lib.hid (HK.out he)
        have t1 : (m.toList == nm.toList) = true := by rw [he]; simp
        clear he HK HNE
        go_wp2_with fail
        go_ret
        exact ⟨by rw [HI.out]; rfl, hu.out⟩
      · have HI := Lib.hid (HNE.out he)
        have t1 := str_neR he
        clear he HK HNE
        go_wp2_with fail
        go_roundw
        case rel => exact ⟨k + 1, by omega, by go_num, hu, HI⟩
        case measure => simp [intOf]; omega
    · obtain rfl : k = l.length := by omega
      have HI : Hid (atI l nm = -1) := by
        unfold Hid atI
        rw [if_neg]
        intro hin
        unfold isIn at hin
        obtain ⟨h1, h2⟩ := of_decide_eq_true hin
        exact hne.out _ h1 h2
      clear hne
      go_wp2_with fail
      go_ret
      exact ⟨by rw [HI.out]; rfl, hu.out⟩
end Go.Proofs.Ytmhdhnipljonlaa
namespace Go.Proofs.Ytmhdhnipljonlaa
open Go.RowKit
set_option linter.unusedSimpArgs false
set_option linter.unusedVariables false
structure Grows (s s' : DS) (n : Nat) : Prop where
  now : s'.now.length ≤ s.now.length + 1
  log : s'.log.length ≤ s.log.length + n + 1
  mark : s'.mark = s.mark
theorem Grows.refl (s : DS) (n : Nat) : Grows s s n := ⟨by omega, by omega, rfl⟩
theorem grows_do (x : Wr) (s : DS) (n : Nat) : Grows s (dDo x s) n := by
  refine ⟨?_, by unfold dDo; simp, rfl⟩
  have h1 := fun k v => tSet_len (lt := strLt) s.now k v
  have h2 := tDel_len (lt := strLt) s.now x.nm
  have h3 := tSet_len (lt := strLt) (tDel strLt s.now x.nm) x.tn (dGet s.now x.nm).1
  show (wApply x s.now).length ≤ _
  unfold wApply
  split
  · exact h1 _ _
  split
  · exact h1 _ _
  split
  · split <;> omega
  split
  · exact h1 _ _
  split <;> omega
theorem grows_append {s : DS} (h : DOk s) (nm : ByteArray) (p : List UInt8) (hl : s.now.length ≤ 4999) : Grows s (dAppend s nm p).2 p.length := by
  unfold dAppend
  split
  · split
    · exact Grows.refl _ _
    · rename_i ht
      dsimp only
      cases hin : inD s.now nm with
      | true =>
        rw [if_pos rfl]
        have h1 := PutOk.all p h hin (by omega) (by omega) (chunks p).length (Nat.le_refl _)
        rw [List.take_length] at h1
        exact ⟨by rw [h1.len]; omega, by have := h1.log; omega, h1.mark⟩
      | false =>
        rw [if_neg (by simp)]
        obtain ⟨k1, k2, k3, k4, k5⟩ := h.make nm hin (by omega)
        have h1 := PutOk.all p k2 k3 (by omega) (by omega) (chunks p).length (Nat.le_refl _)
        rw [List.take_length] at h1
        have hlog : (dDo (wMake nm) s).log.length = s.log.length + 1 := by unfold dDo; simp
        exact ⟨by rw [h1.len]; exact k5, by have := h1.log; omega, h1.mark⟩
  · exact Grows.refl _ _
theorem grows_rename (s : DS) (nm tn : ByteArray) (n : Nat) : Grows s (dRename s nm tn).2 n := by
  unfold dRename
  split
  · split
    · exact grows_do _ _ _
    · exact Grows.refl _ _
  · exact Grows.refl _ _
theorem grows_cut (s : DS) (nm : ByteArray) (m : Int) (n : Nat) : Grows s (dCut s nm m).2 n := by
  unfold dCut
  split
  · split
    · exact Grows.refl _ _
    · exact grows_do _ _ _
  · exact Grows.refl _ _
theorem grows_remove (s : DS) (nm : ByteArray) (n : Nat) : Grows s (dRemove s nm).2 n := by
  unfold dRemove
  split
  · exact grows_do _ _ _
  · exact Grows.refl _ _
/-- Back of all: the files are what they were. -/
theorem back_all {s : DS} (h : DOk s) : (dBack s (s.log.length : Int)).now = s.now := by
  show dBackF s _ = _
  unfold dBackF
  rw [Int.toNat_natCast, List.take_length, ← h.eq]
theorem back_log (s : DS) (n : Int) : (dBack s n).log = [] := rfl
theorem back_zero {s : DS} (h : s.mark = []) : (dBack s 0).now = [] := by
  show dBackF s 0 = _
  unfold dBackF
  rw [h]; rfl
theorem back_nlen {s : DS} (h : DOk s) (hm : s.mark = []) (n : Int) : (dBack s n).now.length ≤ 100000 := by
  show (dBackF s n).length ≤ _
  unfold dBackF
  have : ∀ {fs : DF} {l : List Wr}, LogOk fs l → fs.length ≤ 100000 → (wAll fs l).length ≤ 100000 := by
    intro fs l
    induction l generalizing fs with
    | nil => exact fun _ h => h
    | cons x l ih =>
      intro h _
      refine ih (fs := wApply x fs) h.2 ?_
      have := (grows_do x ⟨fs, [], []⟩ 0).now
      have h5 := h.1.len
      have h6 : (wApply x fs).length ≤ fs.length + 1 := this
      omega
  exact this (h.log.take _) (by rw [hm]; simp)
end Go.Proofs.Ytmhdhnipljonlaa
namespace Go.Proofs.Ytmhdhnipljonlaa
open Go.RowKit
set_option linter.unusedSimpArgs false
set_option linter.unusedVariables false
abbrev wrv (x : Wr) (sl : Sl) : Value := .agg #[.int .i64 x.kd, sv x.nm, sv x.tn, slv sl, .int .i64 x.n]
section
variable {w0 w w' : World} {g : Nat} {F B : List Nat} {K : KB} {cs : CF}
theorem TDoes.of {w1 w2 : World} {F' B' : List Nat} {K' : KB} {cs' : CF} {fs' : DF} (h1 : TD w0 w2 g F' B' K' cs') (h2 : Bks w0.heap.size w2 B' K') (h3 : Ext B K B' K') (h4 : dfOf cs' = fs') (hu : Upd [] w w1) (hu2 : Upd (F ++ B) w1 w2) (hf : ∀ x ∈ F', x ∈ F ∨ w.heap.size ≤ x) (hb : ∀ x ∈ B', x ∈ B ∨ w.heap.size ≤ x) : TDoes w0 w g F B K fs' w2 :=
  ⟨F', B', K', cs', h1, h2, h3, h4, hu.trans hu2 (by simp) (fun x hx => .inl hx), hf, hb⟩
theorem ap_full {F : List Nat} {s : Sl} (h : s.k ≤ s.n) : Ap F (gb s) := fun x _ hx => by rw [gb_full h] at hx; simp at hx
theorem wApply_1 (nm tn : ByteArray) (p : List UInt8) (n : Int) (fs : DF) : wApply ⟨1, nm, tn, p, n⟩ fs = tSet strLt fs nm [] := by unfold wApply; simp
theorem wApply_2 (nm tn : ByteArray) (p : List UInt8) (n : Int) (fs : DF) : wApply ⟨2, nm, tn, p, n⟩ fs = tSet strLt fs nm ((dGet fs nm).1 ++ p) := by unfold wApply; simp
theorem wApply_3 (nm tn : ByteArray) (p : List UInt8) (n : Int) (fs : DF) : wApply ⟨3, nm, tn, p, n⟩ fs = if inD fs nm then tSet strLt (tDel strLt fs nm) tn (dGet fs nm).1 else fs := by unfold wApply; simp
theorem wApply_4 (nm tn : ByteArray) (p : List UInt8) (n : Int) (fs : DF) : wApply ⟨4, nm, tn, p, n⟩ fs = tSet strLt fs nm ((dGet fs nm).1.take n.toNat) := by unfold wApply; simp
theorem wApply_5 (nm tn : ByteArray) (p : List UInt8) (n : Int) (fs : DF) : wApply ⟨5, nm, tn, p, n⟩ fs = tDel strLt fs nm := by unfold wApply; simp
theorem later {F : List Nat} {w w2 : World} {x : Nat} (hu : Upd [] w w2) (h : x ∈ F ∨ w2.heap.size ≤ x) : x ∈ F ∨ w.heap.size ≤ x := h.imp id (fun q => by have := hu.size; omega)
set_option maxRecDepth 20000 in
set_option maxHeartbeats 4000000 in
theorem apply_any (x : Wr) (sl : Sl) (hx : WrOk x (dfOf cs)) (ht : TD w0 w g F B K cs) (hB : Bks w0.heap.size w B K) (hp : Sh B K sl x.p) :
    Calls Try.prog 62 #[wrv x sl, .pointer (some ⟨g, 0, none⟩)] w fun e w' => e = .returned (.tuple #[]) ∧ TDoes w0 w g F B K (wApply x (dfOf cs)) w' := by
  obtain ⟨kd, nm, tn, p, n⟩ := x
  obtain ⟨pa, pn, pk⟩ := sl
  obtain ⟨⟨oa, on, ok⟩, old, b, hget, hdg, hin, hsh, hgr, hoth⟩ := ht.found nm
  have hlen : cs.length ≤ 100000 := by have := hx.len; rw [df_len] at this; omega
  have hrl : (rowsF cs).length ≤ 100000 := by rw [rowsF_len]; exact hlen
  have hbase := hB
  have hu1 : Upd [] w (w.alloc (.cells #[.int .i64 kd, sv nm, sv tn, .slice pa pn pk, .int .i64 n] 114)) := (Upd.refl [] w).alloc _
  have HT := Lib.hid (ht.upd0 hu1)
  have HB := Lib.hid (hB.upd hu1 (by simp))
  have HBX := Lib.hid (Blk.new w 114 [.int .i64 kd, sv nm, sv tn, .slice pa pn pk, .int .i64 n])
  have HGET := Lib.hid hget
  have HX := Lib.hid hx
  have HU1 := Lib.hid hu1
  have HSH := Lib.hid hsh
  have HGR := Lib.hid hgr
  have HOTH := Lib.hid hoth
  have HP := Lib.hid hp
  have HDG := Lib.hid hdg
  have HIN := Lib.hid hin
  have HRL := Lib.hid hrl
  have HLEN := Lib.hid hlen
  have hkd := hx.kd
  clear ht hB hget hx hu1 hsh hgr hoth hp hdg hin hbase hrl hlen
  go_enter Try.func62, Try.ntmps62
  go_wp2_with fail
  (with_reducible refine (txSL_Get nm ⟨oa, on, ok⟩ b HT.out.tab HRL.out trivial HGET.out).mono ?_)
  rintro e w2 ⟨rfl, hu2⟩
  have hB2 := HBX.out.upd hu2 (by simp)
  have d0 := hB2.cell 0
  have d1 := hB2.cell 1
  have d2 := hB2.cell 2
  have d3 := hB2.cell 3
  have d4 := hB2.cell 4
  simp only [List.getElem?_cons_zero, List.getElem?_cons_succ] at d0 d1 d2 d3 d4
  have HT2 := Lib.hid (HT.out.upd0 hu2)
  have HB2 := Lib.hid (HB.out.upd hu2 (by simp))
  have HU2 := Lib.hid (HU1.out.seq hu2)
  have HNF : Hid (w.heap.size ∉ F) := fun hx => by
    obtain ⟨C, f, e, h1, h2⟩ := sl_ty HT2.out.tab _ hx
    have := ty_eq h1 hB2
    rcases h2 with h2 | h2 <;> (rw [h2] at this; exact absurd this (by decide))
  have HNB : Hid (w.heap.size ∉ B) := fun hx => by
    obtain ⟨C, f, h1⟩ := HB2.out.typ _ hx
    exact absurd (ty_eq h1 hB2) (by decide)
  clear hB2 hu2 HT HB HBX HU1
  rcases (show kd = 1 ∨ kd = 2 ∨ kd = 3 ∨ kd = 4 ∨ kd = 5 by have := hkd.1; have := hkd.2; omega) with rfl | rfl | rfl | rfl | rfl
  · clear hkd
    go_wp2_with fail
    (with_reducible refine (td_set nm ⟨none, 0, 0⟩ [] HT2.out.tab HB2.out HLEN.out (fun d hd hne => ⟨HT2.out.sh d hd, HT2.out.gr d hd, ap_full (Nat.le_refl _)⟩) HT2.out.ap Sh.nil (Gr.full (Nat.le_refl _))).mono ?_)
    rintro e w3 ⟨⟨r, rfl⟩, F3, h3, hb3, hu3, hf3⟩
    have H9 := Lib.hid (TDoes.of (fs' := wApply ⟨1, nm, tn, p, n⟩ (dfOf cs)) (w := w) (B := B) (K := K) (F := F) h3 hb3 (Ext.refl _ _) (by rw [df_set, wApply_1 nm tn p n]) HU2.out (hu3.mono (fun x hx => .inl (by simp [hx]))) (fun x hx => later HU2.out (hf3 x hx)) (fun x hx => .inl hx))
    clear h3 hb3 hu3 hf3
    go_wp2_with fail
    go_end0
    exact ⟨rfl, H9.out⟩
  · clear hkd
    obtain ⟨hne, hpl⟩ := HX.out.put rfl
    dsimp only at hne hpl
    rw [HDG.out] at hpl
    dsimp only at hpl
    have HRUN : Hid (∀ ty, ∃ v' w', (Builtin.append_ #[27, 27] ty #[slv ⟨oa, on, ok⟩, slv ⟨pa, pn, pk⟩]).run Try.prog w2.drew = .ok v' w' ∧ Grew w0.heap.size w2.drew B K ⟨oa, on, ok⟩ (old ++ p) v' w') := fun ty => app_step (HB2.out.upd (Upd.refl [] w2).drew (by simp)) HSH.out HGR.out (HP.out.rd (HB2.out.upd (Upd.refl [] w2).drew (by simp))) hne (by omega) (by have := HT2.out.tab.old.size; exact this)
    clear hne hpl
    have HFB : Hid (∀ x ∈ F, x ∉ B) := sl_bks HT2.out.tab HB2.out
    go_wp2_with fail
    go_region_held3 (fun w' => w'.cell? ⟨w.heap.size, 1, none⟩ = some (sv nm) ∧ w'.cell? ⟨w.heap.size, 3, none⟩ = some (.slice pa pn pk)) (first | go_keep | exact k5 | exact k4)
      (first
        | ((with_reducible refine step_app_of rfl (.tmp 26) (.tmp 28) rfl (.slice oa on ok) (.slice pa pn pk) rfl rfl (HRUN.out _) ?_); (rintro v3 w3 ⟨⟨sa, sn, sk⟩, B3, K3, rfl, hb3, he3, hn3, hs3, hg3, hu3, ho3⟩; have k4 := And.intro (hu3.cell (p := ⟨w.heap.size, 1, none⟩) d1 HNB.out) (hu3.cell (p := ⟨w.heap.size, 3, none⟩) d3 HNB.out); have HB3 := Lib.hid hb3; have HE3 := Lib.hid he3; have HN3 := Lib.hid hn3; have HS3 := Lib.hid hs3; have HG3 := Lib.hid hg3; have HU3 := Lib.hid hu3; have HO3 := Lib.hid ho3; clear hb3 he3 hn3 hs3 hg3 hu3 ho3; dsimp only))
        | (go_at_call 88; (with_reducible refine (td_set nm ⟨sa, sn, sk⟩ (old ++ p) (HT2.out.tab.upd (S := B) ((Upd.refl [] w2).drew.trans HU3.out (by simp) (fun x hx => .inl hx)) HFB.out (fun x hx => (HB2.out.ge x hx).1)) HB3.out HLEN.out (fun d hd hne => ⟨(HT2.out.sh d hd).ext HE3.out, HO3.out _ _ (HOTH.out d hd hne).1 (HOTH.out d hd hne).2⟩) HT2.out.ap HS3.out HG3.out).mono ?_); (rintro e w4 ⟨⟨r, rfl⟩, F4, h4, hb4, hu4, hf4⟩; have k5 := And.intro (hu4.cell (p := ⟨w.heap.size, 1, none⟩) k4.1 HNF.out) (hu4.cell (p := ⟨w.heap.size, 3, none⟩) k4.2 HNF.out); dsimp only)))
    have hu3' : Upd B w w3 := HU2.out.drew.trans HU3.out (by simp) (fun x hx => .inl hx)
    have H9 : Hid (TDoes w0 w g F B K (wApply ⟨2, nm, tn, p, n⟩ (dfOf cs)) w4) := ⟨F4, B3, K3, _, h4, hb4, HE3.out, by rw [df_set, wApply_2, HDG.out], hu3'.trans hu4 (fun x hx => by simp [hx]) (fun x hx => .inl (by simp [hx])), fun x hx => (hf4 x hx).imp id (fun q => by have := hu3'.size; omega), fun x hx => (HN3.out x hx).imp id (fun q => by have := HU2.out.size; have : w2.drew.heap.size = w2.heap.size := rfl; omega)⟩
    clear h4 hb4 hu4 hf4 hu3'
    go_wp2_with fail
    go_end0
    exact ⟨rfl, H9.out⟩
  · clear hkd
    cases b with
    | false =>
      go_wp2_with fail
      go_end0
      exact ⟨rfl, TDoes.of (w := w) (B := B) (K := K) (F := F) HT2.out HB2.out (Ext.refl _ _) (by rw [wApply_3, HIN.out]; rfl) (Upd.refl _ _) (HU2.out.mono (by simp)) (fun x hx => .inl hx) (fun x hx => .inl hx)⟩
    | true =>
      go_wp2_with fail
      (with_reducible refine (td_del nm HT2.out HB2.out HLEN.out).mono ?_)
      rintro e w3 ⟨⟨r, rfl⟩, F3, h3, hb3, hu3, hf3⟩
      have e2 := hu3.cell d2 (HNF.out)
      have H3 := Lib.hid h3
      have HB3 := Lib.hid hb3
      have HU3 := Lib.hid hu3
      have HF3 := Lib.hid hf3
      clear h3 hb3 hu3 hf3 d0 d1 d2 d3 d4
      have HL3 : Hid (List.length (tDel strLt cs nm) ≤ 100000) := Nat.le_trans (tDel_len cs nm) HLEN.out
      have HO3 : Hid (∀ d ∈ tDel strLt cs nm, Gr B K d.2.1 d.2.2 ∧ Ap (gb d.2.1) (gb ⟨oa, on, ok⟩)) := fun d hd => by
        obtain ⟨h1, h2⟩ := tDel_memS HT2.out.ris nm d hd
        exact HOTH.out d h1 (h2 (by rw [← in_df]; exact HIN.out))
      go_wp2_with fail
      (with_reducible refine (td_set tn ⟨oa, on, ok⟩ old H3.out.tab HB3.out HL3.out (fun d hd hne => ⟨H3.out.sh d hd, HO3.out d hd⟩) H3.out.ap HSH.out HGR.out).mono ?_)
      rintro e w4 ⟨⟨r, rfl⟩, F4, h4, hb4, hu4, hf4⟩
      have H9 : Hid (TDoes w0 w g F B K (wApply ⟨3, nm, tn, p, n⟩ (dfOf cs)) w4) := ⟨F4, B, K, _, h4, hb4, Ext.refl _ _, by rw [df_set, df_del, wApply_3, HIN.out, HDG.out]; rfl, HU2.out.trans (HU3.out.trans (T := F ++ B) hu4 (fun x hx => by simp [hx]) (fun x hx => (HF3.out x hx).imp (fun q => by simp [q]) id)) (by simp) (fun x hx => .inl hx), fun x hx => by
        have := HU2.out.size
        have := HU3.out.size
        rcases hf4 x hx with q | q
        · exact later HU2.out (HF3.out x q)
        · exact .inr (by omega), fun x hx => .inl hx⟩
      clear h4 hb4 hu4 hf4
      go_wp2_with fail
      go_end0
      exact ⟨rfl, H9.out⟩
  · clear hkd
    obtain ⟨h0, hn⟩ := HX.out.cut rfl
    dsimp only at h0 hn
    rw [HDG.out] at hn
    dsimp only at hn
    obtain ⟨m, rfl⟩ := Int.eq_ofNat_of_zero_le h0
    have hml : m ≤ old.length := by omega
    have hmk : m ≤ ok := by have := HSH.out.n; have := HSH.out.k; dsimp only at *; omega
    have hcut := fun W => run_cut_hm (P := Try.prog) (size := 1) Try.underlying27 (by kernel_rfl) oa on ok m hmk W
    have HML := Lib.hid hml
    clear h0 hn hml hmk
    go_wp2_with fail
    go_still_tail 9, (by kernel_rfl)
    change wpList _ _ _ _ _ w2.drew
    go_wp2_with fail
    (with_reducible refine (td_set nm ⟨oa, m, m⟩ (old.take m) (HT2.out.tab.upd0 (Upd.refl [] w2).drew) (HB2.out.upd (Upd.refl [] w2).drew (by simp)) HLEN.out (fun d hd hne => ⟨HT2.out.sh d hd, HT2.out.gr d hd, ap_full (Nat.le_refl _)⟩) HT2.out.ap (HSH.out.cut m HML.out) (Gr.full (Nat.le_refl _))).mono ?_)
    rintro e w3 ⟨⟨r, rfl⟩, F3, h3, hb3, hu3, hf3⟩
    have H9 := Lib.hid (TDoes.of (fs' := wApply ⟨4, nm, tn, p, (m : Int)⟩ (dfOf cs)) (w := w) (B := B) (K := K) (F := F) h3 hb3 (Ext.refl _ _) (by rw [df_set, wApply_4, HDG.out, Int.toNat_natCast]) HU2.out.drew (hu3.mono (fun x hx => .inl (by simp [hx]))) (fun x hx => later HU2.out (hf3 x hx)) (fun x hx => .inl hx))
    clear h3 hb3 hu3 hf3
    go_wp2_with fail
    go_end0
    exact ⟨rfl, H9.out⟩
  · clear hkd
    go_wp2_with fail
    (with_reducible refine (td_del nm HT2.out HB2.out HLEN.out).mono ?_)
    rintro e w3 ⟨⟨r, rfl⟩, F3, h3, hb3, hu3, hf3⟩
    have H9 := Lib.hid (TDoes.of (fs' := wApply ⟨5, nm, tn, p, n⟩ (dfOf cs)) (w := w) (B := B) (K := K) (F := F) h3 hb3 (Ext.refl _ _) (by rw [df_del, wApply_5 nm tn p n]) HU2.out (hu3.mono (fun x hx => .inl (by simp [hx]))) (fun x hx => later HU2.out (hf3 x hx)) (fun x hx => .inl hx))
    clear h3 hb3 hu3 hf3
    go_wp2_with fail
    go_end0
    exact ⟨rfl, H9.out⟩
end
end Go.Proofs.Ytmhdhnipljonlaa
