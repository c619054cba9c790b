/- Texts of the proof, joined: The walk of LedgerRuns: its parts, and the last region. -/
import Derived.Test.YtmhojaiajhdlcaaGreatMp15
import Derived.Deep.RegionHeld3
namespace Go.Proofs.YtmhojaiajhdlcaaGreat
open Go.RowKit
set_option linter.unusedSimpArgs false
set_option linter.unusedVariables false
theorem lAdd_new {all : List Rec} {lo B : Nat} {s : DS} (h : LInv (Fr all) lo B s) (hn : OneF s.now (Fr all)) (hlo : lo ≤ (Fr all).length) (r : Rec) (hok : recOk r = true) (hh : hasK all r.key = false) (hz : (Fr all).length ≤ 16000000) :
    ∃ s', lAdd all s r = ((true, 0), all ++ [r], s') ∧ LInv (Fr (all ++ [r])) lo (B + 300) s' ∧ OneF s'.now (Fr (all ++ [r])) := by
  have hl := encRec_len hok
  have hf := frameOf_len (encRec r)
  obtain ⟨h1, h2, h3⟩ := h.append hn hlo (frameOf (encRec r)) (by omega)
  refine ⟨(dAppend s nmL (frameOf (encRec r))).2, ?_, ?_, ?_⟩
  · unfold lAdd
    rw [hok, if_pos rfl, hh, if_neg (by simp), if_pos h1]
  · rw [Fr_snoc]; exact h2.bound (by omega)
  · rw [Fr_snoc]; exact h3 (fun q => by rw [q] at hf; simp at hf; omega)
theorem lAdd_old {all : List Rec} {s : DS} (r : Rec) (hok : recOk r = true) (hh : hasK all r.key = true) : lAdd all s r = ((false, 0), all, s) := by
  unfold lAdd; rw [hok, if_pos rfl, hh, if_pos rfl]
theorem lAdd_bad {all : List Rec} {s : DS} (r : Rec) (hok : recOk r = false) : lAdd all s r = ((false, 1), all, s) := by
  unfold lAdd; rw [hok]; rfl
set_option maxRecDepth 20000 in
theorem ledOpenNil_any (w : World) : Calls Tryz.prog 23 #[.pointer none] w fun e w' => e = .returned (.tuple #[.pointer none, .int .i64 1]) ∧ w = w' := by
  go_enter Tryz.func23, Tryz.ntmps23
  go_wp2_with fail
  go_ret2
  exact ⟨rfl, rfl⟩
abbrev recA : Rec := mkRec 1 1 5 ⟨#[97]⟩ 1 (-1) (-1) (-1) (-1) (-1) (-1) (-1) (-1) (-1) (-1)
abbrev recB : Rec := mkRec 1 1 5 ⟨#[]⟩ 2 0 0 0 0 0 0 0 0 0 0
theorem recA_ok : recOk recA = true := by decide
theorem recB_ok : recOk recB = true := by decide
theorem recAB : Uniq [recA, recB] := by
  intro i j hij hj
  have hi0 : i = 0 := by simp at hj; omega
  have hj1 : j = 1 := by simp at hj; omega
  subst hi0; subst hj1
  decide
theorem recZ_no : recOk (mkRec 0 0 0 ⟨#[]⟩ 0 0 0 0 0 0 0 0 0 0 0) = false := by decide
def flen (r : Rec) : Nat := (encRec r).length
theorem rd_one {w : World} {C : Array Value} {g : Nat} (r : Rec) (hg : g = w.heap.size) (hC : C = (recCells r).toArray) : RdN 15 recCells (w.alloc (.cells C 27)) (.slice (some ⟨g, 0, none⟩) 1 1) [r] := by
  subst hg; subst hC
  have hb := Blk.new w 27 (recCells r)
  refine ⟨_, 1, rfl, by simp, by simp [maxLen], fun _ => ⟨w.heap.size, 0, rfl, fun j hj i hi => ?_⟩⟩
  have hj0 : j = 0 := by simpa using hj
  subst hj0
  rw [Nat.zero_mul, Nat.zero_add, Nat.zero_add, hb.cell, nth_cons_zero]
structure RS (w0 w : World) (gd gl : Nat) (F G : List Nat) (rl : List Rec) (s : DS) (gA gB : Nat) : Prop where
  ld : LD w0 w gd gl F G rl s
  a : Blk w gA 27 [.int .i64 1, .int .i64 1, .int .i64 5, .string ⟨#[97]⟩, .int .i64 1, .int .i64 (-1), .int .i64 (-1), .int .i64 (-1), .int .i64 (-1), .int .i64 (-1), .int .i64 (-1), .int .i64 (-1), .int .i64 (-1), .int .i64 (-1), .int .i64 (-1)]
  b : Blk w gB 27 [.int .i64 1, .int .i64 1, .int .i64 5, .string ⟨#[]⟩, .int .i64 2, .int .i64 0, .int .i64 0, .int .i64 0, .int .i64 0, .int .i64 0, .int .i64 0, .int .i64 0, .int .i64 0, .int .i64 0, .int .i64 0]
  ne : ∀ x ∈ F ++ G, x ≠ gA ∧ x ≠ gB
section
variable {w0 w w' : World} {gd gl gA gB : Nat} {F G : List Nat} {rl rl' : List Rec} {s s' : DS}
theorem RS.upd0 (h : RS w0 w gd gl F G rl s gA gB) (hu : Upd [] w w') : RS w0 w' gd gl F G rl s gA gB := ⟨h.ld.upd0 hu, h.a.upd hu (by simp), h.b.upd hu (by simp), h.ne⟩
theorem RS.step {S : List Nat} {gl' : Nat} (h : RS w0 w gd gl F G rl s gA gB) (hS : ∀ x ∈ S, x ∈ F ++ G) (ho : LOut w0 w gd gl' S rl' s' w') : ∃ F' G', RS w0 w' gd gl' F' G' rl' s' gA gB := by
  obtain ⟨F', G', k1, k2, k3, k4⟩ := ho
  have ha := h.a.lt
  have hb := h.b.lt
  refine ⟨F', G', k1, h.a.upd k2 (fun q => (h.ne _ (hS _ q)).1 rfl), h.b.upd k2 (fun q => (h.ne _ (hS _ q)).2 rfl), fun x hx => ?_⟩
  rcases List.mem_append.1 hx with q | q
  · rcases k3 x q with z | z
    · exact h.ne x (hS x z)
    · omega
  · rcases k4 x q with z | z
    · exact h.ne x (hS x z)
    · omega
theorem rsAddA (h : RS w0 w gd gl F G rl s gA gB) (hz : s.now.length ≤ 4999 ∧ s.log.length ≤ 500000000 ∧ rl.length ≤ 100000000) {b : Bool} {er : Int} (he : lAdd rl s recA = ((b, er), rl', s')) :
    Calls Tryz.prog 31 #[.pointer (some ⟨gl, 0, none⟩), .agg #[.int .i64 1, .int .i64 1, .int .i64 5, .string ⟨#[97]⟩, .int .i64 1, .int .i64 (-1), .int .i64 (-1), .int .i64 (-1), .int .i64 (-1), .int .i64 (-1), .int .i64 (-1), .int .i64 (-1), .int .i64 (-1), .int .i64 (-1), .int .i64 (-1)]] w fun e w' => e = .returned (.tuple #[.bool b, .int .i64 er]) ∧ ∃ F' G', RS w0 w' gd gl F' G' rl' s' gA gB := by
  have h1 := ledAdd_c h.ld 1 1 5 ⟨#[97]⟩ 1 (-1) (-1) (-1) (-1) (-1) (-1) (-1) (-1) (-1) (-1) hz.1 hz.2.1 hz.2.2
  rw [he] at h1
  exact h1.mono fun e w' ⟨k1, k2⟩ => ⟨k1, h.step (fun x q => q) k2⟩
theorem rsAddB (h : RS w0 w gd gl F G rl s gA gB) (hz : s.now.length ≤ 4999 ∧ s.log.length ≤ 500000000 ∧ rl.length ≤ 100000000) {b : Bool} {er : Int} (he : lAdd rl s recB = ((b, er), rl', s')) :
    Calls Tryz.prog 31 #[.pointer (some ⟨gl, 0, none⟩), .agg #[.int .i64 1, .int .i64 1, .int .i64 5, .string ⟨#[]⟩, .int .i64 2, .int .i64 0, .int .i64 0, .int .i64 0, .int .i64 0, .int .i64 0, .int .i64 0, .int .i64 0, .int .i64 0, .int .i64 0, .int .i64 0]] w fun e w' => e = .returned (.tuple #[.bool b, .int .i64 er]) ∧ ∃ F' G', RS w0 w' gd gl F' G' rl' s' gA gB := by
  have h1 := ledAdd_c h.ld 1 1 5 ⟨#[]⟩ 2 0 0 0 0 0 0 0 0 0 0 hz.1 hz.2.1 hz.2.2
  rw [he] at h1
  exact h1.mono fun e w' ⟨k1, k2⟩ => ⟨k1, h.step (fun x q => q) k2⟩
theorem rsLen {a b : Rec} (h : RS w0 w gd gl F G ([] ++ [a] ++ [b]) s gA gB) : Calls Tryz.prog 30 #[.pointer (some ⟨gl, 0, none⟩)] w fun e w' => e = .returned (.int .i64 2) ∧ w = w' := by
  obtain ⟨gm, lv, hl, -⟩ := h.ld.lc
  exact ledLen_any hl
theorem rsOpen (h : RS w0 w gd gl F G rl s gA gB) (hz : s.now.length ≤ 5000 ∧ s.log.length ≤ 1000000000) (he : lOpen s = (rl', s')) :
    Calls Tryz.prog 23 #[.pointer (some ⟨gd, 0, none⟩)] w fun e w' => ∃ gk, e = .returned (.tuple #[.pointer (some ⟨gk, 0, none⟩), .int .i64 0]) ∧ ∃ F' G', RS w0 w' gd gk F' G' rl' s' gA gB := by
  have h1 := ledOpen_any h.ld.dd hz.1 hz.2
  rw [he] at h1
  exact h1.mono fun e w' ⟨gk, k1, k2⟩ => ⟨gk, k1, h.step (fun x q => List.mem_append_right _ q) k2⟩
end
theorem putA (w : World) : Calls Tryz.prog 14 #[.agg #[.int .i64 1, .int .i64 1, .int .i64 5, .string ⟨#[97]⟩, .int .i64 1, .int .i64 (-1), .int .i64 (-1), .int .i64 (-1), .int .i64 (-1), .int .i64 (-1), .int .i64 (-1), .int .i64 (-1), .int .i64 (-1), .int .i64 (-1), .int .i64 (-1)]] w fun e w' => ∃ v, e = .returned v ∧ Hid (Bytes w' v (encRec recA)) ∧ Upd [] w w' := by
  have h1 := ledPut_c w 1 1 5 ⟨#[97]⟩ 1 (-1) (-1) (-1) (-1) (-1) (-1) (-1) (-1) (-1) (-1)
  rw [if_pos recA_ok] at h1
  exact h1.mono fun e w' ⟨v, k1, k2, k3⟩ => ⟨v, k1, k2.rd, k3⟩
theorem getA {w : World} {v : Value} (h : Hid (Bytes w v (encRec recA))) : Calls Tryz.prog 10 #[v] w fun e w' => e = .returned (.tuple #[.agg #[.int .i64 1, .int .i64 1, .int .i64 5, .string ⟨#[97]⟩, .int .i64 1, .int .i64 (-1), .int .i64 (-1), .int .i64 (-1), .int .i64 (-1), .int .i64 (-1), .int .i64 (-1), .int .i64 (-1), .int .i64 (-1), .int .i64 (-1), .int .i64 (-1)], .bool true]) ∧ Upd [] w w' :=
  ledGet_c w v (encRec recA) 1 1 5 ⟨#[97]⟩ 1 (-1) (-1) (-1) (-1) (-1) (-1) (-1) (-1) (-1) (-1) true h.out (by have := encRec_len recA_ok; omega) (get_enc recA_ok)
theorem rsList {w0 V w : World} {gd gl gA gB : Nat} {F G : List Nat} {s : DS} (h : RS w0 w gd gl F G [recA, recB] s gA gB) (hu : Upd [] V w) :
    Calls Tryz.prog 26 #[.pointer (some ⟨gl, 0, none⟩), .int .i64 1] w fun e w' => ∃ a k, e = .returned (.slice a 1 k) ∧ Hid (RdN 15 recCells w' (.slice a 1 k) [recB]) ∧ Hid (Upd [] w w') ∧ Upd [] V w' := by
  obtain ⟨gm, lv, hl, -⟩ := h.ld.lc
  refine (ledList_any hl 1 1 (by simp) (.inr (.inl rfl)) (by simp)).mono ?_
  rintro e w' ⟨a, q, k, rfl, k1, k2⟩
  have hr := k1.rd recCells_len
  obtain ⟨a', k', hs, -⟩ := own_slice k1
  have hq : q = 1 := by
    have := congrArg (fun v => match v with | .slice _ q _ => q | _ => 0) hs
    simpa using this
  subst hq
  exact ⟨a, k, rfl, hr, k2, Upd.seq hu k2⟩
theorem rsHas {w0 V w : World} {gd gl gA gB : Nat} {F G : List Nat} {s : DS} (h : RS w0 w gd gl F G [recA, recB] s gA gB) (hu : Upd [] V w) :
    Calls Tryz.prog 33 #[.pointer (some ⟨gl, 0, none⟩), .agg #[.int .i64 1, .int .i64 1, .int .i64 5, .string ⟨#[97]⟩]] w fun e w' => e = .returned (.bool true) ∧ Upd [] V w' := by
  obtain ⟨gm, lv, hl, -⟩ := h.ld.lc
  have h1 := ledHas_c hl 1 1 5 ⟨#[97]⟩ (rec_key64 recA_ok)
  rw [show hasK [recA, recB] ⟨1, 1, 5, ⟨#[97]⟩⟩ = true by decide] at h1
  exact h1.mono fun e w' ⟨k1, k2⟩ => ⟨k1, Upd.seq hu k2⟩
theorem rightZ {V w : World} (hu : Upd [] V w) : Calls Tryz.prog 12 #[.agg #[.int .i64 0, .int .i64 0, .int .i64 0, .string ⟨#[]⟩, .int .i64 0, .int .i64 0, .int .i64 0, .int .i64 0, .int .i64 0, .int .i64 0, .int .i64 0, .int .i64 0, .int .i64 0, .int .i64 0, .int .i64 0]] w fun e w' => e = .returned (.bool false) ∧ Upd [] V w' := by
  have h1 := ledRight_any w (mkRec 0 0 0 ⟨#[]⟩ 0 0 0 0 0 0 0 0 0 0 0)
  rw [recZ_no] at h1
  exact h1.mono fun e w' ⟨k1, k2⟩ => ⟨k1, Upd.seq hu k2⟩
theorem eqA : ∀ W, (Op.equalIn 10000 27 (.agg #[.int .i64 1, .int .i64 1, .int .i64 5, .string ⟨#[97]⟩, .int .i64 1, .int .i64 (-1), .int .i64 (-1), .int .i64 (-1), .int .i64 (-1), .int .i64 (-1), .int .i64 (-1), .int .i64 (-1), .int .i64 (-1), .int .i64 (-1), .int .i64 (-1)]) (.agg #[.int .i64 1, .int .i64 1, .int .i64 5, .string ⟨#[97]⟩, .int .i64 1, .int .i64 (-1), .int .i64 (-1), .int .i64 (-1), .int .i64 (-1), .int .i64 (-1), .int .i64 (-1), .int .i64 (-1), .int .i64 (-1), .int .i64 (-1), .int .i64 (-1)])).run Tryz.prog W = .ok true W := fun W => by
  have h1 := recEq_run W 1 1 5 ⟨#[97]⟩ 1 (-1) (-1) (-1) (-1) (-1) (-1) (-1) (-1) (-1) (-1) 1 1 5 ⟨#[97]⟩ 1 (-1) (-1) (-1) (-1) (-1) (-1) (-1) (-1) (-1) (-1)
  rw [decide_eq_true rfl] at h1
  exact h1
/-- A fresh opening of a disk that has all records. -/
theorem lopen_all (all : List Rec) (hok : ∀ r ∈ all, recOk r = true) (hu : Uniq all) {B lo : Nat} {s : DS} (h : LInv (Fr all) lo B s) (hn : OneF s.now (Fr all)) : (lOpen s).1 = all ∧ (lOpen s).2 = s := by
  obtain ⟨M, k1, k2, k3, k4⟩ := lScan_take all hok hu (Fr all).length (Nat.le_refl _) all.length (Nat.le_refl _) (by rw [Ee_all all _ (Nat.le_refl _)]; exact Nat.le_refl _)
  obtain rfl : M = all.length := by omega
  rw [List.take_length] at k4
  unfold lOpen
  rw [hn.get, k4, List.take_length, Ee_all all _ (Nat.le_refl _)]
  dsimp only
  rw [if_neg (Nat.lt_irrefl _)]
  exact ⟨rfl, rfl⟩
noncomputable def o14 : Array Oper := rgOps 14 Tryz.f15.body
def l9 : Array Bool := (tf 8 37).setIfInBounds 9 true
def l9b : Array Bool := l9.setIfInBounds 10 true
theorem o14_ns : Region.noSelect o14 = true := by kernel_rfl
theorem o14_a : natOk .any o14 0 8 = true := by kernel_rfl
theorem o14_b : Region.ready .any o14 (tf 8 37) = [8, 9] := by kernel_rfl
theorem o14_c : natOk .any o14 9 3 = true := by kernel_rfl
theorem o14_c10 : natOk .any o14 10 2 = true := by kernel_rfl
theorem o14_c11 : natOk .any o14 11 1 = true := by kernel_rfl
theorem o14_d : Region.ready .any o14 (tf 25 37) = [25, 26] := by kernel_rfl
theorem o14_d1 : Region.ready .any o14 ((tf 25 37).setIfInBounds 25 true) = [26] := by kernel_rfl
theorem o14_d2 : Region.ready .any o14 ((tf 25 37).setIfInBounds 26 true) = [25] := by kernel_rfl
theorem o14_g : natOk .any o14 27 10 = true := by kernel_rfl
theorem o14_h : Region.ready .any o14 l9 = [8, 10] := by kernel_rfl
theorem o14_i : Region.ready .any o14 l9b = [8] := by kernel_rfl
theorem o14_t : natOk .any o14 12 13 = true := by kernel_rfl
theorem o14_z : Region.ready .any o14 (tf 37 37) = [] := by kernel_rfl
structure R14 (w12 : World) (gA gB gk : Nat) : Prop where
  a : Blk w12 gA 27 [.int .i64 1, .int .i64 1, .int .i64 5, .string ⟨#[97]⟩, .int .i64 1, .int .i64 (-1), .int .i64 (-1), .int .i64 (-1), .int .i64 (-1), .int .i64 (-1), .int .i64 (-1), .int .i64 (-1), .int .i64 (-1), .int .i64 (-1), .int .i64 (-1)]
  b : Blk w12 gB 27 [.int .i64 1, .int .i64 1, .int .i64 5, .string ⟨#[]⟩, .int .i64 2, .int .i64 0, .int .i64 0, .int .i64 0, .int .i64 0, .int .i64 0, .int .i64 0, .int .i64 0, .int .i64 0, .int .i64 0, .int .i64 0]
  ex : ∃ w0 gd F G s, RS w0 w12 gd gk F G [recA, recB] s gA gB
theorem reg14_pre {w w12 : World} {gd gk gA gB : Nat} {F G : List Nat} {s : DS} (h : RS w w12 gd gk F G [recA, recB] s gA gB) : R14 w12 gA gB gk := ⟨h.a, h.b, _, _, _, _, _, h⟩
noncomputable def rg14 : Code := ((Tryz.f15.body.bind (findReg 14)).getD .skip)
set_option maxRecDepth 100000 in
set_option maxHeartbeats 8000000 in
theorem tail12 {w12 W3 : World} {gA gB gC gk : Nat} {x0 x1 x2 x3 x6 x7 x8 x9 x10 x11 x16 x18 x19 x20 x21 x22 x23 x24 x25 x26 x27 x28 x29 x30 x31 x32 x33 x34 x35 x36 x37 x38 x39 x40 x41 x42 x43 x44 x45 x46 x47 x48 x49 x50 x51 x52 x53 x54 x55 x56 x57 x58 x59 x60 x61 x62 x63 x64 x65 x66 x67 x68 x69 x70 x71 x72 x73 x74 x75 x76 x77 x78 x79 x80 x81 x82 x83 x84 x85 x86 x87 x88 x89 x90 x91 x92 x93 x94 x95 x96 x98 x99 x100 x101 x103 x104 x105 x106 x107 x108 x109 x110 x111 x112 x113 x114 x115 x116 x117 x118 x119 x120 x121 x122 x123 x124 x125 x126 : Value} {Q : Exit → Act → World → Prop} (hR : R14 w12 gA gB gk) (hC : Blk w12 gC 27 [.int .i64 1, .int .i64 1, .int .i64 5, .string ⟨#[97]⟩, .int .i64 1, .int .i64 (-1), .int .i64 (-1), .int .i64 (-1), .int .i64 (-1), .int .i64 (-1), .int .i64 (-1), .int .i64 (-1), .int .i64 (-1), .int .i64 (-1), .int .i64 (-1)]) (ru3 : Upd [] w12 W3)
    (hQ : ∀ (y91 y92 y93 y94 y95 y96 y97 y98 y99 y100 y101 y102 y103 y104 y105 y106 y107 y108 y109 y110 y111 y112 y113 y114 y115 y116 y117 y118 y119 y120 y121 y122 y123 y124 y125 y126 : Value) (w' : World), Upd [] w12 w' → Q .normal ⟨#[.bool true, x1, x2, x3, .pointer (some ⟨gA, 0, none⟩), .pointer (some ⟨gB, 0, none⟩), x6, x7, x8, x9, x10, x11, .pointer (some ⟨gk, 0, none⟩), .int .i64 0, .pointer (some ⟨gC, 0, none⟩), .bool true, x16, .int .i64 1, x18, x19, x20, x21, x22, x23, x24, x25, x26, x27, x28, x29, x30, x31, x32, x33, x34, x35, x36, x37, x38, x39, x40, x41, x42, x43, x44, x45, x46, x47, x48, x49, x50, x51, x52, x53, x54, x55, x56, x57, x58, x59, x60, x61, x62, x63, x64, x65, x66, x67, x68, x69, x70, x71, x72, x73, x74, x75, x76, x77, x78, x79, x80, x81, x82, x83, x84, x85, x86, x87, x88, x89, x90, y91, y92, y93, y94, y95, y96, y97, y98, y99, y100, y101, y102, y103, y104, y105, y106, y107, y108, y109, y110, y111, y112, y113, y114, y115, y116, y117, y118, y119, y120, y121, y122, y123, y124, y125, y126], []⟩ w') : wpAny Tryz.prog .any o14 (NoPanic Q) 25 (tf 12 37) ⟨#[x0, x1, x2, x3, .pointer (some ⟨gA, 0, none⟩), .pointer (some ⟨gB, 0, none⟩), x6, x7, x8, x9, x10, x11, .pointer (some ⟨gk, 0, none⟩), .int .i64 0, .pointer (some ⟨gC, 0, none⟩), .bool true, x16, .int .i64 1, x18, x19, x20, x21, x22, x23, x24, x25, x26, x27, x28, x29, x30, x31, x32, x33, x34, x35, x36, x37, x38, x39, x40, x41, x42, x43, x44, x45, x46, x47, x48, x49, x50, x51, x52, x53, x54, x55, x56, x57, x58, x59, x60, x61, x62, x63, x64, x65, x66, x67, x68, x69, x70, x71, x72, x73, x74, x75, x76, x77, x78, x79, x80, x81, x82, x83, x84, x85, x86, x87, x88, x89, x90, x91, x92, x93, x94, x95, x96, .bool true, x98, x99, x100, x101, .bool true, x103, x104, x105, x106, x107, x108, x109, x110, x111, x112, x113, x114, x115, x116, x117, x118, x119, x120, x121, x122, x123, x124, x125, x126], []⟩ W3 := by
  conv => arg 3; whnf
  change wpAny _ _ (List.toArray _) _ _ _ _ _
  obtain ⟨ra, rb, w0, gd, F, G, s, hr⟩ := hR
  have R12 := Lib.hid hr
  have HBC := Lib.hid hC
  clear hr hC ra rb
  have HC3 : Hid (∀ W, Upd [] w12 W → Calls Tryz.prog 33 #[.pointer (some ⟨gk, 0, none⟩), .agg #[.int .i64 1, .int .i64 1, .int .i64 5, .string ⟨#[97]⟩]] W fun e w' => e = .returned (.bool true) ∧ Upd [] w12 w') := fun W hu => rsHas (R12.out.upd0 hu) hu
  have HC4 : Hid (∀ W, Upd [] w12 W → Calls Tryz.prog 12 #[.agg #[.int .i64 0, .int .i64 0, .int .i64 0, .string ⟨#[]⟩, .int .i64 0, .int .i64 0, .int .i64 0, .int .i64 0, .int .i64 0, .int .i64 0, .int .i64 0, .int .i64 0, .int .i64 0, .int .i64 0, .int .i64 0]] W fun e w' => e = .returned (.bool false) ∧ Upd [] w12 w') := fun W hu => rightZ hu
  have heq := eqA
  have ba := Lib.hid R12.out.a
  have bb := Lib.hid R12.out.b
  have ca0 : ∀ W, Upd [] w12 W → W.cell? ⟨gA, 0, none⟩ = some (.int .i64 1) := fun W hu => hu.cell (ba.out.cell 0) (by simp)
  have ca1 : ∀ W, Upd [] w12 W → W.cell? ⟨gA, 1, none⟩ = some (.int .i64 1) := fun W hu => hu.cell (ba.out.cell 1) (by simp)
  have ca2 : ∀ W, Upd [] w12 W → W.cell? ⟨gA, 2, none⟩ = some (.int .i64 5) := fun W hu => hu.cell (ba.out.cell 2) (by simp)
  have ca3 : ∀ W, Upd [] w12 W → W.cell? ⟨gA, 3, none⟩ = some (.string ⟨#[97]⟩) := fun W hu => hu.cell (ba.out.cell 3) (by simp)
  have ca4 : ∀ W, Upd [] w12 W → W.cell? ⟨gA, 4, none⟩ = some (.int .i64 1) := fun W hu => hu.cell (ba.out.cell 4) (by simp)
  have ca5 : ∀ W, Upd [] w12 W → W.cell? ⟨gA, 5, none⟩ = some (.int .i64 (-1)) := fun W hu => hu.cell (ba.out.cell 5) (by simp)
  have ca6 : ∀ W, Upd [] w12 W → W.cell? ⟨gA, 6, none⟩ = some (.int .i64 (-1)) := fun W hu => hu.cell (ba.out.cell 6) (by simp)
  have ca7 : ∀ W, Upd [] w12 W → W.cell? ⟨gA, 7, none⟩ = some (.int .i64 (-1)) := fun W hu => hu.cell (ba.out.cell 7) (by simp)
  have ca8 : ∀ W, Upd [] w12 W → W.cell? ⟨gA, 8, none⟩ = some (.int .i64 (-1)) := fun W hu => hu.cell (ba.out.cell 8) (by simp)
  have ca9 : ∀ W, Upd [] w12 W → W.cell? ⟨gA, 9, none⟩ = some (.int .i64 (-1)) := fun W hu => hu.cell (ba.out.cell 9) (by simp)
  have ca10 : ∀ W, Upd [] w12 W → W.cell? ⟨gA, 10, none⟩ = some (.int .i64 (-1)) := fun W hu => hu.cell (ba.out.cell 10) (by simp)
  have ca11 : ∀ W, Upd [] w12 W → W.cell? ⟨gA, 11, none⟩ = some (.int .i64 (-1)) := fun W hu => hu.cell (ba.out.cell 11) (by simp)
  have ca12 : ∀ W, Upd [] w12 W → W.cell? ⟨gA, 12, none⟩ = some (.int .i64 (-1)) := fun W hu => hu.cell (ba.out.cell 12) (by simp)
  have ca13 : ∀ W, Upd [] w12 W → W.cell? ⟨gA, 13, none⟩ = some (.int .i64 (-1)) := fun W hu => hu.cell (ba.out.cell 13) (by simp)
  have ca14 : ∀ W, Upd [] w12 W → W.cell? ⟨gA, 14, none⟩ = some (.int .i64 (-1)) := fun W hu => hu.cell (ba.out.cell 14) (by simp)
  have cb0 : ∀ W, Upd [] w12 W → W.cell? ⟨gB, 0, none⟩ = some (.int .i64 1) := fun W hu => hu.cell (bb.out.cell 0) (by simp)
  have cb1 : ∀ W, Upd [] w12 W → W.cell? ⟨gB, 1, none⟩ = some (.int .i64 1) := fun W hu => hu.cell (bb.out.cell 1) (by simp)
  have cb2 : ∀ W, Upd [] w12 W → W.cell? ⟨gB, 2, none⟩ = some (.int .i64 5) := fun W hu => hu.cell (bb.out.cell 2) (by simp)
  have cb3 : ∀ W, Upd [] w12 W → W.cell? ⟨gB, 3, none⟩ = some (.string ⟨#[]⟩) := fun W hu => hu.cell (bb.out.cell 3) (by simp)
  have cb4 : ∀ W, Upd [] w12 W → W.cell? ⟨gB, 4, none⟩ = some (.int .i64 2) := fun W hu => hu.cell (bb.out.cell 4) (by simp)
  have cb5 : ∀ W, Upd [] w12 W → W.cell? ⟨gB, 5, none⟩ = some (.int .i64 0) := fun W hu => hu.cell (bb.out.cell 5) (by simp)
  have cb6 : ∀ W, Upd [] w12 W → W.cell? ⟨gB, 6, none⟩ = some (.int .i64 0) := fun W hu => hu.cell (bb.out.cell 6) (by simp)
  have cb7 : ∀ W, Upd [] w12 W → W.cell? ⟨gB, 7, none⟩ = some (.int .i64 0) := fun W hu => hu.cell (bb.out.cell 7) (by simp)
  have cb8 : ∀ W, Upd [] w12 W → W.cell? ⟨gB, 8, none⟩ = some (.int .i64 0) := fun W hu => hu.cell (bb.out.cell 8) (by simp)
  have cb9 : ∀ W, Upd [] w12 W → W.cell? ⟨gB, 9, none⟩ = some (.int .i64 0) := fun W hu => hu.cell (bb.out.cell 9) (by simp)
  have cb10 : ∀ W, Upd [] w12 W → W.cell? ⟨gB, 10, none⟩ = some (.int .i64 0) := fun W hu => hu.cell (bb.out.cell 10) (by simp)
  have cb11 : ∀ W, Upd [] w12 W → W.cell? ⟨gB, 11, none⟩ = some (.int .i64 0) := fun W hu => hu.cell (bb.out.cell 11) (by simp)
  have cb12 : ∀ W, Upd [] w12 W → W.cell? ⟨gB, 12, none⟩ = some (.int .i64 0) := fun W hu => hu.cell (bb.out.cell 12) (by simp)
  have cb13 : ∀ W, Upd [] w12 W → W.cell? ⟨gB, 13, none⟩ = some (.int .i64 0) := fun W hu => hu.cell (bb.out.cell 13) (by simp)
  have cb14 : ∀ W, Upd [] w12 W → W.cell? ⟨gB, 14, none⟩ = some (.int .i64 0) := fun W hu => hu.cell (bb.out.cell 14) (by simp)
  have cc0 : ∀ W, Upd [] w12 W → W.cell? ⟨gC, 0, none⟩ = some (.int .i64 1) := fun W hu => hu.cell (HBC.out.cell 0) (by simp)
  have cc1 : ∀ W, Upd [] w12 W → W.cell? ⟨gC, 1, none⟩ = some (.int .i64 1) := fun W hu => hu.cell (HBC.out.cell 1) (by simp)
  have cc2 : ∀ W, Upd [] w12 W → W.cell? ⟨gC, 2, none⟩ = some (.int .i64 5) := fun W hu => hu.cell (HBC.out.cell 2) (by simp)
  have cc3 : ∀ W, Upd [] w12 W → W.cell? ⟨gC, 3, none⟩ = some (.string ⟨#[97]⟩) := fun W hu => hu.cell (HBC.out.cell 3) (by simp)
  have cc4 : ∀ W, Upd [] w12 W → W.cell? ⟨gC, 4, none⟩ = some (.int .i64 1) := fun W hu => hu.cell (HBC.out.cell 4) (by simp)
  have cc5 : ∀ W, Upd [] w12 W → W.cell? ⟨gC, 5, none⟩ = some (.int .i64 (-1)) := fun W hu => hu.cell (HBC.out.cell 5) (by simp)
  have cc6 : ∀ W, Upd [] w12 W → W.cell? ⟨gC, 6, none⟩ = some (.int .i64 (-1)) := fun W hu => hu.cell (HBC.out.cell 6) (by simp)
  have cc7 : ∀ W, Upd [] w12 W → W.cell? ⟨gC, 7, none⟩ = some (.int .i64 (-1)) := fun W hu => hu.cell (HBC.out.cell 7) (by simp)
  have cc8 : ∀ W, Upd [] w12 W → W.cell? ⟨gC, 8, none⟩ = some (.int .i64 (-1)) := fun W hu => hu.cell (HBC.out.cell 8) (by simp)
  have cc9 : ∀ W, Upd [] w12 W → W.cell? ⟨gC, 9, none⟩ = some (.int .i64 (-1)) := fun W hu => hu.cell (HBC.out.cell 9) (by simp)
  have cc10 : ∀ W, Upd [] w12 W → W.cell? ⟨gC, 10, none⟩ = some (.int .i64 (-1)) := fun W hu => hu.cell (HBC.out.cell 10) (by simp)
  have cc11 : ∀ W, Upd [] w12 W → W.cell? ⟨gC, 11, none⟩ = some (.int .i64 (-1)) := fun W hu => hu.cell (HBC.out.cell 11) (by simp)
  have cc12 : ∀ W, Upd [] w12 W → W.cell? ⟨gC, 12, none⟩ = some (.int .i64 (-1)) := fun W hu => hu.cell (HBC.out.cell 12) (by simp)
  have cc13 : ∀ W, Upd [] w12 W → W.cell? ⟨gC, 13, none⟩ = some (.int .i64 (-1)) := fun W hu => hu.cell (HBC.out.cell 13) (by simp)
  have cc14 : ∀ W, Upd [] w12 W → W.cell? ⟨gC, 14, none⟩ = some (.int .i64 (-1)) := fun W hu => hu.cell (HBC.out.cell 14) (by simp)
  clear R12 HBC ba bb
  refine mid_seq (ops := o14) (by kernel_rfl) (by kernel_rfl) o14_ns (fun _ _ _ _ _ h => h) 12 13 12 25 o14_t rfl rfl (by decide) ?_
  simp only [List.drop_succ_cons, List.drop_zero, List.take_succ_cons, List.take_zero]
  go_wp2_with fail
  (with_reducible refine (HC3.out _ ru3).mono ?_)
  rintro _ W4 ⟨rfl, ru4⟩
  go_wp2_with fail
  (with_reducible refine (HC4.out _ ru4).mono ?_)
  rintro _ W5 ⟨rfl, ru5⟩
  go_wp2_with fail
  refine qk_normal ?_
  show wpAny _ _ _ _ _ _ _ _
  refine pair_seq (v := ?va1) (u := ?ua1) (ops := o14) (by kernel_rfl) (tf 27 37) o14_ns o14_d o14_d1 o14_d2 rfl rfl (by kernel_rfl) (by kernel_rfl) (by kernel_rfl) (by kernel_rfl) (by kernel_rfl) ?hvi1 ?hvj1 ?_
  case hvi1 => go_simp; with_reducible rfl
  case hvj1 => go_simp; with_reducible rfl
  simp only [Act.put, List.setIfInBounds_toArray, List.set_cons_zero, List.set_cons_succ]
  refine end_seq (ops := o14) (by kernel_rfl) (by kernel_rfl) o14_ns (fun _ _ _ _ _ h => h) 27 o14_g rfl o14_z ?_
  simp only [List.drop_succ_cons, List.drop_zero]
  go_wp2_with fail
  refine NoPanic.normal ?_
  exact hQ _ _ _ _ _ _ _ _ _ _ _ _ _ _ _ _ _ _ _ _ _ _ _ _ _ _ _ _ _ _ _ _ _ _ _ _ _ ru5
set_option maxRecDepth 100000 in
set_option maxHeartbeats 8000000 in
theorem reg14 {w12 : World} {gA gB gC gk : Nat} {x0 x1 x2 x3 x6 x7 x8 x9 x10 x11 x16 x18 x19 x20 x21 x22 x23 x24 x25 x26 x27 x28 x29 x30 x31 x32 x33 x34 x35 x36 x37 x38 x39 x40 x41 x42 x43 x44 x45 x46 x47 x48 x49 x50 x51 x52 x53 x54 x55 x56 x57 x58 x59 x60 x61 x62 x63 x64 x65 x66 x67 x68 x69 x70 x71 x72 x73 x74 x75 x76 x77 x78 x79 x80 x81 x82 x83 x84 x85 x86 x87 x88 x89 x90 x91 x92 x93 x94 x95 x96 x97 x98 x99 x100 x101 x102 x103 x104 x105 x106 x107 x108 x109 x110 x111 x112 x113 x114 x115 x116 x117 x118 x119 x120 x121 x122 x123 x124 x125 x126 : Value} {Q : Exit → Act → World → Prop} (hR : R14 w12 gA gB gk) (hC : Blk w12 gC 27 [.int .i64 1, .int .i64 1, .int .i64 5, .string ⟨#[97]⟩, .int .i64 1, .int .i64 (-1), .int .i64 (-1), .int .i64 (-1), .int .i64 (-1), .int .i64 (-1), .int .i64 (-1), .int .i64 (-1), .int .i64 (-1), .int .i64 (-1), .int .i64 (-1)])
    (hQ : ∀ (y91 y92 y93 y94 y95 y96 y97 y98 y99 y100 y101 y102 y103 y104 y105 y106 y107 y108 y109 y110 y111 y112 y113 y114 y115 y116 y117 y118 y119 y120 y121 y122 y123 y124 y125 y126 : Value) (w' : World), Upd [] w12 w' → Q .normal ⟨#[.bool true, x1, x2, x3, .pointer (some ⟨gA, 0, none⟩), .pointer (some ⟨gB, 0, none⟩), x6, x7, x8, x9, x10, x11, .pointer (some ⟨gk, 0, none⟩), .int .i64 0, .pointer (some ⟨gC, 0, none⟩), .bool true, x16, .int .i64 1, x18, x19, x20, x21, x22, x23, x24, x25, x26, x27, x28, x29, x30, x31, x32, x33, x34, x35, x36, x37, x38, x39, x40, x41, x42, x43, x44, x45, x46, x47, x48, x49, x50, x51, x52, x53, x54, x55, x56, x57, x58, x59, x60, x61, x62, x63, x64, x65, x66, x67, x68, x69, x70, x71, x72, x73, x74, x75, x76, x77, x78, x79, x80, x81, x82, x83, x84, x85, x86, x87, x88, x89, x90, y91, y92, y93, y94, y95, y96, y97, y98, y99, y100, y101, y102, y103, y104, y105, y106, y107, y108, y109, y110, y111, y112, y113, y114, y115, y116, y117, y118, y119, y120, y121, y122, y123, y124, y125, y126], []⟩ w') : Code.wp Tryz.prog rg14 Q ⟨#[x0, x1, x2, x3, .pointer (some ⟨gA, 0, none⟩), .pointer (some ⟨gB, 0, none⟩), x6, x7, x8, x9, x10, x11, .pointer (some ⟨gk, 0, none⟩), .int .i64 0, .pointer (some ⟨gC, 0, none⟩), .bool true, x16, .int .i64 1, x18, x19, x20, x21, x22, x23, x24, x25, x26, x27, x28, x29, x30, x31, x32, x33, x34, x35, x36, x37, x38, x39, x40, x41, x42, x43, x44, x45, x46, x47, x48, x49, x50, x51, x52, x53, x54, x55, x56, x57, x58, x59, x60, x61, x62, x63, x64, x65, x66, x67, x68, x69, x70, x71, x72, x73, x74, x75, x76, x77, x78, x79, x80, x81, x82, x83, x84, x85, x86, x87, x88, x89, x90, x91, x92, x93, x94, x95, x96, x97, x98, x99, x100, x101, x102, x103, x104, x105, x106, x107, x108, x109, x110, x111, x112, x113, x114, x115, x116, x117, x118, x119, x120, x121, x122, x123, x124, x125, x126], []⟩ w12 := by
  conv => arg 2; whnf
  have R14 := Lib.hid hR
  obtain ⟨ra, rb, w0, gd, F, G, s, hr⟩ := hR
  have R12 := Lib.hid hr
  have HBC := Lib.hid hC
  clear hr hC ra rb
  have HC1 : Hid (∀ W, Upd [] w12 W → Calls Tryz.prog 26 #[.pointer (some ⟨gk, 0, none⟩), .int .i64 1] W fun e w' => ∃ a k, e = .returned (.slice a 1 k) ∧ Hid (RdN 15 recCells w' (.slice a 1 k) [recB]) ∧ Hid (Upd [] W w') ∧ Upd [] w12 w') := fun W hu => rsList (R12.out.upd0 hu) hu
  have HC2 : Hid (∀ W a k g, RdN 15 recCells W (.slice a 1 k) [recB] → RdN 15 recCells W (.slice (some ⟨g, 0, none⟩) 1 1) [recB] → Upd [] w12 W → Calls Tryz.prog 25 #[.slice a 1 k, .slice (some ⟨g, 0, none⟩) 1 1] W fun e w' => e = .returned (.bool true) ∧ Upd [] w12 w') := fun W a k g h1 h2 hu => (sameRec_yes _ _ _ W h1 h2).mono fun e w' ⟨k1, k2⟩ => ⟨k1, Upd.seq hu k2⟩
  have HRL2 : Hid (∀ W g V, W.heap.size = g → Upd [] (World.drew (World.alloc W (.cells #[.int .i64 1, .int .i64 1, .int .i64 5, .string ⟨#[]⟩, .int .i64 2, .int .i64 0, .int .i64 0, .int .i64 0, .int .i64 0, .int .i64 0, .int .i64 0, .int .i64 0, .int .i64 0, .int .i64 0, .int .i64 0] 27))) V → RdN 15 recCells V (.slice (some ⟨g, 0, none⟩) 1 1) [recB]) := fun W g V hg hu => hg ▸ (rd_one recB rfl rfl).upd0 recCells_len (Upd.seq (Upd.refl [] _).drew hu)
  have HRL : Hid (∀ W, RdN 15 recCells (World.alloc W (.cells #[.int .i64 1, .int .i64 1, .int .i64 5, .string ⟨#[]⟩, .int .i64 2, .int .i64 0, .int .i64 0, .int .i64 0, .int .i64 0, .int .i64 0, .int .i64 0, .int .i64 0, .int .i64 0, .int .i64 0, .int .i64 0] 27)) (.slice (some ⟨W.heap.size, 0, none⟩) 1 1) [recB]) := fun W => rd_one recB rfl rfl
  have ba := Lib.hid R12.out.a
  have bb := Lib.hid R12.out.b
  have ca0 : ∀ W, Upd [] w12 W → W.cell? ⟨gA, 0, none⟩ = some (.int .i64 1) := fun W hu => hu.cell (ba.out.cell 0) (by simp)
  have ca1 : ∀ W, Upd [] w12 W → W.cell? ⟨gA, 1, none⟩ = some (.int .i64 1) := fun W hu => hu.cell (ba.out.cell 1) (by simp)
  have ca2 : ∀ W, Upd [] w12 W → W.cell? ⟨gA, 2, none⟩ = some (.int .i64 5) := fun W hu => hu.cell (ba.out.cell 2) (by simp)
  have ca3 : ∀ W, Upd [] w12 W → W.cell? ⟨gA, 3, none⟩ = some (.string ⟨#[97]⟩) := fun W hu => hu.cell (ba.out.cell 3) (by simp)
  have ca4 : ∀ W, Upd [] w12 W → W.cell? ⟨gA, 4, none⟩ = some (.int .i64 1) := fun W hu => hu.cell (ba.out.cell 4) (by simp)
  have ca5 : ∀ W, Upd [] w12 W → W.cell? ⟨gA, 5, none⟩ = some (.int .i64 (-1)) := fun W hu => hu.cell (ba.out.cell 5) (by simp)
  have ca6 : ∀ W, Upd [] w12 W → W.cell? ⟨gA, 6, none⟩ = some (.int .i64 (-1)) := fun W hu => hu.cell (ba.out.cell 6) (by simp)
  have ca7 : ∀ W, Upd [] w12 W → W.cell? ⟨gA, 7, none⟩ = some (.int .i64 (-1)) := fun W hu => hu.cell (ba.out.cell 7) (by simp)
  have ca8 : ∀ W, Upd [] w12 W → W.cell? ⟨gA, 8, none⟩ = some (.int .i64 (-1)) := fun W hu => hu.cell (ba.out.cell 8) (by simp)
  have ca9 : ∀ W, Upd [] w12 W → W.cell? ⟨gA, 9, none⟩ = some (.int .i64 (-1)) := fun W hu => hu.cell (ba.out.cell 9) (by simp)
  have ca10 : ∀ W, Upd [] w12 W → W.cell? ⟨gA, 10, none⟩ = some (.int .i64 (-1)) := fun W hu => hu.cell (ba.out.cell 10) (by simp)
  have ca11 : ∀ W, Upd [] w12 W → W.cell? ⟨gA, 11, none⟩ = some (.int .i64 (-1)) := fun W hu => hu.cell (ba.out.cell 11) (by simp)
  have ca12 : ∀ W, Upd [] w12 W → W.cell? ⟨gA, 12, none⟩ = some (.int .i64 (-1)) := fun W hu => hu.cell (ba.out.cell 12) (by simp)
  have ca13 : ∀ W, Upd [] w12 W → W.cell? ⟨gA, 13, none⟩ = some (.int .i64 (-1)) := fun W hu => hu.cell (ba.out.cell 13) (by simp)
  have ca14 : ∀ W, Upd [] w12 W → W.cell? ⟨gA, 14, none⟩ = some (.int .i64 (-1)) := fun W hu => hu.cell (ba.out.cell 14) (by simp)
  have cb0 : ∀ W, Upd [] w12 W → W.cell? ⟨gB, 0, none⟩ = some (.int .i64 1) := fun W hu => hu.cell (bb.out.cell 0) (by simp)
  have cb1 : ∀ W, Upd [] w12 W → W.cell? ⟨gB, 1, none⟩ = some (.int .i64 1) := fun W hu => hu.cell (bb.out.cell 1) (by simp)
  have cb2 : ∀ W, Upd [] w12 W → W.cell? ⟨gB, 2, none⟩ = some (.int .i64 5) := fun W hu => hu.cell (bb.out.cell 2) (by simp)
  have cb3 : ∀ W, Upd [] w12 W → W.cell? ⟨gB, 3, none⟩ = some (.string ⟨#[]⟩) := fun W hu => hu.cell (bb.out.cell 3) (by simp)
  have cb4 : ∀ W, Upd [] w12 W → W.cell? ⟨gB, 4, none⟩ = some (.int .i64 2) := fun W hu => hu.cell (bb.out.cell 4) (by simp)
  have cb5 : ∀ W, Upd [] w12 W → W.cell? ⟨gB, 5, none⟩ = some (.int .i64 0) := fun W hu => hu.cell (bb.out.cell 5) (by simp)
  have cb6 : ∀ W, Upd [] w12 W → W.cell? ⟨gB, 6, none⟩ = some (.int .i64 0) := fun W hu => hu.cell (bb.out.cell 6) (by simp)
  have cb7 : ∀ W, Upd [] w12 W → W.cell? ⟨gB, 7, none⟩ = some (.int .i64 0) := fun W hu => hu.cell (bb.out.cell 7) (by simp)
  have cb8 : ∀ W, Upd [] w12 W → W.cell? ⟨gB, 8, none⟩ = some (.int .i64 0) := fun W hu => hu.cell (bb.out.cell 8) (by simp)
  have cb9 : ∀ W, Upd [] w12 W → W.cell? ⟨gB, 9, none⟩ = some (.int .i64 0) := fun W hu => hu.cell (bb.out.cell 9) (by simp)
  have cb10 : ∀ W, Upd [] w12 W → W.cell? ⟨gB, 10, none⟩ = some (.int .i64 0) := fun W hu => hu.cell (bb.out.cell 10) (by simp)
  have cb11 : ∀ W, Upd [] w12 W → W.cell? ⟨gB, 11, none⟩ = some (.int .i64 0) := fun W hu => hu.cell (bb.out.cell 11) (by simp)
  have cb12 : ∀ W, Upd [] w12 W → W.cell? ⟨gB, 12, none⟩ = some (.int .i64 0) := fun W hu => hu.cell (bb.out.cell 12) (by simp)
  have cb13 : ∀ W, Upd [] w12 W → W.cell? ⟨gB, 13, none⟩ = some (.int .i64 0) := fun W hu => hu.cell (bb.out.cell 13) (by simp)
  have cb14 : ∀ W, Upd [] w12 W → W.cell? ⟨gB, 14, none⟩ = some (.int .i64 0) := fun W hu => hu.cell (bb.out.cell 14) (by simp)
  have cc0 : ∀ W, Upd [] w12 W → W.cell? ⟨gC, 0, none⟩ = some (.int .i64 1) := fun W hu => hu.cell (HBC.out.cell 0) (by simp)
  have cc1 : ∀ W, Upd [] w12 W → W.cell? ⟨gC, 1, none⟩ = some (.int .i64 1) := fun W hu => hu.cell (HBC.out.cell 1) (by simp)
  have cc2 : ∀ W, Upd [] w12 W → W.cell? ⟨gC, 2, none⟩ = some (.int .i64 5) := fun W hu => hu.cell (HBC.out.cell 2) (by simp)
  have cc3 : ∀ W, Upd [] w12 W → W.cell? ⟨gC, 3, none⟩ = some (.string ⟨#[97]⟩) := fun W hu => hu.cell (HBC.out.cell 3) (by simp)
  have cc4 : ∀ W, Upd [] w12 W → W.cell? ⟨gC, 4, none⟩ = some (.int .i64 1) := fun W hu => hu.cell (HBC.out.cell 4) (by simp)
  have cc5 : ∀ W, Upd [] w12 W → W.cell? ⟨gC, 5, none⟩ = some (.int .i64 (-1)) := fun W hu => hu.cell (HBC.out.cell 5) (by simp)
  have cc6 : ∀ W, Upd [] w12 W → W.cell? ⟨gC, 6, none⟩ = some (.int .i64 (-1)) := fun W hu => hu.cell (HBC.out.cell 6) (by simp)
  have cc7 : ∀ W, Upd [] w12 W → W.cell? ⟨gC, 7, none⟩ = some (.int .i64 (-1)) := fun W hu => hu.cell (HBC.out.cell 7) (by simp)
  have cc8 : ∀ W, Upd [] w12 W → W.cell? ⟨gC, 8, none⟩ = some (.int .i64 (-1)) := fun W hu => hu.cell (HBC.out.cell 8) (by simp)
  have cc9 : ∀ W, Upd [] w12 W → W.cell? ⟨gC, 9, none⟩ = some (.int .i64 (-1)) := fun W hu => hu.cell (HBC.out.cell 9) (by simp)
  have cc10 : ∀ W, Upd [] w12 W → W.cell? ⟨gC, 10, none⟩ = some (.int .i64 (-1)) := fun W hu => hu.cell (HBC.out.cell 10) (by simp)
  have cc11 : ∀ W, Upd [] w12 W → W.cell? ⟨gC, 11, none⟩ = some (.int .i64 (-1)) := fun W hu => hu.cell (HBC.out.cell 11) (by simp)
  have cc12 : ∀ W, Upd [] w12 W → W.cell? ⟨gC, 12, none⟩ = some (.int .i64 (-1)) := fun W hu => hu.cell (HBC.out.cell 12) (by simp)
  have cc13 : ∀ W, Upd [] w12 W → W.cell? ⟨gC, 13, none⟩ = some (.int .i64 (-1)) := fun W hu => hu.cell (HBC.out.cell 13) (by simp)
  have cc14 : ∀ W, Upd [] w12 W → W.cell? ⟨gC, 14, none⟩ = some (.int .i64 (-1)) := fun W hu => hu.cell (HBC.out.cell 14) (by simp)
  have ru := Upd.refl [] w12
  clear R12 ba bb
  have hd : Upd [] w12 w12.drew := ru.drew
  refine wp_region_noPanic ?_
  refine reg_seq (k := 8) (f := 29) (s := 37) (ops := o14) (by kernel_rfl) (by kernel_rfl) (by kernel_rfl) o14_ns (fun _ _ _ _ _ h => h) o14_a rfl ?_
  simp only [List.take_succ_cons, List.take_zero]
  go_wp2_with fail
  refine qk_normal ?_
  show wpAny _ _ _ _ _ _ _ _
  refine two_seq (ops := o14) (by kernel_rfl) (tf 9 37) l9 o14_b rfl rfl (by kernel_rfl) (by kernel_rfl) ?_ ?_
  · go_wp2_with fail
    (with_reducible refine (HC1.out _ hd).mono ?_)
    rintro e W2 ⟨a2, k2, rfl, hr2, hl2, ru2⟩
    go_wp2_with fail
    refine qk_normal ?_
    show wpAny _ _ _ _ _ _ _ _
    refine mid_seq (ops := o14) (by kernel_rfl) (by kernel_rfl) o14_ns (fun _ _ _ _ _ h => h) 9 3 25 12 o14_c rfl rfl (by decide) ?_
    simp only [List.drop_succ_cons, List.drop_zero, List.take_succ_cons, List.take_zero]
    go_wp2_with fail
    (with_reducible refine (HC2.out _ a2 k2 _ (hr2.out.upd0 recCells_len ?_) (HRL.out _) (Upd.seq ru2 ?_)).mono ?_)
    · (repeat (first | exact Upd.refl _ _ | apply Upd.drew | apply Upd.drewN | apply Upd.alloc))
    · (repeat (first | exact Upd.refl _ _ | apply Upd.drew | apply Upd.drewN | apply Upd.alloc))
    (rintro _ W3 ⟨rfl, ru3⟩)
    go_wp2_with fail
    refine qk_normal ?_
    show wpAny _ _ _ _ _ _ _ _
    exact tail12 (gA := gA) (gB := gB) (gC := gC) (gk := gk) R14.out HBC.out ru3 hQ
  · go_wp2_with fail
    refine qk_normal ?_
    show wpAny _ _ _ _ _ _ _ _
    refine two_seq (ops := o14) (by kernel_rfl) (tf 10 37) l9b o14_h rfl rfl (by kernel_rfl) (by kernel_rfl) ?_ ?_
    · go_wp2_with fail
      (with_reducible refine (HC1.out _ hd).mono ?_)
      rintro e W2 ⟨a2, k2, rfl, hr2, hl2, ru2⟩
      go_wp2_with fail
      refine qk_normal ?_
      show wpAny _ _ _ _ _ _ _ _
      refine mid_seq (ops := o14) (by kernel_rfl) (by kernel_rfl) o14_ns (fun _ _ _ _ _ h => h) 10 2 25 12 o14_c10 rfl rfl (by decide) ?_
      simp only [List.drop_succ_cons, List.drop_zero, List.take_succ_cons, List.take_zero]
      go_wp2_with fail
      (with_reducible refine (HC2.out _ a2 k2 _ (hr2.out.upd0 recCells_len ?_) (HRL.out _) (Upd.seq ru2 ?_)).mono ?_)
      · (repeat (first | exact Upd.refl _ _ | apply Upd.drew | apply Upd.drewN | apply Upd.alloc))
      · (repeat (first | exact Upd.refl _ _ | apply Upd.drew | apply Upd.drewN | apply Upd.alloc))
      (rintro _ W3 ⟨rfl, ru3⟩)
      go_wp2_with fail
      refine qk_normal ?_
      show wpAny _ _ _ _ _ _ _ _
      exact tail12 (gA := gA) (gB := gB) (gC := gC) (gk := gk) R14.out HBC.out ru3 hQ
    · go_wp2_with fail
      refine qk_normal ?_
      show wpAny _ _ _ _ _ _ _ _
      refine one_seq (ops := o14) (by kernel_rfl) (tf 11 37) o14_i rfl (by kernel_rfl) ?_
      go_wp2_with fail
      (with_reducible refine (HC1.out _ (Upd.seq ru ?_)).mono ?_)
      · (repeat (first | exact Upd.refl _ _ | apply Upd.drew | apply Upd.drewN | apply Upd.alloc))
      rintro e W2 ⟨a2, k2, rfl, hr2, hl2, ru2⟩
      go_wp2_with fail
      refine qk_normal ?_
      show wpAny _ _ _ _ _ _ _ _
      refine mid_seq (ops := o14) (by kernel_rfl) (by kernel_rfl) o14_ns (fun _ _ _ _ _ h => h) 11 1 25 12 o14_c11 rfl rfl (by decide) ?_
      simp only [List.drop_succ_cons, List.drop_zero, List.take_succ_cons, List.take_zero]
      go_wp2_with fail
      (with_reducible refine (HC2.out _ a2 k2 _ hr2.out (HRL2.out _ _ _ ?_ hl2.out) ru2).mono ?_)
      · rfl
      (rintro _ W3 ⟨rfl, ru3⟩)
      go_wp2_with fail
      refine qk_normal ?_
      show wpAny _ _ _ _ _ _ _ _
      exact tail12 (gA := gA) (gB := gB) (gC := gC) (gk := gk) R14.out HBC.out ru3 hQ
end Go.Proofs.YtmhojaiajhdlcaaGreat
