/- Texts of the proof, joined: Chapter 25 as plain law: adding, and adding again behind a failure of the power. Contracts of the ledger beside a list of records that was told. The walk of LedgerBytes: its contracts. -/
import Derived.Test.YtmhojaiajhdlcaaGreatMb10
import Derived.Test.YtmhojaiajhdlcaaGreatMb11
import Derived.Deep.CutBlock
import Derived.Deep.DeepCutAuto
import Derived.Test.YtmhojaiajhdlcaaGreatMb7
import Derived.Test.YtmhojaiajhdlcaaGreatMb8
import Derived.Test.YtmhojaiajhdlcaaGreatMb13
namespace Go.Proofs.YtmhojaiajhdlcaaGreat
open Go.RowKit
set_option linter.unusedSimpArgs false
set_option linter.unusedVariables false
/-- A ledger whose file is the frames of its records. -/
structure PI (rl : List Rec) (lo B : Nat) (s : DS) : Prop where
  inv : LInv (Fr rl) lo B s
  one : OneF s.now (Fr rl)
  uq : Uniq rl
  ok : ∀ r ∈ rl, recOk r = true
  lo : lo ≤ (Fr rl).length
theorem PI.zero : PI [] 0 0 ⟨[], [], []⟩ := ⟨LInv.zero, .inl ⟨rfl, rfl⟩, Uniq.nil, fun r h => by simp at h, Nat.zero_le _⟩
theorem Fr_le : ∀ (rl : List Rec), (∀ r ∈ rl, recOk r = true) → (Fr rl).length ≤ 208 * rl.length
  | [], _ => by simp [Fr_nil]
  | r :: rl, h => by
    have h1 := Fr_le rl (fun x hx => h x (by simp [hx]))
    have h2 := encRec_len (h r (by simp))
    have h3 := frameOf_len (encRec r)
    rw [Fr_cons, List.length_append, List.length_cons]; omega
theorem frame_ne (r : Rec) : frameOf (encRec r) ≠ [] := fun q => by have h := frameOf_len (encRec r); rw [q] at h; simp at h; omega
theorem PI.add {rl : List Rec} {lo B : Nat} {s : DS} (h : PI rl lo B s) (r : Rec) (hl : rl.length ≤ 1000) :
    ∃ b er rl' s', lAdd rl s r = ((b, er), rl', s') ∧ PI rl' lo (B + 300) s' ∧ rl'.length ≤ rl.length + 1 ∧ (∃ x, rl' = rl ++ x) := by
  by_cases hok : recOk r = true
  · by_cases hh : hasK rl r.key = true
    · exact ⟨false, 0, rl, s, by unfold lAdd; rw [hok, if_pos rfl, hh, if_pos rfl], ⟨h.inv.bound (by omega), h.one, h.uq, h.ok, h.lo⟩, by omega, [], by simp⟩
    · have hh : hasK rl r.key = false := by simpa using hh
      have hf := Fr_le rl h.ok
      have hrl := encRec_len hok
      have hfl := frameOf_len (encRec r)
      obtain ⟨h1, h2, h3⟩ := h.inv.append h.one h.lo (frameOf (encRec r)) (by omega)
      refine ⟨true, 0, rl ++ [r], (dAppend s nmL (frameOf (encRec r))).2, ?_, ⟨?_, ?_, h.uq.snoc r hh, ?_, ?_⟩, by simp, [r], rfl⟩
      · unfold lAdd
        rw [hok, if_pos rfl, hh, if_neg (by simp), if_pos h1]
      · rw [Fr_snoc]; exact h2.bound (by omega)
      · rw [Fr_snoc]; exact h3 (frame_ne r)
      · intro x hx
        rcases List.mem_append.1 hx with q | q
        · exact h.ok x q
        · simp at q; rw [q]; exact hok
      · rw [Fr_snoc, List.length_append]; have := h.lo; omega
  · have hok : recOk r = false := by simpa using hok
    exact ⟨false, 1, rl, s, by unfold lAdd; rw [hok]; rfl, ⟨h.inv.bound (by omega), h.one, h.uq, h.ok, h.lo⟩, by omega, [], by simp⟩
theorem PI.mark {rl : List Rec} {lo B : Nat} {s : DS} (h : PI rl lo B s) : PI rl (Fr rl).length 0 (dMark s) :=
  ⟨h.inv.mark (n := (Fr rl).length) (by rw [List.take_length]; exact h.one) (Nat.le_refl _), h.one, h.uq, h.ok, Nat.le_refl _⟩
/-- A disk on which the ledger is somewhere between m0 records and all of them. -/
structure CI (all : List Rec) (m0 B : Nat) (s : DS) : Prop where
  inv : LInv (Fr all) (Ee all m0) B s
  uq : Uniq all
  ok : ∀ r ∈ all, recOk r = true
  m0 : m0 ≤ all.length
theorem PI.ci {rl all : List Rec} {B : Nat} {s : DS} (h : PI all (Fr rl).length B s) (hx : ∃ x, all = rl ++ x) : CI all rl.length B s := by
  obtain ⟨x, rfl⟩ := hx
  exact ⟨by unfold Ee; rw [List.take_left]; exact h.inv, h.uq, h.ok, by simp⟩
theorem CI.back {all : List Rec} {m0 B : Nat} {s : DS} (h : CI all m0 B s) (k : Int) : CI all m0 0 (dBack s k) := ⟨h.inv.back k, h.uq, h.ok, h.m0⟩
/-- Behind an opening. -/
structure RI (all : List Rec) (m0 B M : Nat) (s : DS) : Prop where
  ci : CI all m0 B s
  one : OneF s.now ((Fr all).take (Ee all M))
  ge : m0 ≤ M
  le : M ≤ all.length
theorem CI.open_ {all : List Rec} {m0 B : Nat} {s : DS} (h : CI all m0 B s) : ∃ M s', lOpen s = (all.take M, s') ∧ RI all m0 (B + 1) M s' := by
  obtain ⟨M, k1, k2, k3, k4, k5⟩ := lopen_take all h.ok h.uq m0 h.m0 h.inv
  exact ⟨M, (lOpen s).2, Prod.ext k3 rfl, ⟨k4, h.uq, h.ok, h.m0⟩, k5, k1, k2⟩
theorem LInv.append_in {hi : List UInt8} {lo B n : Nat} {s : DS} (h : LInv hi lo B s) (hn : OneF s.now (hi.take n)) (hnl : n ≤ hi.length) (hlo : lo ≤ n) (fr t : List UInt8) (he : hi = hi.take n ++ (fr ++ t)) (hz : hi.length ≤ 16777216) (hne : fr ≠ []) :
    (dAppend s nmL fr).1 = 0 ∧ LInv hi lo (B + 1 + fr.length) (dAppend s nmL fr).2 ∧ OneF (dAppend s nmL fr).2.now (hi.take (n + fr.length)) := by
  have hcl := chunks_len fr
  have hfl := chunks_all fr
  have hcl2 : (chunks fr).length ≤ fr.length := by omega
  have htl : (hi.take n).length = n := by rw [List.length_take]; omega
  have hlen : hi.length = n + (fr.length + t.length) := by have := congrArg List.length he; rw [List.length_append, List.length_append, htl] at this; exact this
  have hnext : hi.take (n + fr.length) = hi.take n ++ fr := by
    have e : hi.take n ++ (fr ++ t) = (hi.take n ++ fr) ++ t := by rw [List.append_assoc]
    conv => lhs; rw [he, e]
    exact List.take_left' (by rw [List.length_append, htl])
  unfold dAppend
  rw [nmL_ok, if_pos rfl, hn.total, if_neg (by rw [htl]; omega)]
  refine ⟨rfl, ?_⟩
  dsimp only
  rw [hnext]
  rcases hn with ⟨h1, h2⟩ | h1
  · have hin : inD s.now nmL = false := by rw [h1]; rfl
    have hn0 : n = 0 := by rw [h2] at htl; simpa using htl.symm
    subst hn0
    rw [hin, if_neg (by simp)]
    have hw := (h.ok.make nmL hin (by rw [h1]; simp)).1
    have hnow : (dDo (wMake nmL) s).now = [(nmL, [])] := by show wApply (wMake nmL) s.now = _; rw [h1]; rfl
    have hm := h.step hw (n := 0) hlo (Nat.zero_le _) (.inr (by rw [h1]; rfl))
    obtain ⟨k1, k2⟩ := LInv.puts (t := t) hz (chunks fr) (dDo (wMake nmL) s) [] (B + 1) hm hnow (by rw [hfl]; simpa using he) (chunks_ne fr) (by simpa using hlo)
    exact ⟨k1.bound (by omega), .inr (by rw [k2, hfl]; simp)⟩
  · have hin : inD s.now nmL = true := by rw [h1]; exact isIn_one nmL _
    rw [hin, if_pos rfl]
    obtain ⟨k1, k2⟩ := LInv.puts (t := t) hz (chunks fr) s (hi.take n) B h h1 (by rw [hfl]; exact he) (chunks_ne fr) (by rw [htl]; exact hlo)
    exact ⟨k1.bound (by omega), .inr (by rw [k2, hfl])⟩
/-- One of the first ones is there. -/
theorem RI.old {all : List Rec} {m0 B M : Nat} {s : DS} (h : RI all m0 B M s) (i : Nat) (hi : i < M) : lAdd (all.take M) s (nth all i) = ((false, 0), all.take M, s) := by
  have hok := h.ci.ok (nth all i) (by rw [nth_get all i (by have := h.le; omega)]; exact List.getElem_mem _)
  unfold lAdd
  rw [hok, if_pos rfl, Uniq.yes M i hi h.le, if_pos rfl]
/-- The next one comes behind. -/
theorem RI.next {all : List Rec} {m0 B M : Nat} {s : DS} (h : RI all m0 B M s) (hM : M < all.length) (hz : all.length ≤ 1000) : ∃ s', lAdd (all.take M) s (nth all M) = ((true, 0), all.take (M + 1), s') ∧ RI all m0 (B + 300) (M + 1) s' := by
  have hok := h.ci.ok (nth all M) (by rw [nth_get all M hM]; exact List.getElem_mem _)
  have hrl := encRec_len hok
  have hfl := frameOf_len (encRec (nth all M))
  have hfr := Fr_le all h.ci.ok
  have hle : Ee all M ≤ (Fr all).length := by rw [← Ee_all all all.length (Nat.le_refl _)]; exact Ee_mono all h.le
  have he : Fr all = (Fr all).take (Ee all M) ++ (frameOf (encRec (nth all M)) ++ Fr (all.drop (M + 1))) := by
    rw [← Fr_cons, nth_get all M hM, ← List.drop_eq_getElem_cons hM, ← Fr_drop, List.take_append_drop]
  obtain ⟨k1, k2, k3⟩ := h.ci.inv.append_in h.one hle (Ee_mono all h.ge) _ _ he (by omega) (frame_ne _)
  refine ⟨(dAppend s nmL (frameOf (encRec (nth all M)))).2, ?_, ⟨⟨k2.bound (by omega), h.ci.uq, h.ci.ok, h.ci.m0⟩, by rw [Ee_succ all M hM]; exact k3, by have := h.ge; omega, hM⟩⟩
  unfold lAdd
  rw [hok, if_pos rfl, h.ci.uq.no M hM, if_neg (by simp), if_pos k1, nth_get all M hM, List.take_succ_eq_append_getElem hM]
theorem PI.small {rl : List Rec} {lo B : Nat} {s : DS} (h : PI rl lo B s) (hB : B ≤ 100000) : s.now.length ≤ 4999 ∧ s.log.length ≤ 500000000 := ⟨by have := h.inv.nlen; omega, by have := h.inv.lg; omega⟩
theorem CI.small {all : List Rec} {m0 B : Nat} {s : DS} (h : CI all m0 B s) (hB : B ≤ 100000) : s.now.length ≤ 4999 ∧ s.log.length ≤ 500000000 ∧ s.mark.length ≤ 1 := ⟨by have := h.inv.nlen; omega, by have := h.inv.lg; omega, h.inv.mlen⟩
end Go.Proofs.YtmhojaiajhdlcaaGreat
namespace Go.Proofs.YtmhojaiajhdlcaaGreat
open Go.RowKit
set_option linter.unusedSimpArgs false
set_option linter.unusedVariables false
/-- A list of records in memory that nobody of X writes. -/
structure AV (w : World) (av : Value) (all : List Rec) (X : List Nat) : Prop where
  rd : RdN 15 recCells w av all
  lt : ∀ x ∈ blk av, x < w.heap.size
  ap : ∀ x ∈ X, x ∉ blk av
theorem AV.step {w w' : World} {av : Value} {all : List Rec} {X X' S : List Nat} (h : AV w av all X) (hu : Upd S w w') (hS : ∀ x ∈ S, x ∈ X) (hX : ∀ x ∈ X', x ∈ X ∨ w.heap.size ≤ x) : AV w' av all X' :=
  ⟨h.rd.upd recCells_len hu (fun x hx hs => h.ap x (hS x hs) hx), fun x hx => Nat.lt_of_lt_of_le (h.lt x hx) hu.size, fun x hx hb => by
    rcases hX x hx with q | q
    · exact h.ap x q hb
    · have := h.lt x hb; omega⟩
theorem AV.upd0 {w w' : World} {av : Value} {all : List Rec} {X : List Nat} (h : AV w av all X) (hu : Upd [] w w') : AV w' av all X := h.step hu (by simp) (fun x hx => .inl hx)
structure LA (w0 w : World) (gd gl : Nat) (rl : List Rec) (s : DS) (av : Value) (all : List Rec) : Prop where
  ex : ∃ F G, LD w0 w gd gl F G rl s ∧ AV w av all (F ++ G)
structure DA (w0 w : World) (gd : Nat) (s : DS) (av : Value) (all : List Rec) : Prop where
  ex : ∃ G, DD w0 w gd G s ∧ AV w av all G
section
variable {w0 w w' : World} {gd gl : Nat} {rl rl' : List Rec} {s s' : DS} {av : Value} {all : List Rec}
theorem LA.da (h : LA w0 w gd gl rl s av all) : DA w0 w gd s av all := by
  obtain ⟨F, G, h1, h2⟩ := h.ex
  exact ⟨G, h1.dd, h2.rd, h2.lt, fun x hx => h2.ap x (List.mem_append_right _ hx)⟩
theorem LA.upd0 (h : LA w0 w gd gl rl s av all) (hu : Upd [] w w') : LA w0 w' gd gl rl s av all := by
  obtain ⟨F, G, h1, h2⟩ := h.ex
  exact ⟨F, G, h1.upd0 hu, h2.upd0 hu⟩
theorem DA.upd0 (h : DA w0 w gd s av all) (hu : Upd [] w w') : DA w0 w' gd s av all := by
  obtain ⟨G, h1, h2⟩ := h.ex
  exact ⟨G, h1.upd0 hu, h2.upd0 hu⟩
theorem LA.old (h : LA w0 w gd gl rl s av all) : Upd [] w0 w := by
  obtain ⟨F, G, h1, h2⟩ := h.ex
  exact h1.old
theorem DA.old (h : DA w0 w gd s av all) : Upd [] w0 w := by
  obtain ⟨G, h1, h2⟩ := h.ex
  exact h1.old
theorem LA.rd (h : LA w0 w gd gl rl s av all) : RdN 15 recCells w av all := by
  obtain ⟨F, G, h1, h2⟩ := h.ex
  exact h2.rd
theorem DA.call (h : DA w0 w gd s av all) (ho : ∀ G, DD w0 w gd G s → AV w av all G → DOut w0 w gd G s' w') : DA w0 w' gd s' av all := by
  obtain ⟨G, h1, h2⟩ := h.ex
  obtain ⟨G', k1, k2, k3⟩ := (show ∃ G', _ from ho G h1 h2)
  exact ⟨G', k1, h2.step k2 (fun x hx => hx) k3⟩
theorem cBack (h : DA w0 w gd s av all) (n : Int) (hn : I64 n) (hl : s.mark.length ≤ 100000) :
    Calls Tryz.prog 35 #[.pointer (some ⟨gd, 0, none⟩), .int .i64 n] w fun e w' => e = .returned (.tuple #[]) ∧ DA w0 w' gd (dBack s n) av all := by
  obtain ⟨G, h1, h2⟩ := h.ex
  refine (dBack_any n hn h1 hl).mono ?_
  rintro e w' ⟨rfl, G', k1, k2, k3⟩
  exact ⟨rfl, G', k1, h2.step k2 (fun x hx => hx) k3⟩
theorem cCount (h : DA w0 w gd s av all) :
    Calls Tryz.prog 27 #[.pointer (some ⟨gd, 0, none⟩)] w fun e w' => e = .returned (.int .i64 (s.log.length : Int)) ∧ w = w' := by
  obtain ⟨G, h1, h2⟩ := h.ex
  exact dCount_any h1
theorem cOpen (h : DA w0 w gd s av all) (hz : s.now.length ≤ 5000 ∧ s.log.length ≤ 1000000000) (he : lOpen s = (rl', s')) :
    Calls Tryz.prog 23 #[.pointer (some ⟨gd, 0, none⟩)] w fun e w' => ∃ gk, e = .returned (.tuple #[.pointer (some ⟨gk, 0, none⟩), .int .i64 0]) ∧ LA w0 w' gd gk rl' s' av all := by
  obtain ⟨G, h1, h2⟩ := h.ex
  have h3 := ledOpen_any h1 hz.1 hz.2
  rw [he] at h3
  refine h3.mono ?_
  rintro e w' ⟨gk, rfl, F', G', k1, k2, k3, k4⟩
  refine ⟨gk, rfl, F', G', k1, h2.step k2 (fun x hx => hx) (fun x hx => ?_)⟩
  rcases List.mem_append.1 hx with q | q
  · exact k3 x q
  · exact k4 x q
theorem cLen (h : LA w0 w gd gl rl s av all) {n : Nat} (hn : rl.length = n) : Calls Tryz.prog 30 #[.pointer (some ⟨gl, 0, none⟩)] w fun e w' => e = .returned (.int .i64 (n : Int)) ∧ w = w' := by
  subst hn
  obtain ⟨F, G, h1, h2⟩ := h.ex
  obtain ⟨gm, lv, hl, -⟩ := h1.lc
  exact ledLen_any hl
theorem cAdd (h : LA w0 w gd gl rl s av all) (ino gen at_ : Int) (rule : ByteArray) (kind c0 c1 c2 c3 c4 c5 c6 c7 c8 c9 : Int) (hz : s.now.length ≤ 4999 ∧ s.log.length ≤ 500000000) (hr : rl.length ≤ 100000000) {b : Bool} {er : Int} (he : lAdd rl s (mkRec ino gen at_ rule kind c0 c1 c2 c3 c4 c5 c6 c7 c8 c9) = ((b, er), rl', s')) :
    Calls Tryz.prog 31 #[.pointer (some ⟨gl, 0, none⟩), .agg #[.int .i64 ino, .int .i64 gen, .int .i64 at_, .string rule, .int .i64 kind, .int .i64 c0, .int .i64 c1, .int .i64 c2, .int .i64 c3, .int .i64 c4, .int .i64 c5, .int .i64 c6, .int .i64 c7, .int .i64 c8, .int .i64 c9]] w fun e w' => e = .returned (.tuple #[.bool b, .int .i64 er]) ∧ LA w0 w' gd gl rl' s' av all := by
  obtain ⟨F, G, h1, h2⟩ := h.ex
  have h3 := ledAdd_c h1 ino gen at_ rule kind c0 c1 c2 c3 c4 c5 c6 c7 c8 c9 hz.1 hz.2 hr
  rw [he] at h3
  refine h3.mono ?_
  rintro e w' ⟨rfl, F', G', k1, k2, k3, k4⟩
  refine ⟨rfl, F', G', k1, h2.step k2 (fun x hx => hx) (fun x hx => ?_)⟩
  rcases List.mem_append.1 hx with q | q
  · exact k3 x q
  · exact k4 x q
/-- The list of all records. -/
theorem cList (h : LA w0 w gd gl rl s av all) (hr : rl.length ≤ 100000000) {n : Nat} (hn : rl.length = n) :
    Calls Tryz.prog 26 #[.pointer (some ⟨gl, 0, none⟩), .int .i64 0] w fun e w' => ∃ a k, e = .returned (.slice a n k) ∧ Hid (RdN 15 recCells w' (.slice a n k) rl) ∧ LA w0 w' gd gl rl s av all := by
  subst hn
  obtain ⟨F, G, h1, h2⟩ := h.ex
  obtain ⟨gm, lv, hl, -⟩ := h1.lc
  refine (ledList_any hl 0 0 (Nat.zero_le _) (.inr (.inl rfl)) hr).mono ?_
  rintro e w' ⟨a, q, k, rfl, k1, k2⟩
  rw [List.drop_zero] at k1
  have hrd := k1.rd recCells_len
  obtain ⟨a', k', hs, -⟩ := hrd
  injection hs with e1 e2 e3
  subst e2
  exact ⟨a, k, rfl, k1.rd recCells_len, F, G, h1.upd0 k2, h2.upd0 k2⟩
/-- The list of all records, that is to be kept. -/
theorem cListNew {F G : List Nat} (h : LD w0 w gd gl F G rl s) (hr : rl.length ≤ 100000000) :
    Calls Tryz.prog 26 #[.pointer (some ⟨gl, 0, none⟩), .int .i64 0] w fun e w' => ∃ a k, e = .returned (.slice a rl.length k) ∧ LA w0 w' gd gl rl s (.slice a rl.length k) rl := by
  obtain ⟨gm, lv, hl, hF⟩ := h.lc
  refine (ledList_any hl 0 0 (Nat.zero_le _) (.inr (.inl rfl)) hr).mono ?_
  rintro e w' ⟨a, q, k, rfl, k1, k2⟩
  rw [List.drop_zero] at k1
  have hrd := k1.rd recCells_len
  obtain ⟨a', k', hs, -⟩ := hrd
  injection hs with e1 e2 e3
  subst e2
  have hge := k1.ge
  refine ⟨a, k, rfl, F, G, h.upd0 k2, k1.rd recCells_len, fun x hx => (hge x hx).2, fun x hx hb => ?_⟩
  have h1 := (hge x hb).1
  rcases List.mem_append.1 hx with q | q
  · have := (h.geF x q).2; omega
  · have := (h.dd.ge x q).2; omega
end
/-- What stands behind a region that is a statement by itself. -/
def restReg (n : Nat) : Code → Option Code
  | .seq a b => match a with
    | .region id ops m => if id = n then some b else restReg n b
    | _ => restReg n b
  | _ => none
def regOf (n : Nat) (o : Option Code) : Code := (o.bind (findReg n)).getD .skip
def restOf (n : Nat) (o : Option Code) : Code := (o.bind (restReg n)).getD .skip
end Go.Proofs.YtmhojaiajhdlcaaGreat
namespace Go.Proofs.YtmhojaiajhdlcaaGreat
open Go.RowKit
set_option linter.unusedSimpArgs false
set_option linter.unusedVariables false
noncomputable def reg9 : Code := regOf 9 Tryz.f3.body
noncomputable def rest9 : Code := restOf 9 Tryz.f3.body
theorem rfGet_c (w : World) (u : Value) (B : List UInt8) (ino gen at_ : Int) (rule : ByteArray) (kind c0 c1 c2 c3 c4 c5 c6 c7 c8 c9 : Int) (ok : Bool) (h : Bytes w u B) (hz : B.length ≤ 140737488351232) (hX : getRec B = (mkRec ino gen at_ rule kind c0 c1 c2 c3 c4 c5 c6 c7 c8 c9, ok)) :
    Calls Tryz.prog 11 #[u] w fun e w' => e = .returned (.tuple #[mkVal ino gen at_ rule kind c0 c1 c2 c3 c4 c5 c6 c7 c8 c9, .bool ok]) ∧ Upd [] w w' := by
  have h1 := rfGet_any w u B h hz
  rw [hX] at h1
  exact h1
theorem recEq_same (ino gen at_ : Int) (rule : ByteArray) (kind c0 c1 c2 c3 c4 c5 c6 c7 c8 c9 : Int) : ∀ W, (Op.equalIn 10000 27 (.agg #[.int .i64 ino, .int .i64 gen, .int .i64 at_, .string rule, .int .i64 kind, .int .i64 c0, .int .i64 c1, .int .i64 c2, .int .i64 c3, .int .i64 c4, .int .i64 c5, .int .i64 c6, .int .i64 c7, .int .i64 c8, .int .i64 c9]) (.agg #[.int .i64 ino, .int .i64 gen, .int .i64 at_, .string rule, .int .i64 kind, .int .i64 c0, .int .i64 c1, .int .i64 c2, .int .i64 c3, .int .i64 c4, .int .i64 c5, .int .i64 c6, .int .i64 c7, .int .i64 c8, .int .i64 c9])).run Tryz.prog W = .ok true W := fun W => by
  have h := recEq_run W ino gen at_ rule kind c0 c1 c2 c3 c4 c5 c6 c7 c8 c9 ino gen at_ rule kind c0 c1 c2 c3 c4 c5 c6 c7 c8 c9
  rw [decide_eq_true rfl] at h
  exact h
theorem put_sl {w : World} (ino gen at_ : Int) (rule : ByteArray) (kind c0 c1 c2 c3 c4 c5 c6 c7 c8 c9 : Int) {E : List UInt8} (hE : (if recOk (mkRec ino gen at_ rule kind c0 c1 c2 c3 c4 c5 c6 c7 c8 c9) then encRec (mkRec ino gen at_ rule kind c0 c1 c2 c3 c4 c5 c6 c7 c8 c9) else []) = E) : Calls Tryz.prog 14 #[.agg #[.int .i64 ino, .int .i64 gen, .int .i64 at_, .string rule, .int .i64 kind, .int .i64 c0, .int .i64 c1, .int .i64 c2, .int .i64 c3, .int .i64 c4, .int .i64 c5, .int .i64 c6, .int .i64 c7, .int .i64 c8, .int .i64 c9]] w fun e w' => ∃ a k, e = .returned (.slice a E.length k) ∧ Hid (Bytes w' (.slice a E.length k) E) ∧ Upd [] w w' := by
  have h := ledPut_c w ino gen at_ rule kind c0 c1 c2 c3 c4 c5 c6 c7 c8 c9
  rw [hE] at h
  refine h.mono ?_
  rintro e w' ⟨v, rfl, hv, hu⟩
  have hr := hv.rd
  obtain ⟨a, k, rfl, -⟩ := id hr
  exact ⟨a, k, rfl, hr, hu⟩
theorem rput_sl {w : World} (ino gen at_ : Int) (rule : ByteArray) (kind c0 c1 c2 c3 c4 c5 c6 c7 c8 c9 : Int) {E : List UInt8} (hok : recOk (mkRec ino gen at_ rule kind c0 c1 c2 c3 c4 c5 c6 c7 c8 c9) = true) (hE : encRec (mkRec ino gen at_ rule kind c0 c1 c2 c3 c4 c5 c6 c7 c8 c9) = E) : Calls Tryz.prog 9 #[.agg #[.int .i64 ino, .int .i64 gen, .int .i64 at_, .string rule, .int .i64 kind, .int .i64 c0, .int .i64 c1, .int .i64 c2, .int .i64 c3, .int .i64 c4, .int .i64 c5, .int .i64 c6, .int .i64 c7, .int .i64 c8, .int .i64 c9]] w fun e w' => ∃ a k, e = .returned (.slice a E.length k) ∧ Hid (Bytes w' (.slice a E.length k) E) ∧ Upd [] w w' := by
  have h := rfPut_c w ino gen at_ rule kind c0 c1 c2 c3 c4 c5 c6 c7 c8 c9 hok
  rw [hE] at h
  refine h.mono ?_
  rintro e w' ⟨v, rfl, hv, hu⟩
  have hr := hv.rd
  obtain ⟨a, k, rfl, -⟩ := id hr
  exact ⟨a, k, rfl, hr, hu⟩
theorem same_sl {w : World} {v u : Value} {E : List UInt8} (h : Bytes w v E) (h2 : Bytes w u E) : Calls Tryz.prog 13 #[v, u] w fun e w' => e = .returned (.bool true) ∧ Upd [] w w' := by
  refine (sameByte_ok _ _ E w h h2).mono ?_
  rintro e w' ⟨rfl, n, rfl⟩
  exact ⟨rfl, (Upd.refl [] w).drewN n⟩
theorem get_nil_no : (getRec []).2 = false := by
  cases h : (getRec []).2 with
  | false => rfl
  | true =>
    obtain ⟨h1, h2⟩ := enc_get h
    have h3 := (encRec_len h1).2
    rw [h2] at h3
    exact absurd h3 (by simp)
end Go.Proofs.YtmhojaiajhdlcaaGreat
