/- LedgerCuts: the law returns true, whatever it is given. -/
import Derived.Test.YtmhojaiajhdlcaaMl7
import Derived.Test.YtmhojaiajhdlcaaMl8
import Derived.Deep.CutBlock
import Derived.Deep.DeepCutAuto
import Derived.Test.YtmhojaiajhdlcaaMl10
import Derived.Test.YtmhojaiajhdlcaaMl1
import Derived.Deep.RegionHeld3
import Derived.Test.YtmhojaiajhdlcaaMl2
import Derived.Deep.Fields
import Derived.ChangeSame
import Derived.OpenShut
namespace Go.Proofs.Ytmhojaiajhdlcaa
open Go.RowKit
set_option linter.unusedSimpArgs false
set_option linter.unusedVariables false
/-- A ledger whose file is the frames of its records. -/
structure PI (rl : List Rec) (lo B : Nat) (s : DS) : Prop where
  inv : LInv (Fr rl) lo B s
  one : OneF s.now (Fr rl)
  uq : Uniq rl
  ok : ∀ r ∈ rl, recOk r = true
  lo : lo ≤ (Fr rl).length
theorem PI.zero : PI [] 0 0 ⟨[], [], []⟩ := ⟨LInv.zero, .inl ⟨rfl, rfl⟩, Uniq.nil, fun r h => by simp at h, Nat.zero_le _⟩
theorem Fr_le : ∀ (rl : List Rec), (∀ r ∈ rl, recOk r = true) → (Fr rl).length ≤ 208 * rl.length
  | [], _ => by simp [Fr_nil]
  | r :: rl, h => by
    have h1 := Fr_le rl (fun x hx => h x (by simp [hx]))
    have h2 := encRec_len (h r (by simp))
    have h3 := frameOf_len (encRec r)
    rw [Fr_cons, List.length_append, List.length_cons]; omega
theorem frame_ne (r : Rec) : frameOf (encRec r) ≠ [] := fun q => by have h := frameOf_len (encRec r); rw [q] at h; simp at h; omega
theorem PI.add {rl : List Rec} {lo B : Nat} {s : DS} (h : PI rl lo B s) (r : Rec) (hl : rl.length ≤ 1000) :
    ∃ b er rl' s', lAdd rl s r = ((b, er), rl', s') ∧ PI rl' lo (B + 300) s' ∧ rl'.length ≤ rl.length + 1 ∧ (∃ x, rl' = rl ++ x) := by
  by_cases hok : recOk r = true
  · by_cases hh : hasK rl r.key = true
    · exact ⟨false, 0, rl, s, by unfold lAdd; rw [hok, if_pos rfl, hh, if_pos rfl], ⟨h.inv.bound (by omega), h.one, h.uq, h.ok, h.lo⟩, by omega, [], by simp⟩
    · have hh : hasK rl r.key = false := by simpa using hh
      have hf := Fr_le rl h.ok
      have hrl := encRec_len hok
      have hfl := frameOf_len (encRec r)
      obtain ⟨h1, h2, h3⟩ := h.inv.append h.one h.lo (frameOf (encRec r)) (by omega)
      refine ⟨true, 0, rl ++ [r], (dAppend s nmL (frameOf (encRec r))).2, ?_, ⟨?_, ?_, h.uq.snoc r hh, ?_, ?_⟩, by simp, [r], rfl⟩
      · unfold lAdd
        rw [hok, if_pos rfl, hh, if_neg (by simp), if_pos h1]
      · rw [Fr_snoc]; exact h2.bound (by omega)
      · rw [Fr_snoc]; exact h3 (frame_ne r)
      · intro x hx
        rcases List.mem_append.1 hx with q | q
        · exact h.ok x q
        · simp at q; rw [q]; exact hok
      · rw [Fr_snoc, List.length_append]; have := h.lo; omega
  · have hok : recOk r = false := by simpa using hok
    exact ⟨false, 1, rl, s, by unfold lAdd; rw [hok]; rfl, ⟨h.inv.bound (by omega), h.one, h.uq, h.ok, h.lo⟩, by omega, [], by simp⟩
theorem PI.mark {rl : List Rec} {lo B : Nat} {s : DS} (h : PI rl lo B s) : PI rl (Fr rl).length 0 (dMark s) :=
  ⟨h.inv.mark (n := (Fr rl).length) (by rw [List.take_length]; exact h.one) (Nat.le_refl _), h.one, h.uq, h.ok, Nat.le_refl _⟩
/-- A disk on which the ledger is somewhere between m0 records and all of them. -/
structure CI (all : List Rec) (m0 B : Nat) (s : DS) : Prop where
  inv : LInv (Fr all) (Ee all m0) B s
  uq : Uniq all
  ok : ∀ r ∈ all, recOk r = true
  m0 : m0 ≤ all.length
theorem PI.ci {rl all : List Rec} {B : Nat} {s : DS} (h : PI all (Fr rl).length B s) (hx : ∃ x, all = rl ++ x) : CI all rl.length B s := by
  obtain ⟨x, rfl⟩ := hx
  exact ⟨by unfold Ee; rw [List.take_left]; exact h.inv, h.uq, h.ok, by simp⟩
theorem CI.back {all : List Rec} {m0 B : Nat} {s : DS} (h : CI all m0 B s) (k : Int) : CI all m0 0 (dBack s k) := ⟨h.inv.back k, h.uq, h.ok, h.m0⟩
/-- Behind an opening. -/
structure RI (all : List Rec) (m0 B M : Nat) (s : DS) : Prop where
  ci : CI all m0 B s
  one : OneF s.now ((Fr all).take (Ee all M))
  ge : m0 ≤ M
  le : M ≤ all.length
theorem CI.open_ {all : List Rec} {m0 B : Nat} {s : DS} (h : CI all m0 B s) : ∃ M s', lOpen s = (all.take M, s') ∧ RI all m0 (B + 1) M s' := by
  obtain ⟨M, k1, k2, k3, k4, k5⟩ := lopen_take all h.ok h.uq m0 h.m0 h.inv
  exact ⟨M, (lOpen s).2, Prod.ext k3 rfl, ⟨k4, h.uq, h.ok, h.m0⟩, k5, k1, k2⟩
theorem LInv.append_in {hi : List UInt8} {lo B n : Nat} {s : DS} (h : LInv hi lo B s) (hn : OneF s.now (hi.take n)) (hnl : n ≤ hi.length) (hlo : lo ≤ n) (fr t : List UInt8) (he : hi = hi.take n ++ (fr ++ t)) (hz : hi.length ≤ 16777216) (hne : fr ≠ []) :
    (dAppend s nmL fr).1 = 0 ∧ LInv hi lo (B + 1 + fr.length) (dAppend s nmL fr).2 ∧ OneF (dAppend s nmL fr).2.now (hi.take (n + fr.length)) := by
  have hcl := chunks_len fr
  have hfl := chunks_all fr
  have hcl2 : (chunks fr).length ≤ fr.length := by omega
  have htl : (hi.take n).length = n := by rw [List.length_take]; omega
  have hlen : hi.length = n + (fr.length + t.length) := by have := congrArg List.length he; rw [List.length_append, List.length_append, htl] at this; exact this
  have hnext : hi.take (n + fr.length) = hi.take n ++ fr := by
    have e : hi.take n ++ (fr ++ t) = (hi.take n ++ fr) ++ t := by rw [List.append_assoc]
    conv => lhs; rw [he, e]
    exact List.take_left' (by rw [List.length_append, htl])
  unfold dAppend
  rw [nmL_ok, if_pos rfl, hn.total, if_neg (by rw [htl]; omega)]
  refine ⟨rfl, ?_⟩
  dsimp only
  rw [hnext]
  rcases hn with ⟨h1, h2⟩ | h1
  · have hin : inD s.now nmL = false := by rw [h1]; rfl
    have hn0 : n = 0 := by rw [h2] at htl; simpa using htl.symm
    subst hn0
    rw [hin, if_neg (by simp)]
    have hw := (h.ok.make nmL hin (by rw [h1]; simp)).1
    have hnow : (dDo (wMake nmL) s).now = [(nmL, [])] := by show wApply (wMake nmL) s.now = _; rw [h1]; rfl
    have hm := h.step hw (n := 0) hlo (Nat.zero_le _) (.inr (by rw [h1]; rfl))
    obtain ⟨k1, k2⟩ := LInv.puts (t := t) hz (chunks fr) (dDo (wMake nmL) s) [] (B + 1) hm hnow (by rw [hfl]; simpa using he) (chunks_ne fr) (by simpa using hlo)
    exact ⟨k1.bound (by omega), .inr (by rw [k2, hfl]; simp)⟩
  · have hin : inD s.now nmL = true := by rw [h1]; exact isIn_one nmL _
    rw [hin, if_pos rfl]
    obtain ⟨k1, k2⟩ := LInv.puts (t := t) hz (chunks fr) s (hi.take n) B h h1 (by rw [hfl]; exact he) (chunks_ne fr) (by rw [htl]; exact hlo)
    exact ⟨k1.bound (by omega), .inr (by rw [k2, hfl])⟩
/-- One of the first ones is there. -/
theorem RI.old {all : List Rec} {m0 B M : Nat} {s : DS} (h : RI all m0 B M s) (i : Nat) (hi : i < M) : lAdd (all.take M) s (nth all i) = ((false, 0), all.take M, s) := by
  have hok := h.ci.ok (nth all i) (by rw [nth_get all i (by have := h.le; omega)]; exact List.getElem_mem _)
  unfold lAdd
  rw [hok, if_pos rfl, Uniq.yes M i hi h.le, if_pos rfl]
/-- The next one comes behind. -/
theorem RI.next {all : List Rec} {m0 B M : Nat} {s : DS} (h : RI all m0 B M s) (hM : M < all.length) (hz : all.length ≤ 1000) : ∃ s', lAdd (all.take M) s (nth all M) = ((true, 0), all.take (M + 1), s') ∧ RI all m0 (B + 300) (M + 1) s' := by
  have hok := h.ci.ok (nth all M) (by rw [nth_get all M hM]; exact List.getElem_mem _)
  have hrl := encRec_len hok
  have hfl := frameOf_len (encRec (nth all M))
  have hfr := Fr_le all h.ci.ok
  have hle : Ee all M ≤ (Fr all).length := by rw [← Ee_all all all.length (Nat.le_refl _)]; exact Ee_mono all h.le
  have he : Fr all = (Fr all).take (Ee all M) ++ (frameOf (encRec (nth all M)) ++ Fr (all.drop (M + 1))) := by
    rw [← Fr_cons, nth_get all M hM, ← List.drop_eq_getElem_cons hM, ← Fr_drop, List.take_append_drop]
  obtain ⟨k1, k2, k3⟩ := h.ci.inv.append_in h.one hle (Ee_mono all h.ge) _ _ he (by omega) (frame_ne _)
  refine ⟨(dAppend s nmL (frameOf (encRec (nth all M)))).2, ?_, ⟨⟨k2.bound (by omega), h.ci.uq, h.ci.ok, h.ci.m0⟩, by rw [Ee_succ all M hM]; exact k3, by have := h.ge; omega, hM⟩⟩
  unfold lAdd
  rw [hok, if_pos rfl, h.ci.uq.no M hM, if_neg (by simp), if_pos k1, nth_get all M hM, List.take_succ_eq_append_getElem hM]
theorem PI.small {rl : List Rec} {lo B : Nat} {s : DS} (h : PI rl lo B s) (hB : B ≤ 100000) : s.now.length ≤ 4999 ∧ s.log.length ≤ 500000000 := ⟨by have := h.inv.nlen; omega, by have := h.inv.lg; omega⟩
theorem CI.small {all : List Rec} {m0 B : Nat} {s : DS} (h : CI all m0 B s) (hB : B ≤ 100000) : s.now.length ≤ 4999 ∧ s.log.length ≤ 500000000 ∧ s.mark.length ≤ 1 := ⟨by have := h.inv.nlen; omega, by have := h.inv.lg; omega, h.inv.mlen⟩
end Go.Proofs.Ytmhojaiajhdlcaa
namespace Go.Proofs.Ytmhojaiajhdlcaa
open Go.RowKit
set_option linter.unusedSimpArgs false
set_option linter.unusedVariables false
/-- A list of records in memory that nobody of X writes. -/
structure AV (w : World) (av : Value) (all : List Rec) (X : List Nat) : Prop where
  rd : RdN 15 recCells w av all
  lt : ∀ x ∈ blk av, x < w.heap.size
  ap : ∀ x ∈ X, x ∉ blk av
theorem AV.step {w w' : World} {av : Value} {all : List Rec} {X X' S : List Nat} (h : AV w av all X) (hu : Upd S w w') (hS : ∀ x ∈ S, x ∈ X) (hX : ∀ x ∈ X', x ∈ X ∨ w.heap.size ≤ x) : AV w' av all X' :=
  ⟨h.rd.upd recCells_len hu (fun x hx hs => h.ap x (hS x hs) hx), fun x hx => Nat.lt_of_lt_of_le (h.lt x hx) hu.size, fun x hx hb => by
    rcases hX x hx with q | q
    · exact h.ap x q hb
    · have := h.lt x hb; omega⟩
theorem AV.upd0 {w w' : World} {av : Value} {all : List Rec} {X : List Nat} (h : AV w av all X) (hu : Upd [] w w') : AV w' av all X := h.step hu (by simp) (fun x hx => .inl hx)
structure LA (w0 w : World) (gd gl : Nat) (rl : List Rec) (s : DS) (av : Value) (all : List Rec) : Prop where
  ex : ∃ F G, LD w0 w gd gl F G rl s ∧ AV w av all (F ++ G)
structure DA (w0 w : World) (gd : Nat) (s : DS) (av : Value) (all : List Rec) : Prop where
  ex : ∃ G, DD w0 w gd G s ∧ AV w av all G
section
variable {w0 w w' : World} {gd gl : Nat} {rl rl' : List Rec} {s s' : DS} {av : Value} {all : List Rec}
theorem LA.da (h : LA w0 w gd gl rl s av all) : DA w0 w gd s av all := by
  obtain ⟨F, G, h1, h2⟩ := h.ex
  exact ⟨G, h1.dd, h2.rd, h2.lt, fun x hx => h2.ap x (List.mem_append_right _ hx)⟩
theorem LA.upd0 (h : LA w0 w gd gl rl s av all) (hu : Upd [] w w') : LA w0 w' gd gl rl s av all := by
  obtain ⟨F, G, h1, h2⟩ := h.ex
  exact ⟨F, G, h1.upd0 hu, h2.upd0 hu⟩
theorem DA.upd0 (h : DA w0 w gd s av all) (hu : Upd [] w w') : DA w0 w' gd s av all := by
  obtain ⟨G, h1, h2⟩ := h.ex
  exact ⟨G, h1.upd0 hu, h2.upd0 hu⟩
theorem LA.old (h : LA w0 w gd gl rl s av all) : Upd [] w0 w := by
  obtain ⟨F, G, h1, h2⟩ := h.ex
  exact h1.old
theorem DA.old (h : DA w0 w gd s av all) : Upd [] w0 w := by
  obtain ⟨G, h1, h2⟩ := h.ex
  exact h1.old
theorem LA.rd (h : LA w0 w gd gl rl s av all) : RdN 15 recCells w av all := by
  obtain ⟨F, G, h1, h2⟩ := h.ex
  exact h2.rd
theorem DA.call (h : DA w0 w gd s av all) (ho : ∀ G, DD w0 w gd G s → AV w av all G → DOut w0 w gd G s' w') : DA w0 w' gd s' av all := by
  obtain ⟨G, h1, h2⟩ := h.ex
  obtain ⟨G', k1, k2, k3⟩ := (show ∃ G', _ from ho G h1 h2)
  exact ⟨G', k1, h2.step k2 (fun x hx => hx) k3⟩
theorem cBack (h : DA w0 w gd s av all) (n : Int) (hn : I64 n) (hl : s.mark.length ≤ 100000) :
    Calls Try.prog 21 #[.pointer (some ⟨gd, 0, none⟩), .int .i64 n] w fun e w' => e = .returned (.tuple #[]) ∧ DA w0 w' gd (dBack s n) av all := by
  obtain ⟨G, h1, h2⟩ := h.ex
  refine (dBack_any n hn h1 hl).mono ?_
  rintro e w' ⟨rfl, G', k1, k2, k3⟩
  exact ⟨rfl, G', k1, h2.step k2 (fun x hx => hx) k3⟩
theorem cCount (h : DA w0 w gd s av all) :
    Calls Try.prog 23 #[.pointer (some ⟨gd, 0, none⟩)] w fun e w' => e = .returned (.int .i64 (s.log.length : Int)) ∧ w = w' := by
  obtain ⟨G, h1, h2⟩ := h.ex
  exact dCount_any h1
theorem cOpen (h : DA w0 w gd s av all) (hz : s.now.length ≤ 5000 ∧ s.log.length ≤ 1000000000) (he : lOpen s = (rl', s')) :
    Calls Try.prog 10 #[.pointer (some ⟨gd, 0, none⟩)] w fun e w' => ∃ gk, e = .returned (.tuple #[.pointer (some ⟨gk, 0, none⟩), .int .i64 0]) ∧ LA w0 w' gd gk rl' s' av all := by
  obtain ⟨G, h1, h2⟩ := h.ex
  have h3 := ledOpen_any h1 hz.1 hz.2
  rw [he] at h3
  refine h3.mono ?_
  rintro e w' ⟨gk, rfl, F', G', k1, k2, k3, k4⟩
  refine ⟨gk, rfl, F', G', k1, h2.step k2 (fun x hx => hx) (fun x hx => ?_)⟩
  rcases List.mem_append.1 hx with q | q
  · exact k3 x q
  · exact k4 x q
theorem cLen (h : LA w0 w gd gl rl s av all) {n : Nat} (hn : rl.length = n) : Calls Try.prog 13 #[.pointer (some ⟨gl, 0, none⟩)] w fun e w' => e = .returned (.int .i64 (n : Int)) ∧ w = w' := by
  subst hn
  obtain ⟨F, G, h1, h2⟩ := h.ex
  obtain ⟨gm, lv, hl, -⟩ := h1.lc
  exact ledLen_any hl
theorem cAdd (h : LA w0 w gd gl rl s av all) (ino gen at_ : Int) (rule : ByteArray) (kind c0 c1 c2 c3 c4 c5 c6 c7 c8 c9 : Int) (hz : s.now.length ≤ 4999 ∧ s.log.length ≤ 500000000) (hr : rl.length ≤ 100000000) {b : Bool} {er : Int} (he : lAdd rl s (mkRec ino gen at_ rule kind c0 c1 c2 c3 c4 c5 c6 c7 c8 c9) = ((b, er), rl', s')) :
    Calls Try.prog 12 #[.pointer (some ⟨gl, 0, none⟩), .agg #[.int .i64 ino, .int .i64 gen, .int .i64 at_, .string rule, .int .i64 kind, .int .i64 c0, .int .i64 c1, .int .i64 c2, .int .i64 c3, .int .i64 c4, .int .i64 c5, .int .i64 c6, .int .i64 c7, .int .i64 c8, .int .i64 c9]] w fun e w' => e = .returned (.tuple #[.bool b, .int .i64 er]) ∧ LA w0 w' gd gl rl' s' av all := by
  obtain ⟨F, G, h1, h2⟩ := h.ex
  have h3 := ledAdd_c h1 ino gen at_ rule kind c0 c1 c2 c3 c4 c5 c6 c7 c8 c9 hz.1 hz.2 hr
  rw [he] at h3
  refine h3.mono ?_
  rintro e w' ⟨rfl, F', G', k1, k2, k3, k4⟩
  refine ⟨rfl, F', G', k1, h2.step k2 (fun x hx => hx) (fun x hx => ?_)⟩
  rcases List.mem_append.1 hx with q | q
  · exact k3 x q
  · exact k4 x q
/-- The list of all records. -/
theorem cList (h : LA w0 w gd gl rl s av all) (hr : rl.length ≤ 100000000) {n : Nat} (hn : rl.length = n) :
    Calls Try.prog 17 #[.pointer (some ⟨gl, 0, none⟩), .int .i64 0] w fun e w' => ∃ a k, e = .returned (.slice a n k) ∧ Hid (RdN 15 recCells w' (.slice a n k) rl) ∧ LA w0 w' gd gl rl s av all := by
  subst hn
  obtain ⟨F, G, h1, h2⟩ := h.ex
  obtain ⟨gm, lv, hl, -⟩ := h1.lc
  refine (ledList_any hl 0 0 (Nat.zero_le _) (.inr (.inl rfl)) hr).mono ?_
  rintro e w' ⟨a, q, k, rfl, k1, k2⟩
  rw [List.drop_zero] at k1
  have hrd := k1.rd recCells_len
  obtain ⟨a', k', hs, -⟩ := hrd
  injection hs with e1 e2 e3
  subst e2
  exact ⟨a, k, rfl, k1.rd recCells_len, F, G, h1.upd0 k2, h2.upd0 k2⟩
/-- The list of all records, that is to be kept. -/
theorem cListNew {F G : List Nat} (h : LD w0 w gd gl F G rl s) (hr : rl.length ≤ 100000000) :
    Calls Try.prog 17 #[.pointer (some ⟨gl, 0, none⟩), .int .i64 0] w fun e w' => ∃ a k, e = .returned (.slice a rl.length k) ∧ LA w0 w' gd gl rl s (.slice a rl.length k) rl := by
  obtain ⟨gm, lv, hl, hF⟩ := h.lc
  refine (ledList_any hl 0 0 (Nat.zero_le _) (.inr (.inl rfl)) hr).mono ?_
  rintro e w' ⟨a, q, k, rfl, k1, k2⟩
  rw [List.drop_zero] at k1
  have hrd := k1.rd recCells_len
  obtain ⟨a', k', hs, -⟩ := hrd
  injection hs with e1 e2 e3
  subst e2
  have hge := k1.ge
  refine ⟨a, k, rfl, F, G, h.upd0 k2, k1.rd recCells_len, fun x hx => (hge x hx).2, fun x hx hb => ?_⟩
  have h1 := (hge x hb).1
  rcases List.mem_append.1 hx with q | q
  · have := (h.geF x q).2; omega
  · have := (h.dd.ge x q).2; omega
end
/-- What stands behind a region that is a statement by itself. -/
def restReg (n : Nat) : Code → Option Code
  | .seq a b => match a with
    | .region id ops m => if id = n then some b else restReg n b
    | _ => restReg n b
  | _ => none
def regOf (n : Nat) (o : Option Code) : Code := (o.bind (findReg n)).getD .skip
def restOf (n : Nat) (o : Option Code) : Code := (o.bind (restReg n)).getD .skip
end Go.Proofs.Ytmhojaiajhdlcaa
namespace Go.Proofs.Ytmhojaiajhdlcaa
open Go.RowKit
set_option linter.unusedSimpArgs false
set_option linter.unusedVariables false
noncomputable def reg35 : Code := regOf 35 Try.f4.body
noncomputable def rest35 : Code := restOf 35 Try.f4.body
set_option maxRecDepth 100000 in
set_option maxHeartbeats 8000000 in
theorem cuts35 {w W : World} {gd gh M m0 B : Nat} {all : List Rec} {s : DS} {a15 : Option Addr} {k15 : Nat} {x0 x1 x2 x3 x4 x5 x6 x7 x8 x9 x10 x11 x12 x13 x14 x16 x17 x18 x20 x21 x22 x23 x24 x25 x26 x27 x28 x29 x30 x31 x32 x33 x34 x35 x36 x37 x38 x39 x40 x41 x42 x43 x44 x45 x46 x47 x48 x49 x50 x51 x52 x53 x54 x55 x56 x57 x58 x59 x60 x61 x62 x63 x64 x65 x66 x67 x68 x69 x70 x71 x72 x73 x74 x75 x76 x77 x78 x79 x80 x81 x82 x83 x84 x85 x86 x87 x88 x89 x90 x91 x92 x93 x94 x95 x96 x97 x98 x99 x100 x101 x102 x103 x104 x105 x106 x107 x108 x109 x110 x111 x112 x113 x114 x115 x116 x117 x118 x119 x120 x121 x122 x123 x124 x125 x126 x127 x128 x129 x130 x131 x132 x133 x134 x135 x136 x137 x138 x139 x140 x141 x142 x143 x144 x145 x146 x147 x148 x149 x150 x151 x152 x153 x154 x155 x156 x157 x158 x159 x160 x161 x162 x163 x164 x165 x166 x167 x168 x169 x170 x171 x172 x173 x174 x175 x176 x177 x178 x179 x180 x181 x182 x183 x184 x185 x186 x187 x188 x189 x190 x191 x192 x193 x194 x195 x196 x197 : Value} {Q : Exit → Act → World → Prop} (h : LA w W gd gh (all.take M) s (.slice a15 all.length k15) all) (hr : RI all m0 B M s) (hB : B ≤ 1000) (hn : all.length ≤ 20)
    (hQ : ∀ (y0 y1 y2 y3 y4 y5 y6 y7 y9 y10 y11 y12 y13 y14 y15 y16 y17 y18 y19 y20 y21 y22 y23 y24 y25 y26 y27 y28 y29 y30 y31 y32 y33 y34 y35 y36 y37 y38 y39 y40 y41 y42 y43 y44 y45 y46 y47 y48 y49 y50 y51 y52 y53 y54 y55 y56 y57 y58 y59 y60 y61 y62 y63 y64 y65 y66 y67 y68 y69 y70 y71 y72 y73 y74 y75 y76 y77 y78 y79 y80 y81 y82 y83 y84 y85 y86 y87 y88 y89 y90 y91 y92 y93 y94 y95 y96 y97 y98 y99 y100 y101 y102 y103 y104 y105 y106 y107 y108 y109 y110 y111 y112 y113 y114 y115 y116 y117 y118 y119 y120 y121 y122 y123 y124 y125 y126 y127 y128 y129 y130 y131 y132 y133 y134 y135 y136 y137 y138 y139 y140 y141 y142 y143 y144 y145 y146 y147 y148 y149 y150 y151 y152 y153 y154 y155 y156 y157 y158 y159 y160 y161 y162 y163 y164 y165 y166 y167 y168 y169 y170 y171 y172 y173 y174 y175 y176 y177 y178 y179 y180 y181 y182 y183 y184 y185 y186 y187 y188 y189 y190 y191 y192 y193 y194 y195 y196 y197 : Value) (w' : World), Upd [] w w' → Q .ret ⟨#[y0, y1, y2, y3, y4, y5, y6, y7, .bool true, y9, y10, y11, y12, y13, y14, y15, y16, y17, y18, y19, y20, y21, y22, y23, y24, y25, y26, y27, y28, y29, y30, y31, y32, y33, y34, y35, y36, y37, y38, y39, y40, y41, y42, y43, y44, y45, y46, y47, y48, y49, y50, y51, y52, y53, y54, y55, y56, y57, y58, y59, y60, y61, y62, y63, y64, y65, y66, y67, y68, y69, y70, y71, y72, y73, y74, y75, y76, y77, y78, y79, y80, y81, y82, y83, y84, y85, y86, y87, y88, y89, y90, y91, y92, y93, y94, y95, y96, y97, y98, y99, y100, y101, y102, y103, y104, y105, y106, y107, y108, y109, y110, y111, y112, y113, y114, y115, y116, y117, y118, y119, y120, y121, y122, y123, y124, y125, y126, y127, y128, y129, y130, y131, y132, y133, y134, y135, y136, y137, y138, y139, y140, y141, y142, y143, y144, y145, y146, y147, y148, y149, y150, y151, y152, y153, y154, y155, y156, y157, y158, y159, y160, y161, y162, y163, y164, y165, y166, y167, y168, y169, y170, y171, y172, y173, y174, y175, y176, y177, y178, y179, y180, y181, y182, y183, y184, y185, y186, y187, y188, y189, y190, y191, y192, y193, y194, y195, y196, y197], []⟩ w') {K : Act → World → Prop} (hK : ∀ a w, Code.wp Try.prog rest35 Q a w → K a w) : Code.wp Try.prog reg35 (Exit.then K Q) ⟨#[x0, x1, x2, x3, x4, x5, x6, x7, x8, x9, x10, x11, x12, x13, x14, .slice a15 all.length k15, x16, x17, x18, .pointer (some ⟨gh, 0, none⟩), x20, x21, x22, x23, x24, x25, x26, x27, x28, x29, x30, x31, x32, x33, x34, x35, x36, x37, x38, x39, x40, x41, x42, x43, x44, x45, x46, x47, x48, x49, x50, x51, x52, x53, x54, x55, x56, x57, x58, x59, x60, x61, x62, x63, x64, x65, x66, x67, x68, x69, x70, x71, x72, x73, x74, x75, x76, x77, x78, x79, x80, x81, x82, x83, x84, x85, x86, x87, x88, x89, x90, x91, x92, x93, x94, x95, x96, x97, x98, x99, x100, x101, x102, x103, x104, x105, x106, x107, x108, x109, x110, x111, x112, x113, x114, x115, x116, x117, x118, x119, x120, x121, x122, x123, x124, x125, x126, x127, x128, x129, x130, x131, x132, x133, x134, x135, x136, x137, x138, x139, x140, x141, x142, x143, x144, x145, x146, x147, x148, x149, x150, x151, x152, x153, x154, x155, x156, x157, x158, x159, x160, x161, x162, x163, x164, x165, x166, x167, x168, x169, x170, x171, x172, x173, x174, x175, x176, x177, x178, x179, x180, x181, x182, x183, x184, x185, x186, x187, x188, x189, x190, x191, x192, x193, x194, x195, x196, x197], []⟩ W := by
  conv => arg 2; whnf
  change ∀ a w, Code.wp _ (Code.seq _ _) Q a w → K a w at hK
  have HQ := Lib.hid hQ
  have hle := hr.le
  have HTL : Hid ((all.take M).length = M) := by unfold Hid; rw [List.length_take]; omega
  have H0 := Lib.hid h
  have HR := Lib.hid hr
  clear h hr hQ
  go_wp2_with fail
  (with_reducible refine (cLen H0.out HTL.out).mono ?_)
  rintro e w1 ⟨rfl, rfl⟩
  go_wp2_with fail
  go_loopw [24] (fun i wr => ∃ (k N B' : Nat) (s : DS), k ≤ all.length ∧ i = .int .i64 k ∧ Hid ((k ≤ M ∧ N = M) ∨ (M ≤ k ∧ N = k)) ∧ Hid (B' ≤ B + 300 * k) ∧ Hid (LA w wr gd gh (all.take N) s (.slice a15 all.length k15) all) ∧ Hid (RI all m0 B' N s)) (fun i _ => all.length - (intOf i).toNat)
  case atStart => exact ⟨0, M, B, _, Nat.zero_le _, rfl, .inl ⟨Nat.zero_le _, rfl⟩, Nat.le_refl _, H0, HR⟩
  case round =>
    clear H0 HR
    obtain ⟨k, N, B', s, hk, rfl, hN, hB', hs, hR⟩ := hrel
    by_cases hlt : k < all.length
    · obtain ⟨a9, c9', he9, hlc, hmc, hca⟩ := hs.out.rd
      injection he9 with e1 e2 e3
      subst e1; subst e3
      obtain ⟨lb, loff, rfl, hcb⟩ := hca (by intro h; simp [h] at hlt)
      clear hca
      have hca : ∀ i, i < 15 → wr.cell? ⟨lb, loff + (k * 15 + i), none⟩ = (recCells (nth all k))[i]? := hcb k hlt
      obtain ⟨ino, gen, at_, rule, kind, c0, c1, c2, c3, c4, c5, c6, c7, c8, c9, hx⟩ := rec_mk (nth all k)
      rw [hx] at hca
      have d0 : wr.cell? ⟨lb, loff + k * 15, none⟩ = some (.int .i64 ino) := hca 0 (by omega)
      have d1 : wr.cell? ⟨lb, loff + k * 15 + 1, none⟩ = some (.int .i64 gen) := hca 1 (by omega)
      have d2 : wr.cell? ⟨lb, loff + k * 15 + 2, none⟩ = some (.int .i64 at_) := hca 2 (by omega)
      have d3 : wr.cell? ⟨lb, loff + k * 15 + 3, none⟩ = some (.string rule) := hca 3 (by omega)
      have d4 : wr.cell? ⟨lb, loff + k * 15 + 4, none⟩ = some (.int .i64 kind) := hca 4 (by omega)
      have d5 : wr.cell? ⟨lb, loff + k * 15 + 5, none⟩ = some (.int .i64 c0) := hca 5 (by omega)
      have d6 : wr.cell? ⟨lb, loff + k * 15 + 6, none⟩ = some (.int .i64 c1) := hca 6 (by omega)
      have d7 : wr.cell? ⟨lb, loff + k * 15 + 7, none⟩ = some (.int .i64 c2) := hca 7 (by omega)
      have d8 : wr.cell? ⟨lb, loff + k * 15 + 8, none⟩ = some (.int .i64 c3) := hca 8 (by omega)
      have d9 : wr.cell? ⟨lb, loff + k * 15 + 9, none⟩ = some (.int .i64 c4) := hca 9 (by omega)
      have d10 : wr.cell? ⟨lb, loff + k * 15 + 10, none⟩ = some (.int .i64 c5) := hca 10 (by omega)
      have d11 : wr.cell? ⟨lb, loff + k * 15 + 11, none⟩ = some (.int .i64 c6) := hca 11 (by omega)
      have d12 : wr.cell? ⟨lb, loff + k * 15 + 12, none⟩ = some (.int .i64 c7) := hca 12 (by omega)
      have d13 : wr.cell? ⟨lb, loff + k * 15 + 13, none⟩ = some (.int .i64 c8) := hca 13 (by omega)
      have d14 : wr.cell? ⟨lb, loff + k * 15 + 14, none⟩ = some (.int .i64 c9) := hca 14 (by omega)
      have HX := Lib.hid hx
      have q1 : (k : Int) < all.length := by omega
      have q3 : (0 : Int) ≤ k := by omega
      clear hca hcb hx hmc hlc e2
      by_cases hkM : k < M
      · obtain rfl : M = N := by have := hN.out; omega
        have hadd := hR.out.old k hkM
        rw [HX.out] at hadd
        have p1 : decide ((M : Int) ≤ (k : Int)) = false := decide_eq_false (by omega)
        have p2 : ¬ ((M : Int) ≤ (k : Int)) := by omega
        have HAD := Lib.hid hadd
        have HSM := Lib.hid (hR.out.ci.small (by have := hB'.out; omega))
        have HLN : Hid ((all.take M).length ≤ 100000000) := by unfold Hid; rw [List.length_take]; omega
        clear hadd
        go_wp2_with fail
        (with_reducible refine (cAdd hs.out ino gen at_ rule kind c0 c1 c2 c3 c4 c5 c6 c7 c8 c9 ⟨HSM.out.1, HSM.out.2.1⟩ HLN.out HAD.out).mono ?_)
        rintro e w2 ⟨rfl, h2⟩
        have H2 := Lib.hid h2
        clear h2 hs d0 d1 d2 d3 d4 d5 d6 d7 d8 d9 d10 d11 d12 d13 d14 HSM HLN HAD
        go_wp2_with fail
        go_roundw
        case rel => exact ⟨k + 1, M, B', s, by omega, by go_num, .inl ⟨by omega, rfl⟩, by have := hB'.out; unfold Hid; omega, H2, hR⟩
        case measure => simp [intOf]; omega
      · obtain rfl : k = N := by have := hN.out; omega
        obtain ⟨s', hadd, hR'⟩ := hR.out.next hlt (by omega)
        rw [HX.out] at hadd
        have HR' := Lib.hid hR'
        clear hR'
        have p1 : decide ((M : Int) ≤ (k : Int)) = true := decide_eq_true (by omega)
        have p2 : (M : Int) ≤ (k : Int) := by omega
        have HAD := Lib.hid hadd
        have HSM := Lib.hid (hR.out.ci.small (by have := hB'.out; omega))
        have HLN : Hid ((all.take k).length ≤ 100000000) := by unfold Hid; rw [List.length_take]; omega
        clear hadd
        go_wp2_with fail
        (with_reducible refine (cAdd hs.out ino gen at_ rule kind c0 c1 c2 c3 c4 c5 c6 c7 c8 c9 ⟨HSM.out.1, HSM.out.2.1⟩ HLN.out HAD.out).mono ?_)
        rintro e w2 ⟨rfl, h2⟩
        have H2 := Lib.hid h2
        clear h2 hs d0 d1 d2 d3 d4 d5 d6 d7 d8 d9 d10 d11 d12 d13 d14 HSM HLN HAD
        go_wp2_with fail
        go_roundw
        case rel => exact ⟨k + 1, k + 1, B' + 300, s', by omega, by go_num, .inr ⟨by omega, rfl⟩, by have := hB'.out; unfold Hid; omega, H2, HR'⟩
        case measure => simp [intOf]; omega
    · obtain rfl : k = all.length := by omega
      obtain rfl : N = all.length := by have := hN.out; omega
      have H2 : Hid (LA w wr gd gh all s (.slice a15 all.length k15) all) := by have := hs.out; rwa [List.take_length] at this
      clear hs
      go_wp2_with fail
      (with_reducible refine (cList H2.out (by omega) rfl).mono ?_)
      rintro e w2 ⟨a2, k2, rfl, hr2, h2⟩
      have HA2 := Lib.hid h2.rd
      have HO2 := Lib.hid h2.old
      clear h2 H2 hR hB' hN
      go_wp2_with fail
      (with_reducible refine (sameRec_yes _ _ all _ hr2.out HA2.out).mono ?_)
      rintro e w3 ⟨rfl, hu3⟩
      have HO3 := Lib.hid (Upd.seq HO2.out hu3)
      clear hu3 hr2 HA2 HO2
      go_wp2_with fail
      (with_reducible refine (ledgerRuns_any w3).mono ?_)
      rintro e w4 ⟨rfl, hu4⟩
      have HO4 := Lib.hid (Upd.seq HO3.out hu4)
      clear hu4 HO3
      go_wp2_with fail
      exact HQ.out _ _ _ _ _ _ _ _ _ _ _ _ _ _ _ _ _ _ _ _ _ _ _ _ _ _ _ _ _ _ _ _ _ _ _ _ _ _ _ _ _ _ _ _ _ _ _ _ _ _ _ _ _ _ _ _ _ _ _ _ _ _ _ _ _ _ _ _ _ _ _ _ _ _ _ _ _ _ _ _ _ _ _ _ _ _ _ _ _ _ _ _ _ _ _ _ _ _ _ _ _ _ _ _ _ _ _ _ _ _ _ _ _ _ _ _ _ _ _ _ _ _ _ _ _ _ _ _ _ _ _ _ _ _ _ _ _ _ _ _ _ _ _ _ _ _ _ _ _ _ _ _ _ _ _ _ _ _ _ _ _ _ _ _ _ _ _ _ _ _ _ _ _ _ _ _ _ _ _ _ _ _ _ _ _ _ _ _ _ _ _ _ _ _ _ _ _ _ HO4.out
end Go.Proofs.Ytmhojaiajhdlcaa
namespace Go.Proofs.Ytmhojaiajhdlcaa
open Go.RowKit
set_option linter.unusedSimpArgs false
set_option linter.unusedVariables false
noncomputable def reg24 : Code := regOf 24 Try.f4.body
noncomputable def rest24 : Code := restOf 24 Try.f4.body
set_option maxRecDepth 100000 in
set_option maxHeartbeats 8000000 in
theorem cuts24 {w W : World} {gd m0 B : Nat} {all : List Rec} {s0 : DS} {a15 : Option Addr} {k15 : Nat} {x0 x1 x2 x3 x4 x5 x6 x7 x8 x10 x11 x12 x14 x16 x17 x18 x19 x20 x21 x22 x23 x24 x25 x26 x27 x28 x29 x30 x31 x32 x33 x34 x35 x36 x37 x38 x39 x40 x41 x42 x43 x44 x45 x46 x47 x48 x49 x50 x51 x52 x53 x54 x55 x56 x57 x58 x59 x60 x61 x62 x63 x64 x65 x66 x67 x68 x69 x70 x71 x72 x73 x74 x75 x76 x77 x78 x79 x80 x81 x82 x83 x84 x85 x86 x87 x88 x89 x90 x91 x92 x93 x94 x95 x96 x97 x98 x99 x100 x101 x102 x103 x104 x105 x106 x107 x108 x109 x110 x111 x112 x113 x114 x115 x116 x117 x118 x119 x120 x121 x122 x123 x124 x125 x126 x127 x128 x129 x130 x131 x132 x133 x134 x135 x136 x137 x138 x139 x140 x141 x142 x143 x144 x145 x146 x147 x148 x149 x150 x151 x152 x153 x154 x155 x156 x157 x158 x159 x160 x161 x162 x163 x164 x165 x166 x167 x168 x169 x170 x171 x172 x173 x174 x175 x176 x177 x178 x179 x180 x181 x182 x183 x184 x185 x186 x187 x188 x189 x190 x191 x192 x193 x194 x195 x196 x197 : Value} {Q : Exit → Act → World → Prop} (h : DA w W gd s0 (.slice a15 all.length k15) all) (hc : CI all m0 B s0) (hB : B ≤ 500) (hn : all.length ≤ 20)
    (hQ : ∀ (y0 y1 y2 y3 y4 y5 y6 y7 y9 y10 y11 y12 y13 y14 y15 y16 y17 y18 y19 y20 y21 y22 y23 y24 y25 y26 y27 y28 y29 y30 y31 y32 y33 y34 y35 y36 y37 y38 y39 y40 y41 y42 y43 y44 y45 y46 y47 y48 y49 y50 y51 y52 y53 y54 y55 y56 y57 y58 y59 y60 y61 y62 y63 y64 y65 y66 y67 y68 y69 y70 y71 y72 y73 y74 y75 y76 y77 y78 y79 y80 y81 y82 y83 y84 y85 y86 y87 y88 y89 y90 y91 y92 y93 y94 y95 y96 y97 y98 y99 y100 y101 y102 y103 y104 y105 y106 y107 y108 y109 y110 y111 y112 y113 y114 y115 y116 y117 y118 y119 y120 y121 y122 y123 y124 y125 y126 y127 y128 y129 y130 y131 y132 y133 y134 y135 y136 y137 y138 y139 y140 y141 y142 y143 y144 y145 y146 y147 y148 y149 y150 y151 y152 y153 y154 y155 y156 y157 y158 y159 y160 y161 y162 y163 y164 y165 y166 y167 y168 y169 y170 y171 y172 y173 y174 y175 y176 y177 y178 y179 y180 y181 y182 y183 y184 y185 y186 y187 y188 y189 y190 y191 y192 y193 y194 y195 y196 y197 : Value) (w' : World), Upd [] w w' → Q .ret ⟨#[y0, y1, y2, y3, y4, y5, y6, y7, .bool true, y9, y10, y11, y12, y13, y14, y15, y16, y17, y18, y19, y20, y21, y22, y23, y24, y25, y26, y27, y28, y29, y30, y31, y32, y33, y34, y35, y36, y37, y38, y39, y40, y41, y42, y43, y44, y45, y46, y47, y48, y49, y50, y51, y52, y53, y54, y55, y56, y57, y58, y59, y60, y61, y62, y63, y64, y65, y66, y67, y68, y69, y70, y71, y72, y73, y74, y75, y76, y77, y78, y79, y80, y81, y82, y83, y84, y85, y86, y87, y88, y89, y90, y91, y92, y93, y94, y95, y96, y97, y98, y99, y100, y101, y102, y103, y104, y105, y106, y107, y108, y109, y110, y111, y112, y113, y114, y115, y116, y117, y118, y119, y120, y121, y122, y123, y124, y125, y126, y127, y128, y129, y130, y131, y132, y133, y134, y135, y136, y137, y138, y139, y140, y141, y142, y143, y144, y145, y146, y147, y148, y149, y150, y151, y152, y153, y154, y155, y156, y157, y158, y159, y160, y161, y162, y163, y164, y165, y166, y167, y168, y169, y170, y171, y172, y173, y174, y175, y176, y177, y178, y179, y180, y181, y182, y183, y184, y185, y186, y187, y188, y189, y190, y191, y192, y193, y194, y195, y196, y197], []⟩ w') {K : Act → World → Prop} (hK : ∀ a w, Code.wp Try.prog rest24 Q a w → K a w) : Code.wp Try.prog reg24 (Exit.then K Q) ⟨#[x0, x1, x2, x3, x4, x5, x6, x7, x8, .pointer (some ⟨gd, 0, none⟩), x10, x11, x12, .int .i64 m0, x14, .slice a15 all.length k15, x16, x17, x18, x19, x20, x21, x22, x23, x24, x25, x26, x27, x28, x29, x30, x31, x32, x33, x34, x35, x36, x37, x38, x39, x40, x41, x42, x43, x44, x45, x46, x47, x48, x49, x50, x51, x52, x53, x54, x55, x56, x57, x58, x59, x60, x61, x62, x63, x64, x65, x66, x67, x68, x69, x70, x71, x72, x73, x74, x75, x76, x77, x78, x79, x80, x81, x82, x83, x84, x85, x86, x87, x88, x89, x90, x91, x92, x93, x94, x95, x96, x97, x98, x99, x100, x101, x102, x103, x104, x105, x106, x107, x108, x109, x110, x111, x112, x113, x114, x115, x116, x117, x118, x119, x120, x121, x122, x123, x124, x125, x126, x127, x128, x129, x130, x131, x132, x133, x134, x135, x136, x137, x138, x139, x140, x141, x142, x143, x144, x145, x146, x147, x148, x149, x150, x151, x152, x153, x154, x155, x156, x157, x158, x159, x160, x161, x162, x163, x164, x165, x166, x167, x168, x169, x170, x171, x172, x173, x174, x175, x176, x177, x178, x179, x180, x181, x182, x183, x184, x185, x186, x187, x188, x189, x190, x191, x192, x193, x194, x195, x196, x197], []⟩ W := by
  conv => arg 2; whnf
  change ∀ a w, Code.wp _ (Code.seq _ _) Q a w → K a w at hK
  have HQ := Lib.hid hQ
  obtain ⟨M, s, ho, hr⟩ := hc.open_
  have hsm := hc.small (by omega)
  have HSM := Lib.hid hsm
  have HO := Lib.hid ho
  have HUQ := Lib.hid hr.ci.uq
  have HM0 := Lib.hid hr.ge
  have HML := Lib.hid hr.le
  have HTL : Hid ((all.take M).length = M) := by have := hr.le; unfold Hid; rw [List.length_take]; omega
  have HDA := Lib.hid h
  have HR := Lib.hid hr
  clear h hr hQ hc hsm ho
  go_wp2_with fail
  (with_reducible refine (cOpen HDA.out ⟨by have := HSM.out.1; omega, by have := HSM.out.2.1; omega⟩ HO.out).mono ?_)
  rintro e w1 ⟨gh, rfl, h1⟩
  have H1 := Lib.hid h1
  clear h1 HDA HSM HO
  go_wp2_with fail
  (with_reducible refine (cLen H1.out HTL.out).mono ?_)
  rintro e w1' ⟨rfl, rfl⟩
  have p1 : ¬ (M : Int) < m0 := by have := HM0.out; omega
  go_wp2_with fail
  (with_reducible refine (cLen H1.out HTL.out).mono ?_)
  rintro e w1' ⟨rfl, rfl⟩
  have p2 : ¬ (all.length : Int) < M := by have := HML.out; omega
  go_wp2_with fail
  (with_reducible refine (cList H1.out (by have := HTL.out; have := HML.out; omega) HTL.out).mono ?_)
  rintro e w2 ⟨a2, k2, rfl, hr2, h2⟩
  have H2 := Lib.hid h2
  clear h2 H1
  go_wp2_with fail
  (with_reducible refine (cLen H2.out HTL.out).mono ?_)
  rintro e w1' ⟨rfl, rfl⟩
  have hrd := H2.out.rd
  obtain ⟨a9, c9', he9, hlc, hmc, -⟩ := id hrd
  injection he9 with e1 e2 e3
  subst e1; subst e3
  have hcut := fun W => run_cut_h (P := Try.prog) (size := 15) Try.underlying43 (by kernel_rfl) a15 all.length k15 M (by have := HML.out; omega) W
  have HRT := Lib.hid (hrd.take M HML.out)
  clear hrd hlc hmc e2
  go_wp2_with fail
  (with_reducible refine (sameRec_yes _ _ (all.take M) _ hr2.out HRT.out).mono ?_)
  rintro e w3 ⟨rfl, hu3⟩
  have H0 := Lib.hid (H2.out.upd0 hu3)
  clear hu3 H2 hr2 HRT hcut
  go_wp2_with fail
  go_loopw [21] (fun i wr => ∃ k : Nat, k ≤ all.length ∧ i = .int .i64 k ∧ Hid (LA w wr gd gh (all.take M) s (.slice a15 all.length k15) all)) (fun i _ => all.length - (intOf i).toNat)
  case atStart => exact ⟨0, Nat.zero_le _, rfl, H0⟩
  case round =>
    clear H0
    obtain ⟨k, hk, rfl, hs0⟩ := hrel
    by_cases hlt : k < all.length
    · have q1 : (k : Int) < all.length := by omega
      have q3 : (0 : Int) ≤ k := by omega
      go_wp2_with fail
      go_loopw [22] (fun j wj => ∃ m : Nat, m ≤ k ∧ j = .int .i64 m ∧ Hid (LA w wj gd gh (all.take M) s (.slice a15 all.length k15) all)) (fun j _ => k - (intOf j).toNat)
      case atStart => exact ⟨0, Nat.zero_le _, rfl, hs0⟩
      case round =>
        clear hs0
        obtain ⟨m, hmk, rfl, hs⟩ := hrel
        by_cases hm : m < k
        · obtain ⟨a9, c9', he9, hlc, hmc, hca⟩ := hs.out.rd
          injection he9 with e1 e2 e3
          subst e1; subst e3
          obtain ⟨lb, loff, rfl, hcb⟩ := hca (by intro h; simp [h] at hlt)
          clear hca
          have hc1 : ∀ i, i < 15 → wr.cell? ⟨lb, loff + (k * 15 + i), none⟩ = (recCells (nth all k))[i]? := hcb k hlt
          have hc2 : ∀ i, i < 15 → wr.cell? ⟨lb, loff + (m * 15 + i), none⟩ = (recCells (nth all m))[i]? := hcb m (by omega)
          have hne := HUQ.out m k hm hlt
          generalize nth all k = rk at hc1 hne
          generalize nth all m = rm at hc2 hne
          obtain ⟨⟨ino, gen, at_, rule⟩, kind, ⟨cs, hcs⟩⟩ := rk
          obtain ⟨⟨ino', gen', at', rule'⟩, kind', ⟨cs', hcs'⟩⟩ := rm
          have d0 : wr.cell? ⟨lb, loff + k * 15, none⟩ = some (.int .i64 ino) := hc1 0 (by omega)
          have d1 : wr.cell? ⟨lb, loff + k * 15 + 1, none⟩ = some (.int .i64 gen) := hc1 1 (by omega)
          have d2 : wr.cell? ⟨lb, loff + k * 15 + 2, none⟩ = some (.int .i64 at_) := hc1 2 (by omega)
          have d3 : wr.cell? ⟨lb, loff + k * 15 + 3, none⟩ = some (.string rule) := hc1 3 (by omega)
          have f0 : wr.cell? ⟨lb, loff + m * 15, none⟩ = some (.int .i64 ino') := hc2 0 (by omega)
          have f1 : wr.cell? ⟨lb, loff + m * 15 + 1, none⟩ = some (.int .i64 gen') := hc2 1 (by omega)
          have f2 : wr.cell? ⟨lb, loff + m * 15 + 2, none⟩ = some (.int .i64 at') := hc2 2 (by omega)
          have f3 : wr.cell? ⟨lb, loff + m * 15 + 3, none⟩ = some (.string rule') := hc2 3 (by omega)
          have hkf : ¬ (ino = ino' ∧ gen = gen' ∧ at_ = at' ∧ rule = rule') := fun q => hne (Key.ext' q.1.symm q.2.1.symm q.2.2.1.symm q.2.2.2.symm)
          have hq := fun W => keyEq_run 9998 W ino gen at_ rule ino' gen' at' rule'
          rw [decide_eq_false hkf] at hq
          have r1 : (m : Int) < k := by omega
          have r2 : (m : Int) < all.length := by omega
          have r3 : (0 : Int) ≤ m := by omega
          clear hcb hc1 hc2 hne hkf hmc hlc e2
          go_wp2_with fail
          go_quiet (fail)
          go_wp2_with fail
          go_roundw
          case rel => exact ⟨m + 1, by omega, by go_num, hs.out.upd0 (by repeat (first | exact Upd.refl _ _ | apply Upd.drew | apply Upd.drewN))⟩
          case measure => simp [intOf]; omega
        · obtain rfl : m = k := by omega
          go_wp2_with fail
          go_roundw
          case rel => exact ⟨m + 1, by omega, by go_num, hs⟩
          case measure => simp [intOf]; omega
    · obtain rfl : k = all.length := by omega
      go_upto_region 35 with fail
      exact cuts35 hs0.out HR.out (by omega) hn HQ.out (by assumption)
end Go.Proofs.Ytmhojaiajhdlcaa
namespace Go.Proofs.Ytmhojaiajhdlcaa
open Go.RowKit
set_option linter.unusedSimpArgs false
set_option linter.unusedVariables false
noncomputable def reg15 : Code := regOf 15 Try.f4.body
noncomputable def rest15 : Code := restOf 15 Try.f4.body
theorem within_i (n m : Int) (h : 0 ≤ m) (hm : m ≤ 1000000) : I64 (within n 0 m) := by
  have hp : 0 < m - 0 + 1 := by omega
  have h1 := Int.emod_nonneg n (b := m - 0 + 1) (by omega)
  have h2 := Int.emod_lt_of_pos n hp
  unfold within I64
  constructor <;> omega
set_option maxRecDepth 100000 in
set_option maxHeartbeats 8000000 in
theorem cuts15 {w W : World} {gd gl m0 B : Nat} {F G : List Nat} {all l1 : List Rec} {s0 : DS} {cut : Int} {ag : List Int} {a3 : Option Addr} {k3 : Nat} {x0 x1 x4 x5 x6 x7 x8 x11 x12 x14 x15 x16 x17 x18 x19 x20 x21 x22 x23 x24 x25 x26 x27 x28 x29 x30 x31 x32 x33 x34 x35 x36 x37 x38 x39 x40 x41 x42 x43 x44 x45 x46 x47 x48 x49 x50 x51 x52 x53 x54 x55 x56 x57 x58 x59 x60 x61 x62 x63 x64 x65 x66 x67 x68 x69 x70 x71 x72 x73 x74 x75 x76 x77 x78 x79 x80 x81 x82 x83 x84 x85 x86 x87 x88 x89 x90 x91 x92 x93 x94 x95 x96 x97 x98 x99 x100 x101 x102 x103 x104 x105 x106 x107 x108 x109 x110 x111 x112 x113 x114 x115 x116 x117 x118 x119 x120 x121 x122 x123 x124 x125 x126 x127 x128 x129 x130 x131 x132 x133 x134 x135 x136 x137 x138 x139 x140 x141 x142 x143 x144 x145 x146 x147 x148 x149 x150 x151 x152 x153 x154 x155 x156 x157 x158 x159 x160 x161 x162 x163 x164 x165 x166 x167 x168 x169 x170 x171 x172 x173 x174 x175 x176 x177 x178 x179 x180 x181 x182 x183 x184 x185 x186 x187 x188 x189 x190 x191 x192 x193 x194 x195 x196 x197 : Value} {Q : Exit → Act → World → Prop} (h : LD w W gd gl F G all s0) (hp : PI all (Fr l1).length B s0) (hx : ∃ x, all = l1 ++ x) (hm0 : l1.length = m0) (hB : B ≤ 5000) (hn : all.length ≤ 20)
    (hcu : I64 cut) (hag : Rd iv w (.slice a3 ag.length k3) ag) (hgi : ∀ x ∈ ag, I64 x)
    (hQ : ∀ (y0 y1 y2 y3 y4 y5 y6 y7 y9 y10 y11 y12 y13 y14 y15 y16 y17 y18 y19 y20 y21 y22 y23 y24 y25 y26 y27 y28 y29 y30 y31 y32 y33 y34 y35 y36 y37 y38 y39 y40 y41 y42 y43 y44 y45 y46 y47 y48 y49 y50 y51 y52 y53 y54 y55 y56 y57 y58 y59 y60 y61 y62 y63 y64 y65 y66 y67 y68 y69 y70 y71 y72 y73 y74 y75 y76 y77 y78 y79 y80 y81 y82 y83 y84 y85 y86 y87 y88 y89 y90 y91 y92 y93 y94 y95 y96 y97 y98 y99 y100 y101 y102 y103 y104 y105 y106 y107 y108 y109 y110 y111 y112 y113 y114 y115 y116 y117 y118 y119 y120 y121 y122 y123 y124 y125 y126 y127 y128 y129 y130 y131 y132 y133 y134 y135 y136 y137 y138 y139 y140 y141 y142 y143 y144 y145 y146 y147 y148 y149 y150 y151 y152 y153 y154 y155 y156 y157 y158 y159 y160 y161 y162 y163 y164 y165 y166 y167 y168 y169 y170 y171 y172 y173 y174 y175 y176 y177 y178 y179 y180 y181 y182 y183 y184 y185 y186 y187 y188 y189 y190 y191 y192 y193 y194 y195 y196 y197 : Value) (w' : World), Upd [] w w' → Q .ret ⟨#[y0, y1, y2, y3, y4, y5, y6, y7, .bool true, y9, y10, y11, y12, y13, y14, y15, y16, y17, y18, y19, y20, y21, y22, y23, y24, y25, y26, y27, y28, y29, y30, y31, y32, y33, y34, y35, y36, y37, y38, y39, y40, y41, y42, y43, y44, y45, y46, y47, y48, y49, y50, y51, y52, y53, y54, y55, y56, y57, y58, y59, y60, y61, y62, y63, y64, y65, y66, y67, y68, y69, y70, y71, y72, y73, y74, y75, y76, y77, y78, y79, y80, y81, y82, y83, y84, y85, y86, y87, y88, y89, y90, y91, y92, y93, y94, y95, y96, y97, y98, y99, y100, y101, y102, y103, y104, y105, y106, y107, y108, y109, y110, y111, y112, y113, y114, y115, y116, y117, y118, y119, y120, y121, y122, y123, y124, y125, y126, y127, y128, y129, y130, y131, y132, y133, y134, y135, y136, y137, y138, y139, y140, y141, y142, y143, y144, y145, y146, y147, y148, y149, y150, y151, y152, y153, y154, y155, y156, y157, y158, y159, y160, y161, y162, y163, y164, y165, y166, y167, y168, y169, y170, y171, y172, y173, y174, y175, y176, y177, y178, y179, y180, y181, y182, y183, y184, y185, y186, y187, y188, y189, y190, y191, y192, y193, y194, y195, y196, y197], []⟩ w') {K : Act → World → Prop} (hK : ∀ a w, Code.wp Try.prog rest15 Q a w → K a w) : Code.wp Try.prog reg15 (Exit.then K Q) ⟨#[x0, x1, .int .i64 cut, .slice a3 ag.length k3, x4, x5, x6, x7, x8, .pointer (some ⟨gd, 0, none⟩), .pointer (some ⟨gl, 0, none⟩), x11, x12, .int .i64 m0, x14, x15, x16, x17, x18, x19, x20, x21, x22, x23, x24, x25, x26, x27, x28, x29, x30, x31, x32, x33, x34, x35, x36, x37, x38, x39, x40, x41, x42, x43, x44, x45, x46, x47, x48, x49, x50, x51, x52, x53, x54, x55, x56, x57, x58, x59, x60, x61, x62, x63, x64, x65, x66, x67, x68, x69, x70, x71, x72, x73, x74, x75, x76, x77, x78, x79, x80, x81, x82, x83, x84, x85, x86, x87, x88, x89, x90, x91, x92, x93, x94, x95, x96, x97, x98, x99, x100, x101, x102, x103, x104, x105, x106, x107, x108, x109, x110, x111, x112, x113, x114, x115, x116, x117, x118, x119, x120, x121, x122, x123, x124, x125, x126, x127, x128, x129, x130, x131, x132, x133, x134, x135, x136, x137, x138, x139, x140, x141, x142, x143, x144, x145, x146, x147, x148, x149, x150, x151, x152, x153, x154, x155, x156, x157, x158, x159, x160, x161, x162, x163, x164, x165, x166, x167, x168, x169, x170, x171, x172, x173, x174, x175, x176, x177, x178, x179, x180, x181, x182, x183, x184, x185, x186, x187, x188, x189, x190, x191, x192, x193, x194, x195, x196, x197], []⟩ W := by
  conv => arg 2; whnf
  change ∀ a w, Code.wp _ (Code.seq _ _) Q a w → K a w at hK
  have HQ := Lib.hid hQ
  have hci := hp.ci hx
  rw [hm0] at hci
  have hsm := hci.small (by omega)
  have hBl := hci.inv.lg
  have HCI := Lib.hid hci
  have HML := Lib.hid hsm.2.2
  have HLG : Hid (s0.log.length ≤ 5000) := by unfold Hid; omega
  have HCU : Hid (-9223372036854775808 ≤ cut ∧ cut ≤ 9223372036854775807) := hcu
  obtain ⟨a9, c9', he9, hlc, hmc, hca⟩ := hag
  injection he9 with e1 e2 e3
  subst e1; subst e3
  have HCA := Lib.hid hca
  have HGI := Lib.hid hgi
  have hagm : ag.length ≤ 9223372036854775807 := by unfold maxLen at hmc; omega
  have H0 := Lib.hid h
  clear h hQ hp hx hm0 hci hsm hBl hcu hca hgi hlc hmc e2
  go_wp2_with fail
  (with_reducible refine (cListNew H0.out (by omega)).mono ?_)
  rintro e w1 ⟨a15, k15, rfl, h1⟩
  have H1 := Lib.hid h1.da
  clear h1 H0
  go_wp2_with fail
  (with_reducible refine (cCount H1.out).mono ?_)
  rintro e w2 ⟨rfl, rfl⟩
  go_wp2_with fail
  (with_reducible refine (within_any _ _ _ _ HCU.out (by omega) (by omega) (by have := HLG.out; omega)).mono ?_)
  rintro e w2 ⟨rfl, rfl⟩
  have HWI := Lib.hid (within_i cut s0.log.length (by omega) (by have := HLG.out; omega))
  go_wp2_with fail
  (with_reducible refine (cBack H1.out _ HWI.out (by have := HML.out; omega)).mono ?_)
  rintro e w3 ⟨rfl, h3⟩
  have H3 := Lib.hid h3
  have HC3 := Lib.hid (HCI.out.back (within cut 0 s0.log.length))
  clear h3 H1 HCI HML HLG HCU HWI
  generalize dBack s0 (within cut 0 s0.log.length) = s3 at *
  go_wp2_with fail
  go_loopw [16] (fun i wr => ∃ (k : Nat) (s : DS), k ≤ 4 ∧ k ≤ ag.length ∧ i = .int .i64 k ∧ Hid (DA w wr gd s (.slice a15 all.length k15) all) ∧ Hid (CI all m0 0 s)) (fun i _ => 4 - (intOf i).toNat)
  case atStart => exact ⟨0, s3, by omega, by omega, rfl, H3, HC3⟩
  case round =>
    clear H3 HC3
    obtain ⟨k, s, hk, hkl, rfl, hs, hC⟩ := hrel
    have hend : (k < ag.length ∧ k < 4) ∨ (k = ag.length ∧ Hid (k ≤ 4)) ∨ (k = 4 ∧ k < ag.length) := by unfold Hid; omega
    rcases hend with ⟨hlt, h4⟩ | ⟨hke, -⟩ | ⟨hke, hlt⟩
    · obtain ⟨ga, goff, rfl, hca⟩ := HCA.out (by intro h; simp [h] at hlt)
      have q1 : (k : Int) < ag.length := by omega
      have q2 : (k : Int) < 4 := by omega
      have q3 : (0 : Int) ≤ k := by omega
      have HD : Hid (w.cell? ⟨ga, goff + k, none⟩ = some (iv (nth ag k))) := hca k hlt
      have HXI : Hid (-9223372036854775808 ≤ nth ag k ∧ nth ag k ≤ 9223372036854775807) := HGI.out _ (by rw [nth_get _ _ hlt]; exact List.getElem_mem _)
      generalize nth ag k = x at *
      obtain ⟨M, s', ho, hr⟩ := hC.out.open_
      have hsm := hC.out.small (by omega)
      have HSM := Lib.hid hsm
      have HO := Lib.hid ho
      have HR := Lib.hid hr
      clear hca hsm ho hr hC
      go_wp2_with fail
      (with_reducible refine (cOpen hs.out ⟨by have := HSM.out.1; omega, by have := HSM.out.2.1; omega⟩ HO.out).mono ?_)
      rintro e w5 ⟨gh, rfl, h5⟩
      have HDA : Hid (∀ W', Upd [] w5 W' → DA w W' gd s' (.slice a15 all.length k15) all) := fun W' hu => h5.da.upd0 hu
      have HC5 := Lib.hid HR.out.ci
      have HML5 : Hid (s'.mark.length ≤ 100000) := by have := (HR.out.ci.small (by omega)).2.2; unfold Hid; omega
      have HLG5 : Hid ((s'.log.length : Int) ≤ 1000) := by have := HR.out.ci.inv.lg; unfold Hid; omega
      have HWI : Hid (I64 (within x 0 s'.log.length)) := within_i x s'.log.length (by omega) (by have := HLG5.out; omega)
      have cw : w5.cell? ⟨ga, goff + k, none⟩ = some (.int .i64 x) := h5.old.cell HD.out (by simp)
      clear h5 hs HSM HO HR
      go_wp2_with fail
      have ru := Upd.refl [] w5
      have HKP : Hid (∀ W', Upd [] w W' → W'.cell? ⟨ga, goff + k, none⟩ = some (.int .i64 x)) := fun W' hu => hu.cell HD.out (by simp)
      go_region_held3 (fun w' => w'.cell? ⟨ga, goff + k, none⟩ = some (.int .i64 x)) (first | assumption | exact HKP.out _ (DA.old h9) | go_keep)
        (first
          | (go_at_call 23; (with_reducible refine (cCount (HDA.out _ ?_)).mono ?_); (repeat (first | exact Upd.refl _ _ | apply Upd.drew | apply Upd.drewN)); (rintro _ _ ⟨rfl, rfl⟩; dsimp only))
          | (go_at_call 22; (with_reducible refine (within_any _ _ _ _ HXI.out (by omega) (by omega) (by have := HLG5.out; omega)).mono ?_); (rintro _ _ ⟨rfl, rfl⟩; dsimp only))
          | (go_at_call 21; (with_reducible refine (cBack (HDA.out _ ?_) _ HWI.out HML5.out).mono ?_); (repeat (first | exact Upd.refl _ _ | apply Upd.drew | apply Upd.drewN)); (rintro _ w9 ⟨rfl, h9⟩; dsimp only)))
      all_goals
        have H9 := Lib.hid h9
        clear h9 cw
        go_wp2_with fail
        go_roundw
        case rel => exact ⟨k + 1, _, by omega, by omega, by go_num, H9, HC5.out.back _⟩
        case measure => simp [intOf]; omega
    · subst hke
      go_upto_region 24 with fail
      exact cuts24 hs.out hC.out (by omega) hn HQ.out (by assumption)
    · subst hke
      have q1 : ((4 : Nat) : Int) < ag.length := by omega
      go_upto_region 24 with fail
      exact cuts24 hs.out hC.out (by omega) hn HQ.out (by assumption)
end Go.Proofs.Ytmhojaiajhdlcaa
namespace Go.Proofs.Ytmhojaiajhdlcaa
open Go.ChangeShapes Go.WideShapes Go.ChangeAt Go.RowKit Go.Deep
set_option linter.unusedSimpArgs false
set_option linter.unusedVariables false
section
variable {H : Type} {enc : TypeId × Value → H} {P : Program} {w : World} {b0 : Nat} {held : Bool}
theorem el_fields {e : TypeId} {fs : Array Field} {n : Nat} {cs : List Value} {y : DataW H × List MemPlace} (he : P.underlying e = some (.struct fs)) (hone : oneCellFields P fs = true) (hC : cs.length = fs.size)
    (h : DataW.trod enc P w 0 (fun _ => true) held n e cs = some y) (j : Nat) (f : Field) (hj : fs[j]? = some f) : ∃ (n' : Nat) (v : Value) (z : DataW H × List MemPlace), cs[j]? = some v ∧ DataW.trod enc P w 0 (fun _ => true) held n' f.type [v] = some z := by
  obtain ⟨ys, n', hn', hy, hlen, hyl, hf⟩ := DataW.trod_struct he h
  obtain ⟨ho, hk⟩ := hone_of hone j f hj
  have hjl : j < fs.size := (Array.getElem?_eq_some_iff.1 hj).1
  have h1 := hf j f hj
  rw [ho, hk] at h1
  have hone' : (cs.drop j).take 1 = [cs[j]'(by omega)] := by
    rw [List.drop_eq_getElem_cons (by omega)]; rfl
  rw [hone'] at h1
  have hys : ys[j]? = some (ys[j]'(by omega)) := List.getElem?_eq_getElem (by omega)
  exact ⟨n', _, _, List.getElem?_eq_getElem (by omega), h1.trans hys⟩
theorem open_rdN {α : Type} [Inhabited α] (sz : Nat) (c : α → List Value) (good : α → Prop) {t e : TypeId} {v : Value} {d : DataW H} {p : List MemPlace} (ht : P.underlying t = some (.slice e)) (hc : P.cellsOf e = sz) (hpos : 0 < sz)
    (hel : ∀ n cs y, cs.length = sz → DataW.trod enc P w 0 (fun _ => true) held n e cs = some y → ∃ x, cs = c x ∧ good x)
    (hval : Value.okWide P w .any b0 t v) (h : DataW.Trod enc P w 0 (fun _ => true) held t v d p) :
    ∃ l : List α, RdN sz c w v l ∧ (∀ x ∈ l, good x) ∧ (∀ (ts : List TypeId) (ds : List (DataW H)) (j : Nat), (DataW.weightsEach P ts ds).all (· ≤ reachBytes) = true → ts[j]? = some t → ds[j]? = some d → l.length * P.bytesOf e ≤ reachBytes) ∧ DLen d l.length := by
  obtain ⟨a0, len0, cap0, rfl⟩ := okWide_slice ht hval
  obtain ⟨fuel, hf⟩ := h
  rcases open_slice ht hf with ⟨hcs, hx⟩ | ⟨a, len, cap, m, n, D, Pl, hcs, hb, hl, hm, hmm, hx, hi⟩
  · simp [Value.cells] at hcs
    obtain ⟨rfl, rfl, rfl⟩ := hcs
    exact ⟨[], ⟨none, 0, rfl, Nat.le_refl _, Nat.zero_le _, fun q => absurd rfl q⟩, by simp, by intros; simp, .inl rfl⟩
  · simp [Value.cells] at hcs
    obtain ⟨rfl, rfl, rfl⟩ := hcs
    simp only [if_true] at hmm
    subst hmm
    obtain ⟨l, hl', hp⟩ := exists_list len0 (fun i x => w.cells? 0 (a.add (i * sz)) sz = some (c x) ∧ good x) (fun i hi' => by
      obtain ⟨cs', hc1, hc2⟩ := hi i (by omega)
      rw [hc] at hc1
      obtain ⟨_, hcl, _⟩ := World.cells?_some hc1
      obtain ⟨x, rfl, hg⟩ := hel _ _ _ hcl hc2
      exact ⟨x, hc1, hg⟩)
    refine ⟨l, ?_, ?_, ?_, ?_⟩
    · refine ⟨_, _, by rw [hl'], by omega, hm, fun hne => ?_⟩
      have hpos' : 0 < len0 := by rw [← hl']; exact List.length_pos_iff.2 hne
      obtain ⟨b, off, spot⟩ := a
      have hspot : spot = none := by
        have h0 := (hp 0 (by omega)).1
        obtain ⟨_, hcl, hat⟩ := World.cells?_some h0
        have h1 := hat 0 hpos
        rw [List.getElem?_eq_getElem (by omega)] at h1
        simpa [Addr.add] using World.cell?_spot h1
      subst hspot
      refine ⟨b, off, rfl, fun j hj i hi' => ?_⟩
      obtain ⟨_, hcl, hat⟩ := World.cells?_some (hp j (by omega)).1
      have h1 := hat i hi'
      rw [add_none, add_none] at h1
      rw [← Nat.add_assoc]; exact h1
    · intro x hx'
      obtain ⟨i, hi', rfl⟩ := List.mem_iff_getElem.1 hx'
      have := (hp i (by omega)).2
      rwa [nth_get l i hi'] at this
    · intro ts ds j hall htj hdj
      have hd := congrArg Prod.fst hx
      simp only at hd
      rw [hd] at hdj
      have := sized_slice hall htj hdj ht
      simp only [List.length_map, List.length_range] at this
      exact Nat.le_trans (Nat.mul_le_mul_right _ (by omega)) this
    · exact .inr ⟨_, _, congrArg Prod.fst hx, by simp [hl']⟩
end
end Go.Proofs.Ytmhojaiajhdlcaa
namespace Go.Proofs.Ytmhojaiajhdlcaa
open Go.ChangeShapes Go.WideShapes Go.ChangeAt Go.RowKit Go.Deep
set_option linter.unusedSimpArgs false
set_option linter.unusedVariables false
section
variable {H : Type} {enc : TypeId × Value → H} {P : Program} {w : World} {held : Bool}
theorem el_part {e : TypeId} {fs : Array Field} {n : Nat} {cs : List Value} {y : DataW H × List MemPlace} (he : P.underlying e = some (.struct fs))
    (h : DataW.trod enc P w 0 (fun _ => true) held n e cs = some y) (j : Nat) (f : Field) (hj : fs[j]? = some f) : ∃ (n' : Nat) (z : DataW H × List MemPlace), DataW.trod enc P w 0 (fun _ => true) held n' f.type ((cs.drop f.offset).take (P.cellsOf f.type)) = some z := by
  obtain ⟨ys, n', hn', hy, hlen, hyl, hf⟩ := DataW.trod_struct he h
  have hjl : j < fs.size := (Array.getElem?_eq_some_iff.1 hj).1
  exact ⟨n', _, (hf j f hj).trans (List.getElem?_eq_getElem (by omega))⟩
theorem el_elem {t e : TypeId} {k n : Nat} {cs : List Value} {y : DataW H × List MemPlace} (he : P.underlying t = some (.array k e))
    (h : DataW.trod enc P w 0 (fun _ => true) held n t cs = some y) (i : Nat) (hi : i < k) : ∃ (m : Nat) (z : DataW H × List MemPlace), DataW.trod enc P w 0 (fun _ => true) held m e ((cs.drop (i * P.cellsOf e)).take (P.cellsOf e)) = some z := by
  obtain ⟨ys, m, hm, hy, hlen, hyl, hf⟩ := DataW.trod_array he h
  exact ⟨m, _, (hf i hi).trans (List.getElem?_eq_getElem (by omega))⟩
end
theorem cells_intR : Try.prog.cellsOf 3 = 1 := by kernel_rfl
theorem cells_strR : Try.prog.cellsOf 9 = 1 := by kernel_rfl
theorem cells_keyR : Try.prog.cellsOf 29 = 4 := by kernel_rfl
theorem cells_capsR : Try.prog.cellsOf 31 = 10 := by kernel_rfl
theorem cells_recR : Try.prog.cellsOf 33 = 15 := by kernel_rfl
set_option maxRecDepth 100000 in
theorem el_rec {H : Type} {enc : TypeId × Value → H} {w : World} (n : Nat) (cs : List Value) (y : DataW H × List MemPlace) (hl : cs.length = 15) (h : DataW.trod enc Try.prog w 0 (fun _ => true) true n 33 cs = some y) :
    ∃ r : Rec, cs = recCells r ∧ Rec64 r := by
  obtain ⟨n0, z0, t0⟩ := el_part Try.underlying33 h 0 _ rfl
  obtain ⟨n1, z1, t1⟩ := el_part Try.underlying33 h 1 _ rfl
  obtain ⟨n2, z2, t2⟩ := el_part Try.underlying33 h 2 _ rfl
  match cs, hl with
  | [c0, c1, c2, c3, c4, c5, c6, c7, c8, c9, c10, c11, c12, c13, c14], _ =>
    have t0 : DataW.trod enc Try.prog w 0 (fun _ => true) true n0 29 [c0, c1, c2, c3] = some z0 := t0
    have t1 : DataW.trod enc Try.prog w 0 (fun _ => true) true n1 3 [c4] = some z1 := t1
    have t2 : DataW.trod enc Try.prog w 0 (fun _ => true) true n2 31 [c5, c6, c7, c8, c9, c10, c11, c12, c13, c14] = some z2 := t2
    obtain ⟨a0, y0, u0⟩ := el_part Try.underlying29 t0 0 _ rfl
    obtain ⟨a1, y1, u1⟩ := el_part Try.underlying29 t0 1 _ rfl
    obtain ⟨a2, y2, u2⟩ := el_part Try.underlying29 t0 2 _ rfl
    obtain ⟨a3, y3, u3⟩ := el_part Try.underlying29 t0 3 _ rfl
    have u0 : DataW.trod enc Try.prog w 0 (fun _ => true) true a0 3 [c0] = some y0 := u0
    have u1 : DataW.trod enc Try.prog w 0 (fun _ => true) true a1 3 [c1] = some y1 := u1
    have u2 : DataW.trod enc Try.prog w 0 (fun _ => true) true a2 3 [c2] = some y2 := u2
    have u3 : DataW.trod enc Try.prog w 0 (fun _ => true) true a3 9 [c3] = some y3 := u3
    obtain ⟨k0, rfl, g0⟩ := el_int Try.underlying3 _ _ _ u0
    obtain ⟨k1, rfl, g1⟩ := el_int Try.underlying3 _ _ _ u1
    obtain ⟨k2, rfl, g2⟩ := el_int Try.underlying3 _ _ _ u2
    obtain ⟨s, hs, -, -⟩ := DataW.trod_string Try.underlying9 u3
    have hs : [c3] = [Value.string s] := hs
    obtain rfl : c3 = .string s := by simpa using hs
    obtain ⟨k4, rfl, g4⟩ := el_int Try.underlying3 _ _ _ t1
    obtain ⟨b0, x0, q0⟩ := el_elem Try.underlying31 t2 0 (by omega)
    have q0 : DataW.trod enc Try.prog w 0 (fun _ => true) true b0 3 [c5] = some x0 := q0
    obtain ⟨e0, rfl, g5⟩ := el_int Try.underlying3 _ _ _ q0
    obtain ⟨b1, x1, q1⟩ := el_elem Try.underlying31 t2 1 (by omega)
    have q1 : DataW.trod enc Try.prog w 0 (fun _ => true) true b1 3 [c6] = some x1 := q1
    obtain ⟨e1, rfl, g6⟩ := el_int Try.underlying3 _ _ _ q1
    obtain ⟨b2, x2, q2⟩ := el_elem Try.underlying31 t2 2 (by omega)
    have q2 : DataW.trod enc Try.prog w 0 (fun _ => true) true b2 3 [c7] = some x2 := q2
    obtain ⟨e2, rfl, g7⟩ := el_int Try.underlying3 _ _ _ q2
    obtain ⟨b3, x3, q3⟩ := el_elem Try.underlying31 t2 3 (by omega)
    have q3 : DataW.trod enc Try.prog w 0 (fun _ => true) true b3 3 [c8] = some x3 := q3
    obtain ⟨e3, rfl, g8⟩ := el_int Try.underlying3 _ _ _ q3
    obtain ⟨b4, x4, q4⟩ := el_elem Try.underlying31 t2 4 (by omega)
    have q4 : DataW.trod enc Try.prog w 0 (fun _ => true) true b4 3 [c9] = some x4 := q4
    obtain ⟨e4, rfl, g9⟩ := el_int Try.underlying3 _ _ _ q4
    obtain ⟨b5, x5, q5⟩ := el_elem Try.underlying31 t2 5 (by omega)
    have q5 : DataW.trod enc Try.prog w 0 (fun _ => true) true b5 3 [c10] = some x5 := q5
    obtain ⟨e5, rfl, g10⟩ := el_int Try.underlying3 _ _ _ q5
    obtain ⟨b6, x6, q6⟩ := el_elem Try.underlying31 t2 6 (by omega)
    have q6 : DataW.trod enc Try.prog w 0 (fun _ => true) true b6 3 [c11] = some x6 := q6
    obtain ⟨e6, rfl, g11⟩ := el_int Try.underlying3 _ _ _ q6
    obtain ⟨b7, x7, q7⟩ := el_elem Try.underlying31 t2 7 (by omega)
    have q7 : DataW.trod enc Try.prog w 0 (fun _ => true) true b7 3 [c12] = some x7 := q7
    obtain ⟨e7, rfl, g12⟩ := el_int Try.underlying3 _ _ _ q7
    obtain ⟨b8, x8, q8⟩ := el_elem Try.underlying31 t2 8 (by omega)
    have q8 : DataW.trod enc Try.prog w 0 (fun _ => true) true b8 3 [c13] = some x8 := q8
    obtain ⟨e8, rfl, g13⟩ := el_int Try.underlying3 _ _ _ q8
    obtain ⟨b9, x9, q9⟩ := el_elem Try.underlying31 t2 9 (by omega)
    have q9 : DataW.trod enc Try.prog w 0 (fun _ => true) true b9 3 [c14] = some x9 := q9
    obtain ⟨e9, rfl, g14⟩ := el_int Try.underlying3 _ _ _ q9
    refine ⟨⟨⟨k0, k1, k2, s⟩, k4, ⟨[e0, e1, e2, e3, e4, e5, e6, e7, e8, e9], rfl⟩⟩, rfl, ⟨i64_of g0, i64_of g1, i64_of g2, i64_of g4, fun c hc => ?_⟩⟩
    simp only [List.mem_cons, List.not_mem_nil, or_false] at hc
    rcases hc with rfl | rfl | rfl | rfl | rfl | rfl | rfl | rfl | rfl | rfl
    · exact i64_of g5
    · exact i64_of g6
    · exact i64_of g7
    · exact i64_of g8
    · exact i64_of g9
    · exact i64_of g10
    · exact i64_of g11
    · exact i64_of g12
    · exact i64_of g13
    · exact i64_of g14
set_option maxRecDepth 100000 in
/-- Records that are handed in. -/
theorem open_recs {H : Type} {enc : TypeId × Value → H} {w : World} {b0 : Nat} {v : Value} {d : DataW H} {p : List MemPlace} (hval : Value.okWide Try.prog w .any b0 43 v) (h : DataW.Trod enc Try.prog w 0 (fun _ => true) true 43 v d p) :
    ∃ l : List Rec, RdN 15 recCells w v l ∧ ∀ x ∈ l, Rec64 x := by
  obtain ⟨l, h1, h2, -⟩ := open_rdN 15 recCells Rec64 Try.underlying43 cells_recR (by omega) (fun n cs y hl h => el_rec n cs y hl h) hval h
  exact ⟨l, h1, h2⟩
end Go.Proofs.Ytmhojaiajhdlcaa
namespace Go.Proofs.Ytmhojaiajhdlcaa
open Go.RowKit
set_option linter.unusedSimpArgs false
set_option linter.unusedVariables false
theorem mAdd {w0 w : World} {gd gl : Nat} {F G : List Nat} {rl rl' : List Rec} {s s' : DS} (h1 : LD w0 w gd gl F G rl s) (ino gen at_ : Int) (rule : ByteArray) (kind c0 c1 c2 c3 c4 c5 c6 c7 c8 c9 : Int) (hz : s.now.length ≤ 4999 ∧ s.log.length ≤ 500000000) (hr : rl.length ≤ 100000000) {b : Bool} {er : Int} (he : lAdd rl s (mkRec ino gen at_ rule kind c0 c1 c2 c3 c4 c5 c6 c7 c8 c9) = ((b, er), rl', s')) :
    Calls Try.prog 12 #[.pointer (some ⟨gl, 0, none⟩), .agg #[.int .i64 ino, .int .i64 gen, .int .i64 at_, .string rule, .int .i64 kind, .int .i64 c0, .int .i64 c1, .int .i64 c2, .int .i64 c3, .int .i64 c4, .int .i64 c5, .int .i64 c6, .int .i64 c7, .int .i64 c8, .int .i64 c9]] w fun e w' => e = .returned (.tuple #[.bool b, .int .i64 er]) ∧ ∃ F' G', LD w0 w' gd gl F' G' rl' s' := by
  have h3 := ledAdd_c h1 ino gen at_ rule kind c0 c1 c2 c3 c4 c5 c6 c7 c8 c9 hz.1 hz.2 hr
  rw [he] at h3
  refine h3.mono ?_
  rintro e w' ⟨rfl, F', G', k1, k2, k3, k4⟩
  exact ⟨rfl, F', G', k1⟩
theorem mLen {w0 w : World} {gd gl : Nat} {F G : List Nat} {rl : List Rec} {s : DS} (h : LD w0 w gd gl F G rl s) : Calls Try.prog 13 #[.pointer (some ⟨gl, 0, none⟩)] w fun e w' => e = .returned (.int .i64 (rl.length : Int)) ∧ w = w' := by
  obtain ⟨gm, lv, hl, -⟩ := h.lc
  exact ledLen_any hl
theorem mMark {w0 w : World} {gd gl : Nat} {F G : List Nat} {rl : List Rec} {s : DS} (h : LD w0 w gd gl F G rl s) (hl : s.now.length ≤ 100000) : Calls Try.prog 20 #[.pointer (some ⟨gd, 0, none⟩)] w fun e w' => e = .returned (.tuple #[]) ∧ ∃ F' G', LD w0 w' gd gl F' G' rl (dMark s) := by
  refine (dMark_any h.dd hl).mono ?_
  rintro e w' ⟨rfl, ho⟩
  obtain ⟨G', k1, -, -⟩ := h.disk (Upd.refl [] w) ho
  exact ⟨rfl, F, G', k1⟩
theorem lopen_zero : lOpen ⟨[], [], []⟩ = ([], ⟨[], [], []⟩) := by
  have := lopen_all [] (fun r h => by simp at h) Uniq.nil (B := 0) (lo := 0) LInv.zero (.inl ⟨rfl, rfl⟩)
  exact Prod.ext this.1 this.2
set_option maxRecDepth 100000 in
set_option maxHeartbeats 8000000 in
theorem ledgerCuts_any (w : World) (vl : Value) (l : List Rec) (hl : RdN 15 recCells w vl l) (vm : Value) (more : List Rec) (hm : RdN 15 recCells w vm more) (cut : Int) (hcu : I64 cut) (vg : Value) (ag : List Int) (hag : Rd iv w vg ag) (hgi : ∀ x ∈ ag, I64 x) (hz : ag.length * 8 ≤ 140737488351232) :
    Calls Try.prog 4 #[vl, vm, .int .i64 cut, vg] w fun e w' => e = .returned (.bool true) ∧ Upd [] w w' := by
  obtain ⟨a0, k0, rfl, hlc0, hmc0, hca0⟩ := hl
  obtain ⟨a1, k1, rfl, hlc1, hmc1, hca1⟩ := hm
  have HAG := Lib.hid hag
  obtain ⟨a3, k3, rfl, -⟩ := hag
  have hl9 : l.length ≤ 9223372036854775807 := by unfold maxLen at hmc0; omega
  have hm9 : more.length ≤ 9223372036854775807 := by unfold maxLen at hmc1; omega
  have HC0 := Lib.hid hca0
  have HC1 := Lib.hid hca1
  have HCU := Lib.hid hcu
  have HGI := Lib.hid hgi
  clear hlc0 hmc0 hca0 hlc1 hmc1 hca1 hcu hgi
  go_enter Try.func4, Try.ntmps4
  go_wp2_with fail
  (with_reducible refine (dNew_any w w (Upd.refl [] w)).mono ?_)
  rintro e w1 ⟨gd, G1, rfl, h1, hu1, hf1⟩
  have H1 := Lib.hid h1
  clear h1 hu1 hf1
  go_wp2_with fail
  (with_reducible refine (ledOpen_any H1.out (by decide) (by decide)).mono ?_)
  rw [lopen_zero]
  rintro e w2 ⟨gl, rfl, F2, G2, h2, hu2, -, -⟩
  have H2 := Lib.hid h2
  clear h2 hu2 H1
  dsimp only at H2
  go_wp2_with fail
  go_loopw [12] (fun i wr => ∃ (k : Nat) (F G : List Nat) (rl : List Rec) (s : DS), k ≤ 12 ∧ k ≤ l.length ∧ i = .int .i64 k ∧ rl.length ≤ k ∧ Hid (LD w wr gd gl F G rl s) ∧ Hid (PI rl 0 (300 * k) s)) (fun i _ => 12 - (intOf i).toNat)
  case atStart => exact ⟨0, F2, G2, [], _, by omega, by omega, rfl, by simp, H2, PI.zero⟩
  case round =>
    clear H2
    obtain ⟨k, F, G, rl, s, hk, hkl, rfl, hrl, hs, hP⟩ := hrel
    have hend : (k < l.length ∧ k < 12) ∨ (k = l.length ∧ Hid (k ≤ 12)) ∨ (k = 12 ∧ k < l.length) := by unfold Hid; omega
    rcases hend with ⟨hlt, h4⟩ | hend
    · obtain ⟨lb, loff, rfl, hcb⟩ := HC0.out (by intro h; simp [h] at hlt)
      have hca : ∀ i, i < 15 → w.cell? ⟨lb, loff + (k * 15 + i), none⟩ = (recCells (nth l k))[i]? := hcb k hlt
      obtain ⟨ino, gen, at_, rule, kind, c0, c1, c2, c3, c4, c5, c6, c7, c8, c9, hx⟩ := rec_mk (nth l k)
      rw [hx] at hca
      have hold := hs.out.old
      have d0 : wr.cell? ⟨lb, loff + k * 15, none⟩ = some (.int .i64 ino) := hold.cell (hca 0 (by omega)) (by simp)
      have d1 : wr.cell? ⟨lb, loff + k * 15 + 1, none⟩ = some (.int .i64 gen) := hold.cell (hca 1 (by omega)) (by simp)
      have d2 : wr.cell? ⟨lb, loff + k * 15 + 2, none⟩ = some (.int .i64 at_) := hold.cell (hca 2 (by omega)) (by simp)
      have d3 : wr.cell? ⟨lb, loff + k * 15 + 3, none⟩ = some (.string rule) := hold.cell (hca 3 (by omega)) (by simp)
      have d4 : wr.cell? ⟨lb, loff + k * 15 + 4, none⟩ = some (.int .i64 kind) := hold.cell (hca 4 (by omega)) (by simp)
      have d5 : wr.cell? ⟨lb, loff + k * 15 + 5, none⟩ = some (.int .i64 c0) := hold.cell (hca 5 (by omega)) (by simp)
      have d6 : wr.cell? ⟨lb, loff + k * 15 + 6, none⟩ = some (.int .i64 c1) := hold.cell (hca 6 (by omega)) (by simp)
      have d7 : wr.cell? ⟨lb, loff + k * 15 + 7, none⟩ = some (.int .i64 c2) := hold.cell (hca 7 (by omega)) (by simp)
      have d8 : wr.cell? ⟨lb, loff + k * 15 + 8, none⟩ = some (.int .i64 c3) := hold.cell (hca 8 (by omega)) (by simp)
      have d9 : wr.cell? ⟨lb, loff + k * 15 + 9, none⟩ = some (.int .i64 c4) := hold.cell (hca 9 (by omega)) (by simp)
      have d10 : wr.cell? ⟨lb, loff + k * 15 + 10, none⟩ = some (.int .i64 c5) := hold.cell (hca 10 (by omega)) (by simp)
      have d11 : wr.cell? ⟨lb, loff + k * 15 + 11, none⟩ = some (.int .i64 c6) := hold.cell (hca 11 (by omega)) (by simp)
      have d12 : wr.cell? ⟨lb, loff + k * 15 + 12, none⟩ = some (.int .i64 c7) := hold.cell (hca 12 (by omega)) (by simp)
      have d13 : wr.cell? ⟨lb, loff + k * 15 + 13, none⟩ = some (.int .i64 c8) := hold.cell (hca 13 (by omega)) (by simp)
      have d14 : wr.cell? ⟨lb, loff + k * 15 + 14, none⟩ = some (.int .i64 c9) := hold.cell (hca 14 (by omega)) (by simp)
      have q1 : (k : Int) < l.length := by omega
      have q2 : (k : Int) < 12 := by omega
      have q3 : (0 : Int) ≤ k := by omega
      obtain ⟨b, er, rl', s', hadd, hpi, hlen, hext⟩ := hP.out.add (mkRec ino gen at_ rule kind c0 c1 c2 c3 c4 c5 c6 c7 c8 c9) (by omega)
      have HAD := Lib.hid hadd
      have HPI := Lib.hid hpi
      have HSM := Lib.hid (hP.out.small (by omega))
      clear hca hcb hx hold hadd hpi
      go_wp2_with fail
      (with_reducible refine (mAdd hs.out ino gen at_ rule kind c0 c1 c2 c3 c4 c5 c6 c7 c8 c9 ⟨HSM.out.1, HSM.out.2⟩ (by omega) HAD.out).mono ?_)
      rintro e w2 ⟨rfl, F', G', h2⟩
      have H2 := Lib.hid h2
      clear h2 hs d0 d1 d2 d3 d4 d5 d6 d7 d8 d9 d10 d11 d12 d13 d14 HSM HAD
      go_wp2_with fail
      go_roundw
      case rel => exact ⟨k + 1, F', G', rl', s', by omega, by omega, by go_num, by omega, H2, HPI⟩
      case measure => simp [intOf]; omega
    · have hexit : ¬ ((k : Int) < l.length ∧ (k : Int) < 12) := by rcases hend with ⟨q, -⟩ | ⟨q, -⟩ <;> omega
      rcases hend with ⟨hke, -⟩ | ⟨hke, hlt⟩
      · subst hke
        clear hexit
        go_wp2_with fail
        (with_reducible refine (mLen hs.out).mono ?_)
        rintro e w3 ⟨rfl, rfl⟩
        go_wp2_with fail
        (with_reducible refine (mMark hs.out (by have := (hP.out.small (by omega)).1; omega)).mono ?_)
        rintro e w4 ⟨rfl, F4, G4, h4'⟩
        have H4 := Lib.hid h4'
        have HP4 := Lib.hid hP.out.mark
        clear h4' hs hP HC0
        go_wp2_with fail
        obtain ⟨l1, hl1⟩ : ∃ x, rl = x := ⟨_, rfl⟩
        rw [hl1] at H4 HP4 hrl ⊢
        clear hl1
        generalize dMark s = s4 at *
        go_loopw [14] (fun i wr => ∃ (k : Nat) (F G : List Nat) (rl : List Rec) (s : DS), k ≤ 8 ∧ k ≤ more.length ∧ i = .int .i64 k ∧ rl.length ≤ 12 + k ∧ Hid (∃ x, rl = l1 ++ x) ∧ Hid (LD w wr gd gl F G rl s) ∧ Hid (PI rl (Fr l1).length (300 * k) s)) (fun i _ => 8 - (intOf i).toNat)
        case atStart => exact ⟨0, F4, G4, l1, s4, by omega, by omega, rfl, by omega, ⟨[], by simp⟩, H4, HP4⟩
        case round =>
          clear H4 HP4
          obtain ⟨k, F, G, rl, s, hk, hkl, rfl, hrl2, hX, hs, hP⟩ := hrel
          have hend : (k < more.length ∧ k < 8) ∨ (k = more.length ∧ Hid (k ≤ 8)) ∨ (k = 8 ∧ k < more.length) := by unfold Hid; omega
          rcases hend with ⟨hlt, h4⟩ | ⟨hke, -⟩ | ⟨hke, hlt⟩
          · obtain ⟨lb, loff, rfl, hcb⟩ := HC1.out (by intro h; simp [h] at hlt)
            have hca : ∀ i, i < 15 → w.cell? ⟨lb, loff + (k * 15 + i), none⟩ = (recCells (nth more k))[i]? := hcb k hlt
            obtain ⟨ino, gen, at_, rule, kind, c0, c1, c2, c3, c4, c5, c6, c7, c8, c9, hx⟩ := rec_mk (nth more k)
            rw [hx] at hca
            have hold := hs.out.old
            have d0 : wr.cell? ⟨lb, loff + k * 15, none⟩ = some (.int .i64 ino) := hold.cell (hca 0 (by omega)) (by simp)
            have d1 : wr.cell? ⟨lb, loff + k * 15 + 1, none⟩ = some (.int .i64 gen) := hold.cell (hca 1 (by omega)) (by simp)
            have d2 : wr.cell? ⟨lb, loff + k * 15 + 2, none⟩ = some (.int .i64 at_) := hold.cell (hca 2 (by omega)) (by simp)
            have d3 : wr.cell? ⟨lb, loff + k * 15 + 3, none⟩ = some (.string rule) := hold.cell (hca 3 (by omega)) (by simp)
            have d4 : wr.cell? ⟨lb, loff + k * 15 + 4, none⟩ = some (.int .i64 kind) := hold.cell (hca 4 (by omega)) (by simp)
            have d5 : wr.cell? ⟨lb, loff + k * 15 + 5, none⟩ = some (.int .i64 c0) := hold.cell (hca 5 (by omega)) (by simp)
            have d6 : wr.cell? ⟨lb, loff + k * 15 + 6, none⟩ = some (.int .i64 c1) := hold.cell (hca 6 (by omega)) (by simp)
            have d7 : wr.cell? ⟨lb, loff + k * 15 + 7, none⟩ = some (.int .i64 c2) := hold.cell (hca 7 (by omega)) (by simp)
            have d8 : wr.cell? ⟨lb, loff + k * 15 + 8, none⟩ = some (.int .i64 c3) := hold.cell (hca 8 (by omega)) (by simp)
            have d9 : wr.cell? ⟨lb, loff + k * 15 + 9, none⟩ = some (.int .i64 c4) := hold.cell (hca 9 (by omega)) (by simp)
            have d10 : wr.cell? ⟨lb, loff + k * 15 + 10, none⟩ = some (.int .i64 c5) := hold.cell (hca 10 (by omega)) (by simp)
            have d11 : wr.cell? ⟨lb, loff + k * 15 + 11, none⟩ = some (.int .i64 c6) := hold.cell (hca 11 (by omega)) (by simp)
            have d12 : wr.cell? ⟨lb, loff + k * 15 + 12, none⟩ = some (.int .i64 c7) := hold.cell (hca 12 (by omega)) (by simp)
            have d13 : wr.cell? ⟨lb, loff + k * 15 + 13, none⟩ = some (.int .i64 c8) := hold.cell (hca 13 (by omega)) (by simp)
            have d14 : wr.cell? ⟨lb, loff + k * 15 + 14, none⟩ = some (.int .i64 c9) := hold.cell (hca 14 (by omega)) (by simp)
            have q1 : (k : Int) < more.length := by omega
            have q2 : (k : Int) < 8 := by omega
            have q3 : (0 : Int) ≤ k := by omega
            obtain ⟨b, er, rl', s', hadd, hpi, hlen, hext⟩ := hP.out.add (mkRec ino gen at_ rule kind c0 c1 c2 c3 c4 c5 c6 c7 c8 c9) (by omega)
            have HAD := Lib.hid hadd
            have HPI := Lib.hid hpi
            have HSM := Lib.hid (hP.out.small (by omega))
            clear hca hcb hx hold hadd hpi
            go_wp2_with fail
            (with_reducible refine (mAdd hs.out ino gen at_ rule kind c0 c1 c2 c3 c4 c5 c6 c7 c8 c9 ⟨HSM.out.1, HSM.out.2⟩ (by omega) HAD.out).mono ?_)
            rintro e w2 ⟨rfl, F', G', h2⟩
            have H2 := Lib.hid h2
            clear h2 hs d0 d1 d2 d3 d4 d5 d6 d7 d8 d9 d10 d11 d12 d13 d14 HSM HAD
            go_wp2_with fail
            go_roundw
            have HX' : Hid (∃ x, rl' = l1 ++ x) := by
              obtain ⟨x, hx⟩ := hX.out
              obtain ⟨y, hy⟩ := hext
              exact ⟨x ++ y, by rw [hy, hx, List.append_assoc]⟩
            case rel => exact ⟨k + 1, F', G', rl', s', by omega, by omega, by go_num, by omega, HX', H2, HPI⟩
            case measure => simp [intOf]; omega
          · subst hke
            go_upto_region 15 with fail
            refine cuts15 hs.out hP.out hX.out rfl (by omega) (by omega) HCU.out HAG.out HGI.out ?_ (by assumption)
            intro y0 y1 y2 y3 y4 y5 y6 y7 y9 y10 y11 y12 y13 y14 y15 y16 y17 y18 y19 y20 y21 y22 y23 y24 y25 y26 y27 y28 y29 y30 y31 y32 y33 y34 y35 y36 y37 y38 y39 y40 y41 y42 y43 y44 y45 y46 y47 y48 y49 y50 y51 y52 y53 y54 y55 y56 y57 y58 y59 y60 y61 y62 y63 y64 y65 y66 y67 y68 y69 y70 y71 y72 y73 y74 y75 y76 y77 y78 y79 y80 y81 y82 y83 y84 y85 y86 y87 y88 y89 y90 y91 y92 y93 y94 y95 y96 y97 y98 y99 y100 y101 y102 y103 y104 y105 y106 y107 y108 y109 y110 y111 y112 y113 y114 y115 y116 y117 y118 y119 y120 y121 y122 y123 y124 y125 y126 y127 y128 y129 y130 y131 y132 y133 y134 y135 y136 y137 y138 y139 y140 y141 y142 y143 y144 y145 y146 y147 y148 y149 y150 y151 y152 y153 y154 y155 y156 y157 y158 y159 y160 y161 y162 y163 y164 y165 y166 y167 y168 y169 y170 y171 y172 y173 y174 y175 y176 y177 y178 y179 y180 y181 y182 y183 y184 y185 y186 y187 y188 y189 y190 y191 y192 y193 y194 y195 y196 y197 w' hu
            go_ret
            exact ⟨rfl, hu⟩
          · subst hke
            have q1 : ((8 : Nat) : Int) < more.length := by omega
            go_upto_region 15 with fail
            refine cuts15 hs.out hP.out hX.out rfl (by omega) (by omega) HCU.out HAG.out HGI.out ?_ (by assumption)
            intro y0 y1 y2 y3 y4 y5 y6 y7 y9 y10 y11 y12 y13 y14 y15 y16 y17 y18 y19 y20 y21 y22 y23 y24 y25 y26 y27 y28 y29 y30 y31 y32 y33 y34 y35 y36 y37 y38 y39 y40 y41 y42 y43 y44 y45 y46 y47 y48 y49 y50 y51 y52 y53 y54 y55 y56 y57 y58 y59 y60 y61 y62 y63 y64 y65 y66 y67 y68 y69 y70 y71 y72 y73 y74 y75 y76 y77 y78 y79 y80 y81 y82 y83 y84 y85 y86 y87 y88 y89 y90 y91 y92 y93 y94 y95 y96 y97 y98 y99 y100 y101 y102 y103 y104 y105 y106 y107 y108 y109 y110 y111 y112 y113 y114 y115 y116 y117 y118 y119 y120 y121 y122 y123 y124 y125 y126 y127 y128 y129 y130 y131 y132 y133 y134 y135 y136 y137 y138 y139 y140 y141 y142 y143 y144 y145 y146 y147 y148 y149 y150 y151 y152 y153 y154 y155 y156 y157 y158 y159 y160 y161 y162 y163 y164 y165 y166 y167 y168 y169 y170 y171 y172 y173 y174 y175 y176 y177 y178 y179 y180 y181 y182 y183 y184 y185 y186 y187 y188 y189 y190 y191 y192 y193 y194 y195 y196 y197 w' hu
            go_ret
            exact ⟨rfl, hu⟩
      · subst hke
        have q1 : ((12 : Nat) : Int) < l.length := by omega
        clear hexit
        go_wp2_with fail
        (with_reducible refine (mLen hs.out).mono ?_)
        rintro e w3 ⟨rfl, rfl⟩
        go_wp2_with fail
        (with_reducible refine (mMark hs.out (by have := (hP.out.small (by omega)).1; omega)).mono ?_)
        rintro e w4 ⟨rfl, F4, G4, h4'⟩
        have H4 := Lib.hid h4'
        have HP4 := Lib.hid hP.out.mark
        clear h4' hs hP HC0
        go_wp2_with fail
        obtain ⟨l1, hl1⟩ : ∃ x, rl = x := ⟨_, rfl⟩
        rw [hl1] at H4 HP4 hrl ⊢
        clear hl1
        generalize dMark s = s4 at *
        go_loopw [14] (fun i wr => ∃ (k : Nat) (F G : List Nat) (rl : List Rec) (s : DS), k ≤ 8 ∧ k ≤ more.length ∧ i = .int .i64 k ∧ rl.length ≤ 12 + k ∧ Hid (∃ x, rl = l1 ++ x) ∧ Hid (LD w wr gd gl F G rl s) ∧ Hid (PI rl (Fr l1).length (300 * k) s)) (fun i _ => 8 - (intOf i).toNat)
        case atStart => exact ⟨0, F4, G4, l1, s4, by omega, by omega, rfl, by omega, ⟨[], by simp⟩, H4, HP4⟩
        case round =>
          clear H4 HP4
          obtain ⟨k, F, G, rl, s, hk, hkl, rfl, hrl2, hX, hs, hP⟩ := hrel
          have hend : (k < more.length ∧ k < 8) ∨ (k = more.length ∧ Hid (k ≤ 8)) ∨ (k = 8 ∧ k < more.length) := by unfold Hid; omega
          rcases hend with ⟨hlt, h4⟩ | ⟨hke, -⟩ | ⟨hke, hlt⟩
          · obtain ⟨lb, loff, rfl, hcb⟩ := HC1.out (by intro h; simp [h] at hlt)
            have hca : ∀ i, i < 15 → w.cell? ⟨lb, loff + (k * 15 + i), none⟩ = (recCells (nth more k))[i]? := hcb k hlt
            obtain ⟨ino, gen, at_, rule, kind, c0, c1, c2, c3, c4, c5, c6, c7, c8, c9, hx⟩ := rec_mk (nth more k)
            rw [hx] at hca
            have hold := hs.out.old
            have d0 : wr.cell? ⟨lb, loff + k * 15, none⟩ = some (.int .i64 ino) := hold.cell (hca 0 (by omega)) (by simp)
            have d1 : wr.cell? ⟨lb, loff + k * 15 + 1, none⟩ = some (.int .i64 gen) := hold.cell (hca 1 (by omega)) (by simp)
            have d2 : wr.cell? ⟨lb, loff + k * 15 + 2, none⟩ = some (.int .i64 at_) := hold.cell (hca 2 (by omega)) (by simp)
            have d3 : wr.cell? ⟨lb, loff + k * 15 + 3, none⟩ = some (.string rule) := hold.cell (hca 3 (by omega)) (by simp)
            have d4 : wr.cell? ⟨lb, loff + k * 15 + 4, none⟩ = some (.int .i64 kind) := hold.cell (hca 4 (by omega)) (by simp)
            have d5 : wr.cell? ⟨lb, loff + k * 15 + 5, none⟩ = some (.int .i64 c0) := hold.cell (hca 5 (by omega)) (by simp)
            have d6 : wr.cell? ⟨lb, loff + k * 15 + 6, none⟩ = some (.int .i64 c1) := hold.cell (hca 6 (by omega)) (by simp)
            have d7 : wr.cell? ⟨lb, loff + k * 15 + 7, none⟩ = some (.int .i64 c2) := hold.cell (hca 7 (by omega)) (by simp)
            have d8 : wr.cell? ⟨lb, loff + k * 15 + 8, none⟩ = some (.int .i64 c3) := hold.cell (hca 8 (by omega)) (by simp)
            have d9 : wr.cell? ⟨lb, loff + k * 15 + 9, none⟩ = some (.int .i64 c4) := hold.cell (hca 9 (by omega)) (by simp)
            have d10 : wr.cell? ⟨lb, loff + k * 15 + 10, none⟩ = some (.int .i64 c5) := hold.cell (hca 10 (by omega)) (by simp)
            have d11 : wr.cell? ⟨lb, loff + k * 15 + 11, none⟩ = some (.int .i64 c6) := hold.cell (hca 11 (by omega)) (by simp)
            have d12 : wr.cell? ⟨lb, loff + k * 15 + 12, none⟩ = some (.int .i64 c7) := hold.cell (hca 12 (by omega)) (by simp)
            have d13 : wr.cell? ⟨lb, loff + k * 15 + 13, none⟩ = some (.int .i64 c8) := hold.cell (hca 13 (by omega)) (by simp)
            have d14 : wr.cell? ⟨lb, loff + k * 15 + 14, none⟩ = some (.int .i64 c9) := hold.cell (hca 14 (by omega)) (by simp)
            have q1 : (k : Int) < more.length := by omega
            have q2 : (k : Int) < 8 := by omega
            have q3 : (0 : Int) ≤ k := by omega
            obtain ⟨b, er, rl', s', hadd, hpi, hlen, hext⟩ := hP.out.add (mkRec ino gen at_ rule kind c0 c1 c2 c3 c4 c5 c6 c7 c8 c9) (by omega)
            have HAD := Lib.hid hadd
            have HPI := Lib.hid hpi
            have HSM := Lib.hid (hP.out.small (by omega))
            clear hca hcb hx hold hadd hpi
            go_wp2_with fail
            (with_reducible refine (mAdd hs.out ino gen at_ rule kind c0 c1 c2 c3 c4 c5 c6 c7 c8 c9 ⟨HSM.out.1, HSM.out.2⟩ (by omega) HAD.out).mono ?_)
            rintro e w2 ⟨rfl, F', G', h2⟩
            have H2 := Lib.hid h2
            clear h2 hs d0 d1 d2 d3 d4 d5 d6 d7 d8 d9 d10 d11 d12 d13 d14 HSM HAD
            go_wp2_with fail
            go_roundw
            have HX' : Hid (∃ x, rl' = l1 ++ x) := by
              obtain ⟨x, hx⟩ := hX.out
              obtain ⟨y, hy⟩ := hext
              exact ⟨x ++ y, by rw [hy, hx, List.append_assoc]⟩
            case rel => exact ⟨k + 1, F', G', rl', s', by omega, by omega, by go_num, by omega, HX', H2, HPI⟩
            case measure => simp [intOf]; omega
          · subst hke
            go_upto_region 15 with fail
            refine cuts15 hs.out hP.out hX.out rfl (by omega) (by omega) HCU.out HAG.out HGI.out ?_ (by assumption)
            intro y0 y1 y2 y3 y4 y5 y6 y7 y9 y10 y11 y12 y13 y14 y15 y16 y17 y18 y19 y20 y21 y22 y23 y24 y25 y26 y27 y28 y29 y30 y31 y32 y33 y34 y35 y36 y37 y38 y39 y40 y41 y42 y43 y44 y45 y46 y47 y48 y49 y50 y51 y52 y53 y54 y55 y56 y57 y58 y59 y60 y61 y62 y63 y64 y65 y66 y67 y68 y69 y70 y71 y72 y73 y74 y75 y76 y77 y78 y79 y80 y81 y82 y83 y84 y85 y86 y87 y88 y89 y90 y91 y92 y93 y94 y95 y96 y97 y98 y99 y100 y101 y102 y103 y104 y105 y106 y107 y108 y109 y110 y111 y112 y113 y114 y115 y116 y117 y118 y119 y120 y121 y122 y123 y124 y125 y126 y127 y128 y129 y130 y131 y132 y133 y134 y135 y136 y137 y138 y139 y140 y141 y142 y143 y144 y145 y146 y147 y148 y149 y150 y151 y152 y153 y154 y155 y156 y157 y158 y159 y160 y161 y162 y163 y164 y165 y166 y167 y168 y169 y170 y171 y172 y173 y174 y175 y176 y177 y178 y179 y180 y181 y182 y183 y184 y185 y186 y187 y188 y189 y190 y191 y192 y193 y194 y195 y196 y197 w' hu
            go_ret
            exact ⟨rfl, hu⟩
          · subst hke
            have q1 : ((8 : Nat) : Int) < more.length := by omega
            go_upto_region 15 with fail
            refine cuts15 hs.out hP.out hX.out rfl (by omega) (by omega) HCU.out HAG.out HGI.out ?_ (by assumption)
            intro y0 y1 y2 y3 y4 y5 y6 y7 y9 y10 y11 y12 y13 y14 y15 y16 y17 y18 y19 y20 y21 y22 y23 y24 y25 y26 y27 y28 y29 y30 y31 y32 y33 y34 y35 y36 y37 y38 y39 y40 y41 y42 y43 y44 y45 y46 y47 y48 y49 y50 y51 y52 y53 y54 y55 y56 y57 y58 y59 y60 y61 y62 y63 y64 y65 y66 y67 y68 y69 y70 y71 y72 y73 y74 y75 y76 y77 y78 y79 y80 y81 y82 y83 y84 y85 y86 y87 y88 y89 y90 y91 y92 y93 y94 y95 y96 y97 y98 y99 y100 y101 y102 y103 y104 y105 y106 y107 y108 y109 y110 y111 y112 y113 y114 y115 y116 y117 y118 y119 y120 y121 y122 y123 y124 y125 y126 y127 y128 y129 y130 y131 y132 y133 y134 y135 y136 y137 y138 y139 y140 y141 y142 y143 y144 y145 y146 y147 y148 y149 y150 y151 y152 y153 y154 y155 y156 y157 y158 y159 y160 y161 y162 y163 y164 y165 y166 y167 y168 y169 y170 y171 y172 y173 y174 y175 y176 y177 y178 y179 y180 y181 y182 y183 y184 y185 y186 y187 y188 y189 y190 y191 y192 y193 y194 y195 y196 y197 w' hu
            go_ret
            exact ⟨rfl, hu⟩
end Go.Proofs.Ytmhojaiajhdlcaa
namespace Go.Proofs.Ytmhojaiajhdlcaa.lLedgerCuts
open Go.ChangeShapes Go.WideShapes Go.ChangeAt Go.RowKit Go.Deep
open Go.ChangeMaps (open_string shut_string)
set_option linter.unusedSimpArgs false
set_option linter.unusedVariables false
theorem own : ownKnob Try.prog.godebug = none := by kernel_rfl
theorem laidOut : laidOutB Try.prog = true := by kernel_rfl
theorem cells_nums : Try.checked.prog.cellsOf 3 = 1 := by kernel_rfl
theorem size_nums : Try.checked.prog.bytesOf 3 = 8 := by kernel_rfl
set_option maxRecDepth 100000 in
theorem walk (H : Type) (enc : TypeId × Value → H) : LawCalls Try.prog 4 Try.f4 H enc (fun ds => True) := by
  intro W base args ds ps hval hA hsz hk
  rw [Try.params4] at hA hval hsz
  obtain ⟨v0, vs0, d0, ds0, p0, q0, hargs, rfl, rfl, h0, r0⟩ := trodAll_cons hA
  obtain ⟨v1, vs1, d1, ds1, p1, q1, rfl, rfl, rfl, h1, r1⟩ := trodAll_cons r0
  obtain ⟨v2, vs2, d2, ds2, p2, q2, rfl, rfl, rfl, h2, r2⟩ := trodAll_cons r1
  obtain ⟨v3, vs3, d3, ds3, p3, q3, rfl, rfl, rfl, h3, r3⟩ := trodAll_cons r2
  obtain ⟨rfl, rfl, rfl⟩ := trodAll_nil r3
  obtain rfl : args = #[v0, v1, v2, v3] := by cases args; simp_all
  obtain ⟨l0, w0, g0⟩ := open_recs (hval 0 _ v0 rfl rfl) h0
  obtain ⟨l1, w1, g1⟩ := open_recs (hval 1 _ v1 rfl rfl) h1
  obtain ⟨a2, rfl, w2⟩ := open_num Try.underlying3 (hval 2 _ v2 rfl rfl) h2
  obtain ⟨l3, w3, g3, z3, u3⟩ := open_nums Try.underlying48 Try.underlying3 cells_nums size_nums (hval 3 _ v3 rfl rfl) h3
  have z3 := z3 _ _ 3 hsz rfl rfl
  exact ledgerCuts_any W v0 l0 w0 v1 l1 w1 a2 w2 v3 l3 w3 g3 z3
set_option maxRecDepth 100000 in
theorem lifted (os : Os) (started : os.Started) (H : Type) (enc : TypeId × Value → H) :
    ReturnsInHanded {} Try.checked os 4 .any (Rows.ledgerCutsSpec.pre6 enc Try.prog Try.f4 Rows.ledgerCutsRow.domain false) (Rows.ledgerCutsSpec.post enc Try.prog Try.f4 false true false false) :=
  law_said (C := Try.checked) own started (by kernel_rfl) Try.func4
    (ChangeSpec.witness6 (enc := enc) (C := Try.checked) false ⟨#[], #[.slice none 0 0, .slice none 0 0, .int .i64 0, .slice none 0 0], []⟩ 8 (by kernel_rfl) (by kernel_rfl) (by kernel_rfl) (by kernel_rfl))
    laidOut (by rw [Try.params4]; intro t ht; simp only [List.mem_cons, List.not_mem_nil, or_false] at ht; rcases ht with rfl | rfl | rfl | rfl <;> exact ⟨by kernel_rfl, of_decide_eq_true (by kernel_rfl)⟩) rfl 4 (by kernel_rfl) Try.underlying4 (by intro ds h; match ds, h with | [d0, d1, d2, d3], _ => exact ⟨rfl, rfl, rfl⟩) (walk H enc)
theorem proved : Rows.LedgerCutsSaid :=
  OpenClaim.holds_of_wide 4 Try.f4 rfl rfl rfl rfl rfl rfl rfl ⟨rfl, rfl, rfl, rfl, rfl⟩ rfl rfl rfl rfl rfl (by kernel_rfl) Try.func4 (by kernel_rfl)
    (of_decide_eq_true (by kernel_rfl)) (by unfold Func.isWrapper; rw [if_neg (of_decide_eq_false (by kernel_rfl))]; exact ⟨rfl, rfl⟩)
    (fun os started H enc _ => lifted os started H enc)
end Go.Proofs.Ytmhojaiajhdlcaa.lLedgerCuts
