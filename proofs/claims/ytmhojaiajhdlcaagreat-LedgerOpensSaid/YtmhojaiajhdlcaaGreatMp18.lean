/- Texts of the proof, joined: Chapter 25 as plain law: adding, and adding again behind a failure of the power. Contracts of the ledger beside a list of records that was told. The book's Same at texts. The walk of DiskRuns. Arguments that are asks of chapter 22. Chapter 22 as plain law: a call by its kind. Chapter 22 as plain law: any calls by their kinds. Both disks side by side: a call on one of them. The walk of LedgerPlays: its words. -/
import Derived.Test.YtmhojaiajhdlcaaGreatMp15
import Derived.Deep.CutBlock
import Derived.Deep.DeepCutAuto
import Derived.Test.YtmhojaiajhdlcaaGreatRows
import Derived.Test.YtmhojaiajhdlcaaGreatMp1
import Derived.Test.YtmhojaiajhdlcaaGreatMp6
import Derived.Test.YtmhojaiajhdlcaaGreatMp4
import Derived.Test.YtmhojaiajhdlcaaGreatMp9
import Derived.Test.YtmhojaiajhdlcaaGreatMp17
import Derived.Test.YtmhojaiajhdlcaaGreatMp2
import Derived.Deep.RegionHeld3
namespace Go.Proofs.YtmhojaiajhdlcaaGreat
open Go.RowKit
set_option linter.unusedSimpArgs false
set_option linter.unusedVariables false
/-- A ledger whose file is the frames of its records. -/
structure PI (rl : List Rec) (lo B : Nat) (s : DS) : Prop where
  inv : LInv (Fr rl) lo B s
  one : OneF s.now (Fr rl)
  uq : Uniq rl
  ok : ∀ r ∈ rl, recOk r = true
  lo : lo ≤ (Fr rl).length
theorem PI.zero : PI [] 0 0 ⟨[], [], []⟩ := ⟨LInv.zero, .inl ⟨rfl, rfl⟩, Uniq.nil, fun r h => by simp at h, Nat.zero_le _⟩
theorem Fr_le : ∀ (rl : List Rec), (∀ r ∈ rl, recOk r = true) → (Fr rl).length ≤ 208 * rl.length
  | [], _ => by simp [Fr_nil]
  | r :: rl, h => by
    have h1 := Fr_le rl (fun x hx => h x (by simp [hx]))
    have h2 := encRec_len (h r (by simp))
    have h3 := frameOf_len (encRec r)
    rw [Fr_cons, List.length_append, List.length_cons]; omega
theorem frame_ne (r : Rec) : frameOf (encRec r) ≠ [] := fun q => by have h := frameOf_len (encRec r); rw [q] at h; simp at h; omega
theorem PI.add {rl : List Rec} {lo B : Nat} {s : DS} (h : PI rl lo B s) (r : Rec) (hl : rl.length ≤ 1000) :
    ∃ b er rl' s', lAdd rl s r = ((b, er), rl', s') ∧ PI rl' lo (B + 300) s' ∧ rl'.length ≤ rl.length + 1 ∧ (∃ x, rl' = rl ++ x) := by
  by_cases hok : recOk r = true
  · by_cases hh : hasK rl r.key = true
    · exact ⟨false, 0, rl, s, by unfold lAdd; rw [hok, if_pos rfl, hh, if_pos rfl], ⟨h.inv.bound (by omega), h.one, h.uq, h.ok, h.lo⟩, by omega, [], by simp⟩
    · have hh : hasK rl r.key = false := by simpa using hh
      have hf := Fr_le rl h.ok
      have hrl := encRec_len hok
      have hfl := frameOf_len (encRec r)
      obtain ⟨h1, h2, h3⟩ := h.inv.append h.one h.lo (frameOf (encRec r)) (by omega)
      refine ⟨true, 0, rl ++ [r], (dAppend s nmL (frameOf (encRec r))).2, ?_, ⟨?_, ?_, h.uq.snoc r hh, ?_, ?_⟩, by simp, [r], rfl⟩
      · unfold lAdd
        rw [hok, if_pos rfl, hh, if_neg (by simp), if_pos h1]
      · rw [Fr_snoc]; exact h2.bound (by omega)
      · rw [Fr_snoc]; exact h3 (frame_ne r)
      · intro x hx
        rcases List.mem_append.1 hx with q | q
        · exact h.ok x q
        · simp at q; rw [q]; exact hok
      · rw [Fr_snoc, List.length_append]; have := h.lo; omega
  · have hok : recOk r = false := by simpa using hok
    exact ⟨false, 1, rl, s, by unfold lAdd; rw [hok]; rfl, ⟨h.inv.bound (by omega), h.one, h.uq, h.ok, h.lo⟩, by omega, [], by simp⟩
theorem PI.mark {rl : List Rec} {lo B : Nat} {s : DS} (h : PI rl lo B s) : PI rl (Fr rl).length 0 (dMark s) :=
  ⟨h.inv.mark (n := (Fr rl).length) (by rw [List.take_length]; exact h.one) (Nat.le_refl _), h.one, h.uq, h.ok, Nat.le_refl _⟩
/-- A disk on which the ledger is somewhere between m0 records and all of them. -/
structure CI (all : List Rec) (m0 B : Nat) (s : DS) : Prop where
  inv : LInv (Fr all) (Ee all m0) B s
  uq : Uniq all
  ok : ∀ r ∈ all, recOk r = true
  m0 : m0 ≤ all.length
theorem PI.ci {rl all : List Rec} {B : Nat} {s : DS} (h : PI all (Fr rl).length B s) (hx : ∃ x, all = rl ++ x) : CI all rl.length B s := by
  obtain ⟨x, rfl⟩ := hx
  exact ⟨by unfold Ee; rw [List.take_left]; exact h.inv, h.uq, h.ok, by simp⟩
theorem CI.back {all : List Rec} {m0 B : Nat} {s : DS} (h : CI all m0 B s) (k : Int) : CI all m0 0 (dBack s k) := ⟨h.inv.back k, h.uq, h.ok, h.m0⟩
/-- Behind an opening. -/
structure RI (all : List Rec) (m0 B M : Nat) (s : DS) : Prop where
  ci : CI all m0 B s
  one : OneF s.now ((Fr all).take (Ee all M))
  ge : m0 ≤ M
  le : M ≤ all.length
theorem CI.open_ {all : List Rec} {m0 B : Nat} {s : DS} (h : CI all m0 B s) : ∃ M s', lOpen s = (all.take M, s') ∧ RI all m0 (B + 1) M s' := by
  obtain ⟨M, k1, k2, k3, k4, k5⟩ := lopen_take all h.ok h.uq m0 h.m0 h.inv
  exact ⟨M, (lOpen s).2, Prod.ext k3 rfl, ⟨k4, h.uq, h.ok, h.m0⟩, k5, k1, k2⟩
theorem LInv.append_in {hi : List UInt8} {lo B n : Nat} {s : DS} (h : LInv hi lo B s) (hn : OneF s.now (hi.take n)) (hnl : n ≤ hi.length) (hlo : lo ≤ n) (fr t : List UInt8) (he : hi = hi.take n ++ (fr ++ t)) (hz : hi.length ≤ 16777216) (hne : fr ≠ []) :
    (dAppend s nmL fr).1 = 0 ∧ LInv hi lo (B + 1 + fr.length) (dAppend s nmL fr).2 ∧ OneF (dAppend s nmL fr).2.now (hi.take (n + fr.length)) := by
  have hcl := chunks_len fr
  have hfl := chunks_all fr
  have hcl2 : (chunks fr).length ≤ fr.length := by omega
  have htl : (hi.take n).length = n := by rw [List.length_take]; omega
  have hlen : hi.length = n + (fr.length + t.length) := by have := congrArg List.length he; rw [List.length_append, List.length_append, htl] at this; exact this
  have hnext : hi.take (n + fr.length) = hi.take n ++ fr := by
    have e : hi.take n ++ (fr ++ t) = (hi.take n ++ fr) ++ t := by rw [List.append_assoc]
    conv => lhs; rw [he, e]
    exact List.take_left' (by rw [List.length_append, htl])
  unfold dAppend
  rw [nmL_ok, if_pos rfl, hn.total, if_neg (by rw [htl]; omega)]
  refine ⟨rfl, ?_⟩
  dsimp only
  rw [hnext]
  rcases hn with ⟨h1, h2⟩ | h1
  · have hin : inD s.now nmL = false := by rw [h1]; rfl
    have hn0 : n = 0 := by rw [h2] at htl; simpa using htl.symm
    subst hn0
    rw [hin, if_neg (by simp)]
    have hw := (h.ok.make nmL hin (by rw [h1]; simp)).1
    have hnow : (dDo (wMake nmL) s).now = [(nmL, [])] := by show wApply (wMake nmL) s.now = _; rw [h1]; rfl
    have hm := h.step hw (n := 0) hlo (Nat.zero_le _) (.inr (by rw [h1]; rfl))
    obtain ⟨k1, k2⟩ := LInv.puts (t := t) hz (chunks fr) (dDo (wMake nmL) s) [] (B + 1) hm hnow (by rw [hfl]; simpa using he) (chunks_ne fr) (by simpa using hlo)
    exact ⟨k1.bound (by omega), .inr (by rw [k2, hfl]; simp)⟩
  · have hin : inD s.now nmL = true := by rw [h1]; exact isIn_one nmL _
    rw [hin, if_pos rfl]
    obtain ⟨k1, k2⟩ := LInv.puts (t := t) hz (chunks fr) s (hi.take n) B h h1 (by rw [hfl]; exact he) (chunks_ne fr) (by rw [htl]; exact hlo)
    exact ⟨k1.bound (by omega), .inr (by rw [k2, hfl])⟩
/-- One of the first ones is there. -/
theorem RI.old {all : List Rec} {m0 B M : Nat} {s : DS} (h : RI all m0 B M s) (i : Nat) (hi : i < M) : lAdd (all.take M) s (nth all i) = ((false, 0), all.take M, s) := by
  have hok := h.ci.ok (nth all i) (by rw [nth_get all i (by have := h.le; omega)]; exact List.getElem_mem _)
  unfold lAdd
  rw [hok, if_pos rfl, Uniq.yes M i hi h.le, if_pos rfl]
/-- The next one comes behind. -/
theorem RI.next {all : List Rec} {m0 B M : Nat} {s : DS} (h : RI all m0 B M s) (hM : M < all.length) (hz : all.length ≤ 1000) : ∃ s', lAdd (all.take M) s (nth all M) = ((true, 0), all.take (M + 1), s') ∧ RI all m0 (B + 300) (M + 1) s' := by
  have hok := h.ci.ok (nth all M) (by rw [nth_get all M hM]; exact List.getElem_mem _)
  have hrl := encRec_len hok
  have hfl := frameOf_len (encRec (nth all M))
  have hfr := Fr_le all h.ci.ok
  have hle : Ee all M ≤ (Fr all).length := by rw [← Ee_all all all.length (Nat.le_refl _)]; exact Ee_mono all h.le
  have he : Fr all = (Fr all).take (Ee all M) ++ (frameOf (encRec (nth all M)) ++ Fr (all.drop (M + 1))) := by
    rw [← Fr_cons, nth_get all M hM, ← List.drop_eq_getElem_cons hM, ← Fr_drop, List.take_append_drop]
  obtain ⟨k1, k2, k3⟩ := h.ci.inv.append_in h.one hle (Ee_mono all h.ge) _ _ he (by omega) (frame_ne _)
  refine ⟨(dAppend s nmL (frameOf (encRec (nth all M)))).2, ?_, ⟨⟨k2.bound (by omega), h.ci.uq, h.ci.ok, h.ci.m0⟩, by rw [Ee_succ all M hM]; exact k3, by have := h.ge; omega, hM⟩⟩
  unfold lAdd
  rw [hok, if_pos rfl, h.ci.uq.no M hM, if_neg (by simp), if_pos k1, nth_get all M hM, List.take_succ_eq_append_getElem hM]
theorem PI.small {rl : List Rec} {lo B : Nat} {s : DS} (h : PI rl lo B s) (hB : B ≤ 100000) : s.now.length ≤ 4999 ∧ s.log.length ≤ 500000000 := ⟨by have := h.inv.nlen; omega, by have := h.inv.lg; omega⟩
theorem CI.small {all : List Rec} {m0 B : Nat} {s : DS} (h : CI all m0 B s) (hB : B ≤ 100000) : s.now.length ≤ 4999 ∧ s.log.length ≤ 500000000 ∧ s.mark.length ≤ 1 := ⟨by have := h.inv.nlen; omega, by have := h.inv.lg; omega, h.inv.mlen⟩
end Go.Proofs.YtmhojaiajhdlcaaGreat
namespace Go.Proofs.YtmhojaiajhdlcaaGreat
open Go.RowKit
set_option linter.unusedSimpArgs false
set_option linter.unusedVariables false
/-- A list of records in memory that nobody of X writes. -/
structure AV (w : World) (av : Value) (all : List Rec) (X : List Nat) : Prop where
  rd : RdN 15 recCells w av all
  lt : ∀ x ∈ blk av, x < w.heap.size
  ap : ∀ x ∈ X, x ∉ blk av
theorem AV.step {w w' : World} {av : Value} {all : List Rec} {X X' S : List Nat} (h : AV w av all X) (hu : Upd S w w') (hS : ∀ x ∈ S, x ∈ X) (hX : ∀ x ∈ X', x ∈ X ∨ w.heap.size ≤ x) : AV w' av all X' :=
  ⟨h.rd.upd recCells_len hu (fun x hx hs => h.ap x (hS x hs) hx), fun x hx => Nat.lt_of_lt_of_le (h.lt x hx) hu.size, fun x hx hb => by
    rcases hX x hx with q | q
    · exact h.ap x q hb
    · have := h.lt x hb; omega⟩
theorem AV.upd0 {w w' : World} {av : Value} {all : List Rec} {X : List Nat} (h : AV w av all X) (hu : Upd [] w w') : AV w' av all X := h.step hu (by simp) (fun x hx => .inl hx)
structure LA (w0 w : World) (gd gl : Nat) (rl : List Rec) (s : DS) (av : Value) (all : List Rec) : Prop where
  ex : ∃ F G, LD w0 w gd gl F G rl s ∧ AV w av all (F ++ G)
structure DA (w0 w : World) (gd : Nat) (s : DS) (av : Value) (all : List Rec) : Prop where
  ex : ∃ G, DD w0 w gd G s ∧ AV w av all G
section
variable {w0 w w' : World} {gd gl : Nat} {rl rl' : List Rec} {s s' : DS} {av : Value} {all : List Rec}
theorem LA.da (h : LA w0 w gd gl rl s av all) : DA w0 w gd s av all := by
  obtain ⟨F, G, h1, h2⟩ := h.ex
  exact ⟨G, h1.dd, h2.rd, h2.lt, fun x hx => h2.ap x (List.mem_append_right _ hx)⟩
theorem LA.upd0 (h : LA w0 w gd gl rl s av all) (hu : Upd [] w w') : LA w0 w' gd gl rl s av all := by
  obtain ⟨F, G, h1, h2⟩ := h.ex
  exact ⟨F, G, h1.upd0 hu, h2.upd0 hu⟩
theorem DA.upd0 (h : DA w0 w gd s av all) (hu : Upd [] w w') : DA w0 w' gd s av all := by
  obtain ⟨G, h1, h2⟩ := h.ex
  exact ⟨G, h1.upd0 hu, h2.upd0 hu⟩
theorem LA.old (h : LA w0 w gd gl rl s av all) : Upd [] w0 w := by
  obtain ⟨F, G, h1, h2⟩ := h.ex
  exact h1.old
theorem DA.old (h : DA w0 w gd s av all) : Upd [] w0 w := by
  obtain ⟨G, h1, h2⟩ := h.ex
  exact h1.old
theorem LA.rd (h : LA w0 w gd gl rl s av all) : RdN 15 recCells w av all := by
  obtain ⟨F, G, h1, h2⟩ := h.ex
  exact h2.rd
theorem DA.call (h : DA w0 w gd s av all) (ho : ∀ G, DD w0 w gd G s → AV w av all G → DOut w0 w gd G s' w') : DA w0 w' gd s' av all := by
  obtain ⟨G, h1, h2⟩ := h.ex
  obtain ⟨G', k1, k2, k3⟩ := (show ∃ G', _ from ho G h1 h2)
  exact ⟨G', k1, h2.step k2 (fun x hx => hx) k3⟩
theorem cBack (h : DA w0 w gd s av all) (n : Int) (hn : I64 n) (hl : s.mark.length ≤ 100000) :
    Calls Tryz.prog 35 #[.pointer (some ⟨gd, 0, none⟩), .int .i64 n] w fun e w' => e = .returned (.tuple #[]) ∧ DA w0 w' gd (dBack s n) av all := by
  obtain ⟨G, h1, h2⟩ := h.ex
  refine (dBack_any n hn h1 hl).mono ?_
  rintro e w' ⟨rfl, G', k1, k2, k3⟩
  exact ⟨rfl, G', k1, h2.step k2 (fun x hx => hx) k3⟩
theorem cCount (h : DA w0 w gd s av all) :
    Calls Tryz.prog 27 #[.pointer (some ⟨gd, 0, none⟩)] w fun e w' => e = .returned (.int .i64 (s.log.length : Int)) ∧ w = w' := by
  obtain ⟨G, h1, h2⟩ := h.ex
  exact dCount_any h1
theorem cOpen (h : DA w0 w gd s av all) (hz : s.now.length ≤ 5000 ∧ s.log.length ≤ 1000000000) (he : lOpen s = (rl', s')) :
    Calls Tryz.prog 23 #[.pointer (some ⟨gd, 0, none⟩)] w fun e w' => ∃ gk, e = .returned (.tuple #[.pointer (some ⟨gk, 0, none⟩), .int .i64 0]) ∧ LA w0 w' gd gk rl' s' av all := by
  obtain ⟨G, h1, h2⟩ := h.ex
  have h3 := ledOpen_any h1 hz.1 hz.2
  rw [he] at h3
  refine h3.mono ?_
  rintro e w' ⟨gk, rfl, F', G', k1, k2, k3, k4⟩
  refine ⟨gk, rfl, F', G', k1, h2.step k2 (fun x hx => hx) (fun x hx => ?_)⟩
  rcases List.mem_append.1 hx with q | q
  · exact k3 x q
  · exact k4 x q
theorem cLen (h : LA w0 w gd gl rl s av all) {n : Nat} (hn : rl.length = n) : Calls Tryz.prog 30 #[.pointer (some ⟨gl, 0, none⟩)] w fun e w' => e = .returned (.int .i64 (n : Int)) ∧ w = w' := by
  subst hn
  obtain ⟨F, G, h1, h2⟩ := h.ex
  obtain ⟨gm, lv, hl, -⟩ := h1.lc
  exact ledLen_any hl
theorem cAdd (h : LA w0 w gd gl rl s av all) (ino gen at_ : Int) (rule : ByteArray) (kind c0 c1 c2 c3 c4 c5 c6 c7 c8 c9 : Int) (hz : s.now.length ≤ 4999 ∧ s.log.length ≤ 500000000) (hr : rl.length ≤ 100000000) {b : Bool} {er : Int} (he : lAdd rl s (mkRec ino gen at_ rule kind c0 c1 c2 c3 c4 c5 c6 c7 c8 c9) = ((b, er), rl', s')) :
    Calls Tryz.prog 31 #[.pointer (some ⟨gl, 0, none⟩), .agg #[.int .i64 ino, .int .i64 gen, .int .i64 at_, .string rule, .int .i64 kind, .int .i64 c0, .int .i64 c1, .int .i64 c2, .int .i64 c3, .int .i64 c4, .int .i64 c5, .int .i64 c6, .int .i64 c7, .int .i64 c8, .int .i64 c9]] w fun e w' => e = .returned (.tuple #[.bool b, .int .i64 er]) ∧ LA w0 w' gd gl rl' s' av all := by
  obtain ⟨F, G, h1, h2⟩ := h.ex
  have h3 := ledAdd_c h1 ino gen at_ rule kind c0 c1 c2 c3 c4 c5 c6 c7 c8 c9 hz.1 hz.2 hr
  rw [he] at h3
  refine h3.mono ?_
  rintro e w' ⟨rfl, F', G', k1, k2, k3, k4⟩
  refine ⟨rfl, F', G', k1, h2.step k2 (fun x hx => hx) (fun x hx => ?_)⟩
  rcases List.mem_append.1 hx with q | q
  · exact k3 x q
  · exact k4 x q
/-- The list of all records. -/
theorem cList (h : LA w0 w gd gl rl s av all) (hr : rl.length ≤ 100000000) {n : Nat} (hn : rl.length = n) :
    Calls Tryz.prog 26 #[.pointer (some ⟨gl, 0, none⟩), .int .i64 0] w fun e w' => ∃ a k, e = .returned (.slice a n k) ∧ Hid (RdN 15 recCells w' (.slice a n k) rl) ∧ LA w0 w' gd gl rl s av all := by
  subst hn
  obtain ⟨F, G, h1, h2⟩ := h.ex
  obtain ⟨gm, lv, hl, -⟩ := h1.lc
  refine (ledList_any hl 0 0 (Nat.zero_le _) (.inr (.inl rfl)) hr).mono ?_
  rintro e w' ⟨a, q, k, rfl, k1, k2⟩
  rw [List.drop_zero] at k1
  have hrd := k1.rd recCells_len
  obtain ⟨a', k', hs, -⟩ := hrd
  injection hs with e1 e2 e3
  subst e2
  exact ⟨a, k, rfl, k1.rd recCells_len, F, G, h1.upd0 k2, h2.upd0 k2⟩
/-- The list of all records, that is to be kept. -/
theorem cListNew {F G : List Nat} (h : LD w0 w gd gl F G rl s) (hr : rl.length ≤ 100000000) :
    Calls Tryz.prog 26 #[.pointer (some ⟨gl, 0, none⟩), .int .i64 0] w fun e w' => ∃ a k, e = .returned (.slice a rl.length k) ∧ LA w0 w' gd gl rl s (.slice a rl.length k) rl := by
  obtain ⟨gm, lv, hl, hF⟩ := h.lc
  refine (ledList_any hl 0 0 (Nat.zero_le _) (.inr (.inl rfl)) hr).mono ?_
  rintro e w' ⟨a, q, k, rfl, k1, k2⟩
  rw [List.drop_zero] at k1
  have hrd := k1.rd recCells_len
  obtain ⟨a', k', hs, -⟩ := hrd
  injection hs with e1 e2 e3
  subst e2
  have hge := k1.ge
  refine ⟨a, k, rfl, F, G, h.upd0 k2, k1.rd recCells_len, fun x hx => (hge x hx).2, fun x hx hb => ?_⟩
  have h1 := (hge x hb).1
  rcases List.mem_append.1 hx with q | q
  · have := (h.geF x q).2; omega
  · have := (h.dd.ge x q).2; omega
end
/-- What stands behind a region that is a statement by itself. -/
def restReg (n : Nat) : Code → Option Code
  | .seq a b => match a with
    | .region id ops m => if id = n then some b else restReg n b
    | _ => restReg n b
  | _ => none
def regOf (n : Nat) (o : Option Code) : Code := (o.bind (findReg n)).getD .skip
def restOf (n : Nat) (o : Option Code) : Code := (o.bind (restReg n)).getD .skip
end Go.Proofs.YtmhojaiajhdlcaaGreat
namespace Go.Proofs.YtmhojaiajhdlcaaGreat
open Go.RowKit
set_option linter.unusedSimpArgs false
set_option linter.unusedVariables false
set_option maxHeartbeats 400000 in
theorem sameStr_any (v u : Value) (l m : List ByteArray) (w : World) (h : Rd sv w v l) (h2 : Rd sv w u m) :
    Calls Tryz.prog 91 #[v, u] w fun e w' => e = .returned (.bool (decide (l = m))) ∧ ∃ n, w' = w.drewN n := by
  obtain ⟨a, cap, rfl, hlc, hm, hc⟩ := h
  obtain ⟨a2, cap2, rfl, hlc2, hm2, hc2⟩ := h2
  have hm' : l.length ≤ 9223372036854775807 := by unfold maxLen at hm; omega
  have hm2' : m.length ≤ 9223372036854775807 := by unfold maxLen at hm2; omega
  clear hm hlc hm2 hlc2
  by_cases hlen : l.length = m.length
  · have HL := Lib.hid hlen
    have t1 : ((l.length : Int) != (m.length : Int)) = false := by rw [bne_eq_false_iff_eq]; omega
    have H1 := Lib.hid hc
    have H2 := Lib.hid hc2
    clear hlen hc hc2
    go_enter Tryz.func91, Tryz.ntmps91
    go_wp2
    go_loopw [5] (fun i wr => ∃ k n : Nat, wr = w.drewN n ∧ k ≤ l.length ∧ i = .int .i64 k ∧ Hid (∀ j, j < k → nth l j = nth m j)) (fun i _ => l.length - (intOf i).toNat)
    case atStart => exact ⟨0, 0, rfl, Nat.zero_le _, rfl, fun j hj => absurd hj (by omega)⟩
    case round =>
      obtain ⟨k, n, rfl, hk, rfl, hs⟩ := hrel
      by_cases hlt : k < l.length
      · obtain ⟨b, off, rfl, hc'⟩ := H1.out (by intro h; simp [h] at hlt)
        have hlt2 : k < m.length := by rw [← HL.out]; exact hlt
        obtain ⟨b2, off2, rfl, hc2'⟩ := H2.out (by intro h; simp [h] at hlt2)
        have hck := hc' k hlt
        have hck2 := hc2' k hlt2
        clear hc' hc2'
        have q1 : (k : Int) < (l.length : Int) := by omega
        have q2 : (k : Int) < (m.length : Int) := by omega
        go_wp2
        go_quiet (fail)
        go_wp2
        · have hne : nth l k ≠ nth m k := str_ne (by assumption)
          go_ret
          exact ⟨congrArg (fun b => Ending.returned (.bool b)) (decide_eq_false (fun e => by rw [e] at hne; exact hne rfl)).symm, _, World.drewN_drewN ..⟩
        · have heq : nth l k = nth m k := str_eq (by assumption)
          have HEQ := Lib.hid heq
          clear heq
          go_roundw
          case rel => exact ⟨k + 1, _, rfl, by omega, by go_num, fun j hj => by
            by_cases e : j = k
            · rw [e]; exact HEQ.out
            · exact hs.out j (by omega)⟩
          case measure => simp [intOf]; omega
      · obtain rfl : k = l.length := by omega
        go_wp2
        go_ret
        exact ⟨congrArg (fun b => Ending.returned (.bool b)) (decide_eq_true (same_ext HL.out hs.out)).symm, _, rfl⟩
  · have t1 : ((l.length : Int) != (m.length : Int)) = true := by rw [bne_iff_ne]; omega
    have t2 : decide (l = m) = false := by simp; intro h; exact hlen (by rw [h])
    have T2 := Lib.hid t2
    clear hlen t2
    go_enter Tryz.func91, Tryz.ntmps91
    go_wp2
    go_ret
    exact ⟨congrArg (fun b => Ending.returned (.bool b)) T2.out.symm, 0, rfl⟩

theorem sameStr_ok (v u : Value) (l : List ByteArray) (w : World) (h : Rd sv w v l) (h2 : Rd sv w u l) :
    Calls Tryz.prog 91 #[v, u] w fun e w' => e = .returned (.bool true) ∧ ∃ n, w' = w.drewN n := by
  have h := sameStr_any v u l l w h h2
  rw [decide_eq_true rfl] at h; exact h
end Go.Proofs.YtmhojaiajhdlcaaGreat
namespace Go.Proofs.YtmhojaiajhdlcaaGreat
open Go.RowKit
set_option linter.unusedSimpArgs false
set_option linter.unusedVariables false
abbrev nA : ByteArray := ⟨#[97]⟩
abbrev nB : ByteArray := ⟨#[98]⟩
abbrev nC : ByteArray := ⟨#[99]⟩
abbrev nQ : ByteArray := ⟨#[113]⟩
def z33 : List UInt8 := List.replicate 33 0
def qs1 : DS := (dAppend ⟨[], [], []⟩ nA z33).2
def qs2 : DS := (dRename qs1 nA nB).2
def qs3 : DS := dBack qs2 2
def qs4 : DS := dMark qs3
def qs5 : DS := (dAppend qs4 nA []).2
def qs6 : DS := (dAppend qs5 nC []).2
theorem i64_d (x : Int) (h1 : -9223372036854775808 ≤ x) (h2 : x ≤ 9223372036854775807) : I64 x := ⟨h1, h2⟩
theorem sameStr_yes (v u : Value) (l : List ByteArray) (w : World) (h : Rd sv w v l) (h2 : Rd sv w u l) :
    Calls Tryz.prog 91 #[v, u] w fun e w' => e = .returned (.bool true) ∧ Upd [] w w' :=
  (sameStr_ok v u l w h h2).mono fun e w' ⟨h1, n, h2⟩ => ⟨h1, by rw [h2]; exact (Upd.refl [] w).drewN n⟩
theorem DOut.dd {w0 w w' : World} {gd : Nat} {G : List Nat} {s : DS} (h : DOut w0 w gd G s w') : ∃ G', DD w0 w' gd G' s ∧ Upd G w w' ∧ (∀ x ∈ G', x ∈ G ∨ w.heap.size ≤ x) := h
end Go.Proofs.YtmhojaiajhdlcaaGreat
namespace Go.Proofs.YtmhojaiajhdlcaaGreat
open Go.ChangeShapes Go.WideShapes Go.ChangeAt Go.RowKit Go.Deep
set_option linter.unusedSimpArgs false
set_option linter.unusedVariables false
/-- An ask. -/
structure Ask22 where
  kd : Int
  n : Int
  nm : ByteArray
  tn : ByteArray
  dv : Sl
  d : List UInt8
instance : Inhabited Ask22 := ⟨⟨0, 0, .empty, .empty, default, []⟩⟩
abbrev ask22Cells (x : Ask22) : List Value := [.int .i64 x.kd, .int .i64 x.n, .string x.nm, .string x.tn, slv x.dv]
structure Ask22Good (w : World) (x : Ask22) : Prop where
  kd : I64 x.kd
  n : I64 x.n
  rd : Bytes w (slv x.dv) x.d
theorem cells_byte22 : Tryz.checked.prog.cellsOf 5 = 1 := by kernel_rfl
end Go.Proofs.YtmhojaiajhdlcaaGreat
namespace Go.Proofs.YtmhojaiajhdlcaaGreat
open Go.RowKit
set_option linter.unusedSimpArgs false
set_option linter.unusedVariables false
def dStep (x : Ask22) (s : DS) : DS :=
  if x.kd = 1 then (dAppend s x.nm x.d).2 else
  if x.kd = 2 then (dRename s x.nm x.tn).2 else
  if x.kd = 3 then (dCut s x.nm x.n).2 else
  if x.kd = 4 then (dRemove s x.nm).2 else s
theorem dStep_1 (s : DS) (n : Int) (nm tn : ByteArray) (dv : Sl) (d : List UInt8) : dStep ⟨1, n, nm, tn, dv, d⟩ s = (dAppend s nm d).2 := by unfold dStep; simp
theorem dStep_2 (s : DS) (n : Int) (nm tn : ByteArray) (dv : Sl) (d : List UInt8) : dStep ⟨2, n, nm, tn, dv, d⟩ s = (dRename s nm tn).2 := by unfold dStep; simp
theorem dStep_3 (s : DS) (n : Int) (nm tn : ByteArray) (dv : Sl) (d : List UInt8) : dStep ⟨3, n, nm, tn, dv, d⟩ s = (dCut s nm n).2 := by unfold dStep; simp
theorem dStep_4 (s : DS) (n : Int) (nm tn : ByteArray) (dv : Sl) (d : List UInt8) : dStep ⟨4, n, nm, tn, dv, d⟩ s = (dRemove s nm).2 := by unfold dStep; simp
theorem dStep_no (s : DS) (kd n : Int) (nm tn : ByteArray) (dv : Sl) (d : List UInt8) (h1 : kd ≠ 1) (h2 : kd ≠ 2) (h3 : kd ≠ 3) (h4 : kd ≠ 4) : dStep ⟨kd, n, nm, tn, dv, d⟩ s = s := by unfold dStep; simp [h1, h2, h3, h4]
theorem grows_step {s : DS} (h : DOk s) (x : Ask22) (hl : s.now.length ≤ 4999) : Grows s (dStep x s) x.d.length := by
  unfold dStep
  split
  · exact grows_append h _ _ hl
  split
  · exact grows_rename _ _ _ _
  split
  · exact grows_cut _ _ _ _
  split
  · exact grows_remove _ _ _
  · exact Grows.refl _ _
end Go.Proofs.YtmhojaiajhdlcaaGreat
namespace Go.Proofs.YtmhojaiajhdlcaaGreat
open Go.RowKit
set_option linter.unusedSimpArgs false
set_option linter.unusedVariables false
def dAny (x : Ask22) (s : DS) : DS :=
  if x.kd = 5 then dMark s else if x.kd = 6 then dBack s x.n else dStep x s
theorem Any.step {k : Nat} {s : DS} (h : Any k s) (x : Ask22) (hx : x.d.length ≤ 500) (hk : k ≤ 100) : Any (k + 1) (dAny x s) := by
  unfold dAny dStep
  split
  · exact h.mark
  split
  · exact h.back _
  split
  · exact h.append _ _ hx hk
  split
  · exact h.rename _ _ hk
  split
  · exact h.cut _ _ hk
  split
  · exact h.remove _ hk
  · exact h.up
theorem dAny_1 (s : DS) (n : Int) (nm tn : ByteArray) (dv : Sl) (d : List UInt8) : dAny ⟨1, n, nm, tn, dv, d⟩ s = (dAppend s nm d).2 := by unfold dAny; simp [dStep_1]
theorem dAny_2 (s : DS) (n : Int) (nm tn : ByteArray) (dv : Sl) (d : List UInt8) : dAny ⟨2, n, nm, tn, dv, d⟩ s = (dRename s nm tn).2 := by unfold dAny; simp [dStep_2]
theorem dAny_3 (s : DS) (n : Int) (nm tn : ByteArray) (dv : Sl) (d : List UInt8) : dAny ⟨3, n, nm, tn, dv, d⟩ s = (dCut s nm n).2 := by unfold dAny; simp [dStep_3]
theorem dAny_4 (s : DS) (n : Int) (nm tn : ByteArray) (dv : Sl) (d : List UInt8) : dAny ⟨4, n, nm, tn, dv, d⟩ s = (dRemove s nm).2 := by unfold dAny; simp [dStep_4]
theorem dAny_5 (s : DS) (n : Int) (nm tn : ByteArray) (dv : Sl) (d : List UInt8) : dAny ⟨5, n, nm, tn, dv, d⟩ s = dMark s := by unfold dAny; simp
theorem dAny_6 (s : DS) (n : Int) (nm tn : ByteArray) (dv : Sl) (d : List UInt8) : dAny ⟨6, n, nm, tn, dv, d⟩ s = dBack s n := by unfold dAny; simp
theorem dAny_no (s : DS) (kd n : Int) (nm tn : ByteArray) (dv : Sl) (d : List UInt8) (h1 : kd ≠ 1) (h2 : kd ≠ 2) (h3 : kd ≠ 3) (h4 : kd ≠ 4) (h5 : kd ≠ 5) (h6 : kd ≠ 6) : dAny ⟨kd, n, nm, tn, dv, d⟩ s = s := by unfold dAny; simp [h5, h6, dStep_no _ _ _ _ _ _ _ h1 h2 h3 h4]
end Go.Proofs.YtmhojaiajhdlcaaGreat
namespace Go.Proofs.YtmhojaiajhdlcaaGreat
open Go.RowKit
set_option linter.unusedSimpArgs false
set_option linter.unusedVariables false
/-- The two disks. -/
structure Bo (w0 W : World) (gd gr : Nat) (s : DS) (G1 G2 : List Nat) : Prop where
  d : DD w0 W gd G1 s
  r : RD w0 W gr G2 s
  ap : Ap G1 G2
section
variable {w0 W W' : World} {gd gr gb : Nat} {xs : List Value} {sd sr s s' : DS} {G1 G2 : List Nat}
theorem Bo.upd0 (h : Bo w0 W gd gr s G1 G2) (hu : Upd [] W W') : Bo w0 W' gd gr s G1 G2 := ⟨h.d.upd0 hu, h.r.upd0 hu, h.ap⟩
theorem RD.new (w0 w : World) (hu : Upd [] w0 w) : ∃ G, RD w0 (w.alloc (.cells #[.slice none 0 0, .slice none 0 0, .slice none 0 0] 45)) w.heap.size G ⟨[], [], []⟩ ∧ ∀ x ∈ G, w.heap.size ≤ x := by
  have hua : Upd [] w (w.alloc (.cells #[.slice none 0 0, .slice none 0 0, .slice none 0 0] 45)) := (Upd.refl [] w).alloc _
  have hrl : ∀ W, RL W [] (slv ⟨none, 0, 0⟩) [] := fun W => ⟨⟨none, 0, rfl, Nat.le_refl _, Nat.zero_le _, fun h => absurd rfl h⟩, fun x hx => by simp [blk] at hx, fun c hc => by simp at hc, fun c hc => by simp at hc, Rising.nil⟩
  refine ⟨_, ⟨[], ⟨none, 0, 0⟩, ⟨none, 0, 0⟩, [], [], .slice none 0 0, [], ⟨Blk.new w _ [.slice none 0 0, .slice none 0 0, .slice none 0 0], hu.size, by simp, hrl _, hrl _, OwnN.nil _ _ _, by simp, by simp, fun x hx => by simp [blk] at hx, hu.seq hua, by simp⟩, rfl, DOk.zero, rfl⟩, fun x hx => ?_⟩
  rcases (rfoot_mem _ _ _ _).1 hx with rfl | hx | hx
  · exact Nat.le_refl _
  · simp at hx
  · simp [blk] at hx
end
end Go.Proofs.YtmhojaiajhdlcaaGreat
namespace Go.Proofs.YtmhojaiajhdlcaaGreat
open Go.RowKit
set_option linter.unusedSimpArgs false
set_option linter.unusedVariables false
/-- What stands behind a region that is a statement by itself, wherever it stands. -/
def restAny (n : Nat) : Code → Option Code
  | .seq a b => match a with
    | .region id ops m => if id = n then some b else restAny n b
    | _ => match restAny n a with
      | some c => some c
      | none => restAny n b
  | .block _ c => restAny n c
  | .loop c => restAny n c
  | .scope c => restAny n c
  | .cond _ a b => match restAny n a with
    | some c => some c
    | none => restAny n b
  | _ => none
def regIn (n : Nat) (o : Option Code) : Code := (o.bind (findReg n)).getD .skip
def restIn (n : Nat) (o : Option Code) : Code := (o.bind (restAny n)).getD .skip
/-- Both ledgers alike behind k calls. -/
structure LP (w0 w : World) (gd gr : Nat) (k : Nat) (gl gk : Nat) (rl : List Rec) (s : DS) : Prop where
  two : L2 w0 w [] w gd gl gr gk rl s rl s
  inv : PJ k rl s
theorem l2Same {w : World} (a : Option Addr) (q k : Nat) (v : Value) {tl : List Rec} (h1 : RdN 15 recCells w (.slice a q k) tl) (h2 : RdN 15 recCells w v tl) :
    Calls Tryz.prog 25 #[.slice a q k, v] w fun e w' => e = .returned (.bool true) ∧ Upd [] w w' := sameRec_yes _ _ _ _ h1 h2
theorem same_by {w : World} {v u : Value} {E : List UInt8} (h : Bytes w v E) (h2 : Bytes w u E) : Calls Tryz.prog 13 #[v, u] w fun e w' => e = .returned (.bool true) ∧ Upd [] w w' := by
  refine (sameByte_ok _ _ E w h h2).mono ?_
  rintro e w' ⟨rfl, n, rfl⟩
  exact ⟨rfl, (Upd.refl [] w).drewN n⟩
theorem right_ok {w : World} (ino gen at_ : Int) (rule : ByteArray) (kind c0 c1 c2 c3 c4 c5 c6 c7 c8 c9 : Int) {ok : Bool} (he : recOk (mkRec ino gen at_ rule kind c0 c1 c2 c3 c4 c5 c6 c7 c8 c9) = ok) : Calls Tryz.prog 12 #[.agg #[.int .i64 ino, .int .i64 gen, .int .i64 at_, .string rule, .int .i64 kind, .int .i64 c0, .int .i64 c1, .int .i64 c2, .int .i64 c3, .int .i64 c4, .int .i64 c5, .int .i64 c6, .int .i64 c7, .int .i64 c8, .int .i64 c9]] w fun e w' => e = .returned (.bool ok) ∧ Upd [] w w' := by
  subst he
  exact ledRight_c w ino gen at_ rule kind c0 c1 c2 c3 c4 c5 c6 c7 c8 c9
theorem rright_ok {w : World} (ino gen at_ : Int) (rule : ByteArray) (kind c0 c1 c2 c3 c4 c5 c6 c7 c8 c9 : Int) {ok : Bool} (he : recOk (mkRec ino gen at_ rule kind c0 c1 c2 c3 c4 c5 c6 c7 c8 c9) = ok) : Calls Tryz.prog 8 #[.agg #[.int .i64 ino, .int .i64 gen, .int .i64 at_, .string rule, .int .i64 kind, .int .i64 c0, .int .i64 c1, .int .i64 c2, .int .i64 c3, .int .i64 c4, .int .i64 c5, .int .i64 c6, .int .i64 c7, .int .i64 c8, .int .i64 c9]] w fun e w' => e = .returned (.bool ok) ∧ Upd [] w w' := by
  subst he
  exact rfRight_c w ino gen at_ rule kind c0 c1 c2 c3 c4 c5 c6 c7 c8 c9
end Go.Proofs.YtmhojaiajhdlcaaGreat
