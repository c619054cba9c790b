/- Chapter 22 as plain law: two files that are appended to in turn. -/
import Derived.Test.YtmhdhnipljonlaaDiskOne
namespace Go.Proofs.Ytmhdhnipljonlaa
open Go.RowKit
set_option linter.unusedSimpArgs false
set_option linter.unusedVariables false
def fnm (f : Bool) : ByteArray := if f then ⟨#[103]⟩ else ⟨#[102]⟩
def idx (f : Bool) : Nat := if f then 1 else 0
def nowOf (i : Nat) (c : Bool → List UInt8) : DF := if i = 0 then [] else if i = 1 then [(fnm false, c false)] else [(fnm false, c false), (fnm true, c true)]
def cup (c : Bool → List UInt8) (f : Bool) (x : List UInt8) : Bool → List UInt8 := fun g => if g = f then x else c g
theorem lt_FG : strLt (fnm false) (fnm true) = true := by kernel_rfl
theorem lt_GF : strLt (fnm true) (fnm false) = false := by kernel_rfl
section
variable (a b x : List UInt8)
theorem b2F : below strLt [(fnm false, a), (fnm true, b)] (fnm false) = 0 := by unfold below; rw [List.takeWhile_cons, strOrd.irr]; rfl
theorem b2G : below strLt [(fnm false, a), (fnm true, b)] (fnm true) = 1 := by unfold below; rw [List.takeWhile_cons, lt_FG, if_pos rfl, List.takeWhile_cons, strOrd.irr]; rfl
theorem b1G : below strLt [(fnm false, a)] (fnm true) = 1 := by unfold below; rw [List.takeWhile_cons, lt_FG]; rfl
theorem i2F : isIn strLt [(fnm false, a), (fnm true, b)] (fnm false) = true := by unfold isIn; rw [b2F]; exact decide_eq_true ⟨by simp, rfl⟩
theorem i2G : isIn strLt [(fnm false, a), (fnm true, b)] (fnm true) = true := by unfold isIn; rw [b2G]; exact decide_eq_true ⟨by simp, rfl⟩
theorem i1G : isIn strLt [(fnm false, a)] (fnm true) = false := by unfold isIn; rw [b1G]; exact decide_eq_false (fun h => absurd h.1 (by simp))
theorem s2F : tSet strLt [(fnm false, a), (fnm true, b)] (fnm false) x = [(fnm false, x), (fnm true, b)] := by unfold tSet; rw [i2F, b2F]; rfl
theorem s2G : tSet strLt [(fnm false, a), (fnm true, b)] (fnm true) x = [(fnm false, a), (fnm true, x)] := by unfold tSet; rw [i2G, b2G]; rfl
theorem s1G : tSet strLt [(fnm false, a)] (fnm true) x = [(fnm false, a), (fnm true, x)] := by unfold tSet; rw [i1G, b1G]; rfl
theorem g2F : dGet [(fnm false, a), (fnm true, b)] (fnm false) = (a, true) := by rw [dGet_yes (i2F a b), b2F]; rfl
theorem g2G : dGet [(fnm false, a), (fnm true, b)] (fnm true) = (b, true) := by rw [dGet_yes (i2G a b), b2G]; rfl
theorem g1G : dGet [(fnm false, a)] (fnm true) = ([], false) := dGet_no (i1G a)
end
theorem nowOf_two (i : Nat) (c : Bool → List UInt8) (h : 2 ≤ i) : nowOf i c = [(fnm false, c false), (fnm true, c true)] := by unfold nowOf; rw [if_neg (by omega), if_neg (by omega)]
theorem nowOf_get (i : Nat) (c : Bool → List UInt8) (f : Bool) (h : idx f < i) : dGet (nowOf i c) (fnm f) = (c f, true) := by
  rcases Nat.lt_or_ge i 2 with q | q
  · cases f with
    | true => exact absurd h (by unfold idx; simp; omega)
    | false =>
      obtain rfl : i = 1 := by unfold idx at h; simp at h; omega
      exact get_one _ _
  · rw [nowOf_two i c q]
    cases f with
    | true => exact g2G _ _
    | false => exact g2F _ _
theorem nowOf_none (i : Nat) (c : Bool → List UInt8) (f : Bool) (h : i ≤ idx f) : dGet (nowOf i c) (fnm f) = ([], false) := by
  cases f with
  | false => obtain rfl : i = 0 := by unfold idx at h; simpa using h
             rfl
  | true =>
    rcases (show i = 0 ∨ i = 1 by unfold idx at h; simp at h; omega) with rfl | rfl
    · rfl
    · exact g1G _
theorem nowOf_in (i : Nat) (c : Bool → List UInt8) (f : Bool) : inD (nowOf i c) (fnm f) = decide (idx f < i) := by
  rw [← dGet_in]
  by_cases h : idx f < i
  · rw [nowOf_get i c f h, decide_eq_true h]
  · rw [nowOf_none i c f (by omega), decide_eq_false h]
theorem nowOf_put (i : Nat) (c : Bool → List UInt8) (f : Bool) (x : List UInt8) (h : idx f < i) : wApply (wPut (fnm f) x) (nowOf i c) = nowOf i (cup c f (c f ++ x)) := by
  have h1 : wApply (wPut (fnm f) x) (nowOf i c) = tSet strLt (nowOf i c) (fnm f) ((dGet (nowOf i c) (fnm f)).1 ++ x) := rfl
  rw [h1, nowOf_get i c f h]
  rcases Nat.lt_or_ge i 2 with q | q
  · cases f with
    | true => exact absurd h (by unfold idx; simp; omega)
    | false =>
      obtain rfl : i = 1 := by unfold idx at h; simp at h; omega
      exact set_one _ _ _
  · rw [nowOf_two i c q, nowOf_two i _ q]
    cases f with
    | true => exact s2G _ _ _
    | false => exact s2F _ _ _
theorem nowOf_make (c : Bool → List UInt8) (f : Bool) (h : c f = []) : wApply (wMake (fnm f)) (nowOf (idx f) c) = nowOf (idx f + 1) c := by
  cases f with
  | false => show tSet strLt (nowOf 0 c) (fnm false) [] = [(fnm false, c false)]; rw [h]; rfl
  | true =>
    show tSet strLt [(fnm false, c false)] (fnm true) [] = nowOf 2 c
    rw [s1G, nowOf_two 2 c (by omega), h]
theorem nowOf_puts (i : Nat) (f : Bool) (h : idx f < i) : ∀ (l : List (List UInt8)) (c : Bool → List UInt8), wAll (nowOf i c) (l.map (wPut (fnm f))) = nowOf i (cup c f (c f ++ l.flatten))
  | [], c => by
    have : cup c f (c f ++ ([] : List (List UInt8)).flatten) = c := by funext g; unfold cup; split <;> simp_all
    rw [this]; rfl
  | x :: l, c => by
    have h1 : wAll (nowOf i c) ((x :: l).map (wPut (fnm f))) = wAll (wApply (wPut (fnm f) x) (nowOf i c)) (l.map (wPut (fnm f))) := rfl
    rw [h1, nowOf_put i c f x h, nowOf_puts i f h l]
    congr 1
    funext g
    unfold cup
    by_cases hg : g = f
    · rw [if_pos hg, if_pos hg, if_pos rfl]; simp
    · rw [if_neg hg, if_neg hg, if_neg hg]
theorem wAll_app (fs : DF) (l m : List Wr) : wAll fs (l ++ m) = wAll (wAll fs l) m := by unfold wAll; rw [List.foldl_append]
theorem dPut_st (nm : ByteArray) : ∀ (l : List (List UInt8)) (s : DS), dPut nm s l = ⟨wAll s.now (l.map (wPut nm)), s.mark, s.log ++ l.map (wPut nm)⟩
  | [], s => by simp [dPut, wAll]
  | x :: l, s => by
    have h1 : dPut nm s (x :: l) = dPut nm (dDo (wPut nm x) s) l := rfl
    rw [h1, dPut_st nm l]
    unfold dDo wAll
    simp
/-- What was written of a file in the first k raw writes, as the law counts it. -/
def wrote (k raw0 : Nat) (a p : List UInt8) (w j : Nat) : Nat := if min (k - raw0) j = 0 then w else a.length + min (32 * min (k - raw0) j) p.length
theorem wrote_zero (k raw0 : Nat) (a p : List UInt8) (w : Nat) : wrote k raw0 a p w 0 = w := by unfold wrote; rw [if_pos (by omega)]
theorem wrote_yes (k raw0 : Nat) (a p : List UInt8) (w j : Nat) (h : raw0 + j + 1 ≤ k) : wrote k raw0 a p w (j + 1) = a.length + min (32 * (j + 1)) p.length := by
  unfold wrote
  rw [if_neg (by omega), show min (k - raw0) (j + 1) = j + 1 by omega]
theorem wrote_no (k raw0 : Nat) (a p : List UInt8) (w j : Nat) (h : ¬ raw0 + j + 1 ≤ k) : wrote k raw0 a p w (j + 1) = wrote k raw0 a p w j := by
  unfold wrote
  rw [show min (k - raw0) (j + 1) = min (k - raw0) j by omega]
/-- Behind i parts. -/
structure Fr (k i : Nat) (c : Bool → List UInt8) (wr : Bool → Nat) (s : DS) : Prop where
  ok : DOk s
  now : s.now = nowOf i c
  mark : s.mark = []
  none : ∀ f, i ≤ idx f → c f = []
  le : ∀ f, wr f ≤ (c f).length
  back : ∀ f, (dGet (wAll [] (s.log.take k)) (fnm f)).1 = (c f).take (wr f)
  log : s.log.length ≤ 8 * i
  len : ∀ f, (c f).length ≤ 200 * i
theorem Fr.zero (k : Nat) : Fr k 0 (fun _ => []) (fun _ => 0) ⟨[], [], []⟩ := ⟨DOk.zero, rfl, rfl, fun _ _ => rfl, fun _ => Nat.le_refl _, fun f => by show (dGet (wAll [] (([] : List Wr).take k)) (fnm f)).1 = _; rw [List.take_nil]; cases f <;> rfl, by simp, fun _ => by simp⟩
def isF (i : Nat) : Bool := decide (i % 2 = 1)
def nup (w : Bool → Nat) (f : Bool) (x : Nat) : Bool → Nat := fun g => if g = f then x else w g
theorem isF_idx (i : Nat) : (i < 2 → i = idx (isF i)) ∧ (2 ≤ i → idx (isF i) < i) := by
  unfold isF idx
  constructor
  · intro h
    rcases (show i = 0 ∨ i = 1 by omega) with rfl | rfl <;> rfl
  · intro h; split <;> omega
theorem Fr.step {k i : Nat} {c : Bool → List UInt8} {wr : Bool → Nat} {s : DS} (h : Fr k i c wr s) (p : List UInt8) (hp : p.length ≤ 200) (hi : i ≤ 12) :
    (dAppend s (fnm (isF i)) p).1 = 0 ∧ Fr k (i + 1) (cup c (isF i) (c (isF i) ++ p)) (nup wr (isF i) (wrote k (s.log.length + if i < 2 then 1 else 0) (c (isF i)) p (wr (isF i)) (chunks p).length)) (dAppend s (fnm (isF i)) p).2 ∧
    (dAppend s (fnm (isF i)) p).2.log.length = (s.log.length + if i < 2 then 1 else 0) + (chunks p).length := by
  obtain ⟨hf1, hf2⟩ := isF_idx i
  have hcl := chunks_len p
  generalize hf : isF i = f at *
  have hok : nameOk (fnm f) = true := by cases f <;> kernel_rfl
  have hlen : s.now.length ≤ 2 := by rw [h.now]; unfold nowOf; split <;> (try split) <;> simp
  have htot : dTotal s.now ≤ 4800 := by
    have e1 := h.len false
    have e2 := h.len true
    rw [h.now]; unfold nowOf dTotal
    split
    · simp
    · split
      · simp; omega
      · simp; omega
  have hap : dAppend s (fnm f) p = (0, dPut (fnm f) (if inD s.now (fnm f) then s else dDo (wMake (fnm f)) s) (chunks p)) := by unfold dAppend; rw [hok, if_pos rfl, if_neg (by omega)]
  have hnok := h.ok.append (fnm f) p (by omega)
  -- the log ahead of the puts
  obtain ⟨R, hR1, hR2, hR3, hR4⟩ : ∃ R : List Wr, dPut (fnm f) (if inD s.now (fnm f) then s else dDo (wMake (fnm f)) s) (chunks p) = ⟨nowOf (i + 1) (cup c f (c f ++ p)), [], R ++ (chunks p).map (wPut (fnm f))⟩ ∧
      R.length = s.log.length + (if i < 2 then 1 else 0) ∧ wAll [] R = nowOf (if i < 2 then i + 1 else i) c ∧ R.take s.log.length = s.log := by
    have hall : wAll [] s.log = nowOf i c := by rw [← h.now, h.ok.eq, h.mark]
    rcases Nat.lt_or_ge i 2 with q | q
    · have hi2 := hf1 q
      have hin : inD s.now (fnm f) = false := by rw [h.now, nowOf_in]; exact decide_eq_false (by omega)
      have hc := h.none f (by omega)
      have hmk : wApply (wMake (fnm f)) (nowOf i c) = nowOf (i + 1) c := by
        have := nowOf_make c f hc
        rwa [← hi2] at this
      refine ⟨s.log ++ [wMake (fnm f)], ?_, by rw [if_pos q]; simp, by rw [if_pos q, wAll_app, hall]; exact hmk, by simp⟩
      rw [hin, if_neg (by simp), dPut_st]
      show (⟨wAll (wApply (wMake (fnm f)) s.now) _, s.mark, _⟩ : DS) = _
      rw [h.now, hmk, nowOf_puts (i + 1) f (by omega), chunks_all, h.mark]
      rfl
    · have hi2 := hf2 q
      have hin : inD s.now (fnm f) = true := by rw [h.now, nowOf_in]; exact decide_eq_true hi2
      refine ⟨s.log, ?_, by rw [if_neg (by omega)]; rfl, by rw [if_neg (by omega)]; exact hall, List.take_length⟩
      rw [hin, if_pos rfl, dPut_st, h.now, nowOf_puts i f hi2, chunks_all, h.mark, nowOf_two i _ q, nowOf_two (i + 1) _ (by omega)]
  rw [hap] at hnok ⊢
  rw [hR1] at hnok ⊢
  dsimp only at hnok ⊢
  rw [← hR2]
  have hRl : s.log.length ≤ R.length := by rw [hR2]; omega
  refine ⟨rfl, ⟨hnok, rfl, rfl, fun g hg => ?_, fun g => ?_, fun g => ?_, ?_, fun g => ?_⟩, by simp⟩
  · have hgf : g ≠ f := by
      rintro rfl
      rcases Nat.lt_or_ge i 2 with q | q
      · have := hf1 q; omega
      · have := hf2 q; omega
    unfold cup
    rw [if_neg hgf]; exact h.none g (by omega)
  · unfold cup nup
    by_cases hg : g = f
    · rw [if_pos hg, if_pos hg]
      have := h.le f
      unfold wrote
      split <;> (rw [List.length_append]; omega)
    · rw [if_neg hg, if_neg hg]; exact h.le g
  · rcases Nat.lt_or_ge R.length k with hk | hk
    · -- some of the puts
      have htk : (R ++ (chunks p).map (wPut (fnm f))).take k = R ++ ((chunks p).take (k - R.length)).map (wPut (fnm f)) := by
        rw [List.take_append, List.take_of_length_le (by omega), List.map_take]
      have hsl : s.log.take k = s.log := List.take_of_length_le (by omega)
      have hbk := fun g => h.back g
      simp only [hsl] at hbk
      have hnw : wAll [] s.log = nowOf i c := by rw [← h.now, h.ok.eq, h.mark]
      have hfull : ∀ g, (c g).take (wr g) = c g := fun g => by
        rw [← hbk g, hnw]
        by_cases hgi : idx g < i
        · rw [nowOf_get i c g hgi]
        · rw [nowOf_none i c g (by omega), h.none g (by omega)]
      have hif : idx f < (if i < 2 then i + 1 else i) := by
        rcases Nat.lt_or_ge i 2 with q | q
        · rw [if_pos q]; have := hf1 q; omega
        · rw [if_neg (by omega)]; exact hf2 q
      rw [htk, wAll_app, hR3, nowOf_puts _ f hif, chunks_flat]
      have hii : i ≤ (if i < 2 then i + 1 else i) := by split <;> omega
      generalize (if i < 2 then i + 1 else i) = i' at *
      by_cases hg : g = f
      · subst hg
        rw [nowOf_get _ _ g hif]
        unfold cup nup
        rw [if_pos rfl, if_pos rfl, if_pos rfl]
        dsimp only
        unfold wrote
        split
        · rename_i hz
          have hp0 : p = [] := List.eq_nil_of_length_eq_zero (by omega)
          subst hp0
          simp only [List.take_nil, List.append_nil]
          exact (hfull g).symm
        · have e1 : (c g ++ p).take ((c g).length + min (32 * min (k - R.length) (chunks p).length) p.length) = c g ++ p.take (min (32 * min (k - R.length) (chunks p).length) p.length) := by
            rw [List.take_append, List.take_of_length_le (l := c g) (by omega)]
            congr 2; omega
          rw [e1]
          congr 1
          rcases Nat.le_total (32 * (k - R.length)) p.length with r | r
          · rw [show min (32 * min (k - R.length) (chunks p).length) p.length = 32 * (k - R.length) by omega]
          · rw [show min (32 * min (k - R.length) (chunks p).length) p.length = p.length by omega, List.take_of_length_le r, List.take_length]
      · unfold nup
        rw [if_neg hg]
        have hcg : cup c f (c f ++ p) g = c g := by unfold cup; rw [if_neg hg]
        rw [hcg, hfull g]
        by_cases hgi : idx g < i'
        · rw [nowOf_get _ _ g hgi]; unfold cup; rw [if_neg hg]
        · rw [nowOf_none _ _ g (by omega)]
          refine (h.none g ?_).symm
          omega
    · -- none of them
      have htk : (R ++ (chunks p).map (wPut (fnm f))).take k = R.take k := List.take_append_of_le_length hk
      have hw : wrote k R.length (c f) p (wr f) (chunks p).length = wr f := by unfold wrote; rw [if_pos (by omega)]
      have hcr : (cup c f (c f ++ p) g).take (nup wr f (wrote k R.length (c f) p (wr f) (chunks p).length) g) = (c g).take (wr g) := by
        rw [hw]
        unfold cup nup
        by_cases hg : g = f
        · subst hg
          rw [if_pos rfl, if_pos rfl, List.take_append_of_le_length (h.le g)]
        · rw [if_neg hg, if_neg hg]
      rw [htk, hcr, ← h.back g]
      rcases Nat.lt_or_ge s.log.length k with r | r
      · -- k is just behind the making
        have hi2 : i < 2 := by
          rcases Nat.lt_or_ge i 2 with q | q
          · exact q
          · rw [if_neg (by omega)] at hR2; omega
        rw [if_pos hi2] at hR2 hR3
        have hck := hf1 hi2
        have hnw : wAll [] s.log = nowOf i c := by rw [← h.now, h.ok.eq, h.mark]
        rw [List.take_of_length_le (by omega : R.length ≤ k), List.take_of_length_le (by omega : s.log.length ≤ k), hR3, hnw]
        by_cases hgi : idx g < i
        · rw [nowOf_get _ _ g (by omega), nowOf_get _ _ g hgi]
        · rw [nowOf_none i c g (by omega)]
          by_cases hg2 : idx g < i + 1
          · rw [nowOf_get _ _ g hg2]; exact h.none g (by omega)
          · rw [nowOf_none _ _ g (by omega)]
      · have hrt : R.take k = s.log.take k := by rw [← hR4, List.take_take, Nat.min_eq_left r]
        rw [hrt]
  · have := h.log
    simp only [List.length_append, List.length_map]
    rw [hR2]
    split <;> omega
  · have h1 := h.len g
    unfold cup
    by_cases hg : g = f
    · subst hg; rw [if_pos rfl, List.length_append]; omega
    · rw [if_neg hg]; omega
end Go.Proofs.Ytmhdhnipljonlaa
