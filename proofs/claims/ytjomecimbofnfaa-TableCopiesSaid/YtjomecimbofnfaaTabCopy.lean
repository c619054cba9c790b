/- Two tables of numbers and two lists beside one another. -/
import Derived.Test.YtjomecimbofnfaaTabII8
import Derived.Test.YtjomecimbofnfaaTabStep2
import Derived.Test.YtjomecimbofnfaaApart
import Derived.Test.YtjomecimbofnfaaOwnSet
import Derived.Test.YtjomecimbofnfaaBookInt
namespace Go.Proofs.Ytjomecimbofnfaa
open Go.RowKit
set_option linter.unusedSimpArgs false
set_option linter.unusedVariables false
theorem Own.typ {α : Type} {c : α → Value} {base : Nat} {e : TypeId} {w : World} {v : Value} {l : List α} (h : Own c base e w v l) : ∀ x ∈ blk v, ∃ C f, w.heap[x]? = some (.cells C e f) := by
  intro x hx
  rcases h.2 with ⟨rfl, _⟩ | ⟨g, cap, cur, rfl, _, hg, _⟩
  · simp [blk] at hx
  · simp [blk] at hx; subst hx; exact ⟨_, _, hg⟩
theorem own_apart {w0 w : World} {g : Nat} {F : List Nat} {l : List (Int × Int)} {base : Nat} {v : Value} {m : List Int} (h : TXII w0 w g F l) (hv : Own iv base 3 w v m) : ∀ x ∈ blk v, x ∉ F := by
  intro x hx hF
  obtain ⟨lv, rfl, ht⟩ := h.ex
  obtain ⟨C, f, hq⟩ := hv.typ x hx
  rcases List.mem_cons.1 hF with rfl | hF
  · exact ht.tab.ne x hq (by decide) rfl
  · obtain ⟨C2, f2, hq2⟩ := ht.rows.typ x hF
    rw [hq] at hq2
    injection hq2 with h1; injection h1 with h2 h3 h4
    exact absurd h3 (by decide)
theorem txII_Copy {w0 w : World} {g : Nat} {F : List Nat} {l : List (Int × Int)} (hs : TXII w0 w g F l) (hlen : l.length ≤ 100000) :
    Calls Try.prog 60 #[.pointer (some ⟨g, 0, none⟩)] w fun e w' => ∃ g' G, e = .returned (.pointer (some ⟨g', 0, none⟩)) ∧ TXII w0 w' g' G l ∧ Upd [] w w' ∧ (∀ x ∈ G, w.heap.size ≤ x) := by
  have hr := hs.ris
  have hold := hs.old
  obtain ⟨⟨lv, rfl, ht⟩, -, -⟩ := hs
  refine (tCopyII_any w ht hlen).mono ?_
  rintro e w' ⟨g', lv', rfl, ht', hu⟩
  have := hold.size
  exact ⟨g', _, rfl, ⟨⟨lv', rfl, ⟨ht'.tab, ht'.rows.base_le this, by have := ht'.gb; omega⟩⟩, hr, hold.seq hu⟩, hu, fun x hx => (ht'.lt x hx).1⟩
structure CS (w0 W : World) (ga gc : Nat) (l m : List (Int × Int)) (vk : Value) (ks : List Int) (vw : Value) (ws : List Int) : Prop where
  tab : ∃ F G, TXII w0 W ga F l ∧ TXII w0 W gc G m ∧ Ap F G
  keys : Own iv w0.heap.size 3 W vk ks
  was : Own iv w0.heap.size 3 W vw ws
  ap : Ap (blk vk) (blk vw)
section
variable {w0 W W' : World} {ga gc : Nat} {l m : List (Int × Int)} {vk vw : Value} {ks ws : List Int}
theorem CS.old (h : CS w0 W ga gc l m vk ks vw ws) : Upd [] w0 W := by obtain ⟨F, G, ha, -⟩ := h.tab; exact ha.old
theorem CS.upd0 (h : CS w0 W ga gc l m vk ks vw ws) (hu : Upd [] W W') : CS w0 W' ga gc l m vk ks vw ws := by
  obtain ⟨F, G, ha, hb, hab⟩ := h.tab
  exact ⟨⟨F, G, ha.upd0 hu, hb.upd0 hu, hab⟩, h.keys.upd hu (by simp), h.was.upd hu (by simp), h.ap⟩
theorem CS.stepB (h : CS w0 W ga gc l m vk ks vw ws) {F G G' : List Nat} {m' : List (Int × Int)} (ha : TXII w0 W ga F l) (hb : TXII w0 W gc G m) (hab : Ap F G) (hb' : TXII w0 W' gc G' m') (hu : Upd G W W') (hg : ∀ x ∈ G', x ∈ G ∨ W.heap.size ≤ x) : CS w0 W' ga gc l m' vk ks vw ws :=
  ⟨⟨F, G', ha.upd hu hab (fun x hx => (hb.ge x hx).1), hb', (hab.symm.next hg (fun x hx => (ha.ge x hx).2)).symm⟩, h.keys.upd hu (own_apart hb h.keys), h.was.upd hu (own_apart hb h.was), h.ap⟩
theorem CS.stepA (h : CS w0 W ga gc l m vk ks vw ws) {F G F' : List Nat} {l' : List (Int × Int)} (ha : TXII w0 W ga F l) (hb : TXII w0 W gc G m) (hab : Ap F G) (ha' : TXII w0 W' ga F' l') (hu : Upd F W W') (hg : ∀ x ∈ F', x ∈ F ∨ W.heap.size ≤ x) : CS w0 W' ga gc l' m vk ks vw ws :=
  ⟨⟨F', G, ha', hb.upd hu hab.symm (fun x hx => (ha.ge x hx).1), hab.next hg (fun x hx => (hb.ge x hx).2)⟩, h.keys.upd hu (own_apart ha h.keys), h.was.upd hu (own_apart ha h.was), h.ap⟩
theorem csSetC (k y : Int) (r : Bool) (m' : List (Int × Int)) (h : CS w0 W ga gc l m vk ks vw ws) (hlen : m.length ≤ 100000) (hk : I64 k) (h1 : (!isIn ltII m k) = r) (h2 : tSet ltII m k y = m') :
    Calls Try.prog 49 #[.pointer (some ⟨gc, 0, none⟩), iv k, iv y] W fun e w' => e = .returned (.bool r) ∧ CS w0 w' ga gc l m' vk ks vw ws := by
  obtain ⟨F, G, ha, hb, hab⟩ := h.tab
  refine (txII_Set k y r m' hb hlen hk h1 h2).mono ?_
  rintro e w' ⟨he, F', hb', hu, hf⟩
  exact ⟨he, h.stepB ha hb hab hb' hu hf⟩
theorem csDelC (k : Int) (r : Bool) (m' : List (Int × Int)) (h : CS w0 W ga gc l m vk ks vw ws) (hlen : m.length ≤ 100000) (hk : I64 k) (h1 : isIn ltII m k = r) (h2 : tDel ltII m k = m') :
    Calls Try.prog 48 #[.pointer (some ⟨gc, 0, none⟩), iv k] W fun e w' => e = .returned (.bool r) ∧ CS w0 w' ga gc l m' vk ks vw ws := by
  obtain ⟨F, G, ha, hb, hab⟩ := h.tab
  refine (txII_Del k r m' hb hlen hk h1 h2).mono ?_
  rintro e w' ⟨he, F', hb', hu, hf⟩
  exact ⟨he, h.stepB ha hb hab hb' hu hf⟩
theorem csDelA (k : Int) (r : Bool) (l' : List (Int × Int)) (h : CS w0 W ga gc l m vk ks vw ws) (hlen : l.length ≤ 100000) (hk : I64 k) (h1 : isIn ltII l k = r) (h2 : tDel ltII l k = l') :
    Calls Try.prog 48 #[.pointer (some ⟨ga, 0, none⟩), iv k] W fun e w' => e = .returned (.bool r) ∧ CS w0 w' ga gc l' m vk ks vw ws := by
  obtain ⟨F, G, ha, hb, hab⟩ := h.tab
  refine (txII_Del k r l' ha hlen hk h1 h2).mono ?_
  rintro e w' ⟨he, F', ha', hu, hf⟩
  exact ⟨he, h.stepA ha hb hab ha' hu hf⟩
theorem csGetA (k y : Int) (r : Bool) (h : CS w0 W ga gc l m vk ks vw ws) (hlen : l.length ≤ 100000) (hk : I64 k) (h1 : tGet ltII 0 l k = (y, r)) :
    Calls Try.prog 51 #[.pointer (some ⟨ga, 0, none⟩), iv k] W fun e w' => e = .returned (.tuple #[iv y, .bool r]) ∧ CS w0 w' ga gc l m vk ks vw ws := by
  obtain ⟨F, G, ha, hb, hab⟩ := h.tab
  refine (txII_Get k y r ha hlen hk h1).mono ?_
  rintro e w' ⟨he, hu⟩
  exact ⟨he, h.upd0 hu⟩
theorem csLenA (n : Int) (h : CS w0 W ga gc l m vk ks vw ws) (h1 : (l.length : Int) = n) :
    Calls Try.prog 46 #[.pointer (some ⟨ga, 0, none⟩)] W fun e w' => e = .returned (.int .i64 n) ∧ CS w0 w' ga gc l m vk ks vw ws := by
  obtain ⟨F, G, ha, hb, hab⟩ := h.tab
  refine (txII_Len n ha h1).mono ?_
  rintro e w' ⟨he, hu⟩
  exact ⟨he, h.upd0 (by rw [hu]; exact Upd.refl _ _)⟩
theorem csKeysA (ns : List Int) (h : CS w0 W ga gc l m vk ks vw ws) (hlen : l.length ≤ 100000) (h1 : l.map (·.1) = ns) :
    Calls Try.prog 47 #[.pointer (some ⟨ga, 0, none⟩)] W fun e w' => ∃ v, e = .returned v ∧ CS w0 w' ga gc l m vk ks vw ws ∧ Rd iv w' v ns := by
  obtain ⟨F, G, ha, hb, hab⟩ := h.tab
  refine (txII_Keys ns ha hlen h1).mono ?_
  rintro e w' ⟨v, he, ho, hu⟩
  exact ⟨v, he, h.upd0 hu, ho.rd⟩
theorem csGetC (k y : Int) (r : Bool) (h : CS w0 W ga gc l m vk ks vw ws) (hlen : m.length ≤ 100000) (hk : I64 k) (h1 : tGet ltII 0 m k = (y, r)) :
    Calls Try.prog 51 #[.pointer (some ⟨gc, 0, none⟩), iv k] W fun e w' => e = .returned (.tuple #[iv y, .bool r]) ∧ CS w0 w' ga gc l m vk ks vw ws := by
  obtain ⟨F, G, ha, hb, hab⟩ := h.tab
  refine (txII_Get k y r hb hlen hk h1).mono ?_
  rintro e w' ⟨he, hu⟩
  exact ⟨he, h.upd0 hu⟩
theorem csLenC (n : Int) (h : CS w0 W ga gc l m vk ks vw ws) (h1 : (m.length : Int) = n) :
    Calls Try.prog 46 #[.pointer (some ⟨gc, 0, none⟩)] W fun e w' => e = .returned (.int .i64 n) ∧ CS w0 w' ga gc l m vk ks vw ws := by
  obtain ⟨F, G, ha, hb, hab⟩ := h.tab
  refine (txII_Len n hb h1).mono ?_
  rintro e w' ⟨he, hu⟩
  exact ⟨he, h.upd0 (by rw [hu]; exact Upd.refl _ _)⟩
theorem csKeysC (ns : List Int) (h : CS w0 W ga gc l m vk ks vw ws) (hlen : m.length ≤ 100000) (h1 : m.map (·.1) = ns) :
    Calls Try.prog 47 #[.pointer (some ⟨gc, 0, none⟩)] W fun e w' => ∃ v, e = .returned v ∧ CS w0 w' ga gc l m vk ks vw ws ∧ Rd iv w' v ns := by
  obtain ⟨F, G, ha, hb, hab⟩ := h.tab
  refine (txII_Keys ns hb hlen h1).mono ?_
  rintro e w' ⟨v, he, ho, hu⟩
  exact ⟨v, he, h.upd0 hu, ho.rd⟩
theorem csSame (v : Value) (ns : List Int) (h : CS w0 W ga gc l m vk ks vw ws) (hv : Rd iv W v ns) (he : ns = ws) :
    Calls Try.prog 16 #[v, vw] W fun e w' => e = .returned (.bool true) ∧ CS w0 w' ga gc l m vk ks vw ws := by
  refine (sameInt_any v vw ns ws W hv h.was.rd).mono ?_
  rintro e w' ⟨h1, n, rfl⟩
  exact ⟨by rw [h1, decide_eq_true he], h.upd0 ((Upd.refl [] W).drewN n)⟩
end
theorem tGet_first {l : List (Int × Int)} (h : Rising ltII l) (i : Nat) (hi : i < l.length) : tGet ltII 0 (l.drop i) (nth l i).1 = ((nth l i).2, true) ∧ tDel ltII (l.drop i) (nth l i).1 = l.drop (i + 1) ∧ isIn ltII (l.drop i) (nth l i).1 = true := by
  have hd := h.drop i
  have h0 : 0 < (l.drop i).length := by rw [List.length_drop]; omega
  have e : nth l i = nth (l.drop i) 0 := by rw [nth_drop]; rfl
  rw [e]
  refine ⟨tGet_at intOrd 0 hd 0 h0, ?_, isIn_at intOrd hd 0 h0⟩
  unfold tDel
  rw [isIn_at intOrd hd 0 h0, below_at intOrd hd 0 h0]
  simp
end Go.Proofs.Ytjomecimbofnfaa
