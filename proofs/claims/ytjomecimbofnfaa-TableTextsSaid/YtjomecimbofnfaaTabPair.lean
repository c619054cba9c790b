/- A table of numbers and one of texts beside it. -/
import Derived.Test.YtjomecimbofnfaaTabII9
import Derived.Test.YtjomecimbofnfaaTabSS9
import Derived.Test.YtjomecimbofnfaaTabText
namespace Go.Proofs.Ytjomecimbofnfaa
open Go.RowKit
set_option linter.unusedSimpArgs false
set_option linter.unusedVariables false
theorem tx_apart {w0 w : World} {g g2 : Nat} {F G : List Nat} {l : List (Int × Int)} {m : List (ByteArray × ByteArray)} (h : TXII w0 w g F l) (k : TXSS w0 w g2 G m) : ∀ x ∈ F, x ∉ G := by
  intro x hF hG
  obtain ⟨lv, rfl, ht⟩ := h.ex
  obtain ⟨lv2, rfl, ht2⟩ := k.ex
  have ty : ∃ C f e, w.heap[x]? = some (.cells C e f) ∧ (e = 110 ∨ e = 113) := by
    rcases List.mem_cons.1 hF with rfl | hF
    · exact ⟨_, _, _, ht.tab, .inl rfl⟩
    · obtain ⟨C, f, hq⟩ := ht.rows.typ x hF
      exact ⟨C, f, _, hq, .inr rfl⟩
  have ty2 : ∃ C f e, w.heap[x]? = some (.cells C e f) ∧ (e = 118 ∨ e = 121) := by
    rcases List.mem_cons.1 hG with rfl | hG
    · exact ⟨_, _, _, ht2.tab, .inl rfl⟩
    · obtain ⟨C, f, hq⟩ := ht2.rows.typ x hG
      exact ⟨C, f, _, hq, .inr rfl⟩
  obtain ⟨C, f, e, h1, h2⟩ := ty
  obtain ⟨C', f', e', h1', h2'⟩ := ty2
  rw [h1] at h1'
  injection h1' with h3; injection h3 with h4 h5 h6
  subst h5
  rcases h2 with h2 | h2 <;> rcases h2' with h2' | h2' <;> (rw [h2] at h2'; exact absurd h2' (by decide))
structure PP (w0 W : World) (ga gb : Nat) (l : List (Int × Int)) (m : List (ByteArray × ByteArray)) : Prop where
  a : ∃ F, TXII w0 W ga F l
  b : ∃ G, TXSS w0 W gb G m
section
variable {w0 W W' : World} {ga gb : Nat} {l : List (Int × Int)} {m : List (ByteArray × ByteArray)}
theorem PP.old (h : PP w0 W ga gb l m) : Upd [] w0 W := by obtain ⟨F, ha⟩ := h.a; exact ha.old
theorem PP.upd0 (h : PP w0 W ga gb l m) (hu : Upd [] W W') : PP w0 W' ga gb l m := by
  obtain ⟨F, ha⟩ := h.a
  obtain ⟨G, hb⟩ := h.b
  exact ⟨⟨F, ha.upd0 hu⟩, ⟨G, hb.upd0 hu⟩⟩
theorem ppSetA (k y : Int) (r : Bool) (l' : List (Int × Int)) (h : PP w0 W ga gb l m) (hlen : l.length ≤ 100000) (hk : I64 k) (h1 : (!isIn ltII l k) = r) (h2 : tSet ltII l k y = l') :
    Calls Try.prog 49 #[.pointer (some ⟨ga, 0, none⟩), iv k, iv y] W fun e w' => e = .returned (.bool r) ∧ PP w0 w' ga gb l' m := by
  obtain ⟨F, ha⟩ := h.a
  obtain ⟨G, hb⟩ := h.b
  refine (txII_Set k y r l' ha hlen hk h1 h2).mono ?_
  rintro e w' ⟨he, F', ha', hu, hf⟩
  exact ⟨he, ⟨F', ha'⟩, ⟨G, hb.upd hu (fun x hx hF => tx_apart ha hb x hF hx) (fun x hx => (ha.ge x hx).1)⟩⟩
theorem ppSetB (k y : ByteArray) (r : Bool) (m' : List (ByteArray × ByteArray)) (h : PP w0 W ga gb l m) (hlen : m.length ≤ 100000) (h1 : (!isIn ltSS m k) = r) (h2 : tSet ltSS m k y = m') :
    Calls Try.prog 55 #[.pointer (some ⟨gb, 0, none⟩), sv k, sv y] W fun e w' => e = .returned (.bool r) ∧ PP w0 w' ga gb l m' := by
  obtain ⟨F, ha⟩ := h.a
  obtain ⟨G, hb⟩ := h.b
  refine (txSS_Set k y r m' hb hlen trivial h1 h2).mono ?_
  rintro e w' ⟨he, F', hb', hu, hf⟩
  exact ⟨he, ⟨F, ha.upd hu (fun x hx hG => tx_apart ha hb x hx hG) (fun x hx => (hb.ge x hx).1)⟩, ⟨F', hb'⟩⟩
theorem ppDelA (k : Int) (r : Bool) (l' : List (Int × Int)) (h : PP w0 W ga gb l m) (hlen : l.length ≤ 100000) (hk : I64 k) (h1 : isIn ltII l k = r) (h2 : tDel ltII l k = l') :
    Calls Try.prog 48 #[.pointer (some ⟨ga, 0, none⟩), iv k] W fun e w' => e = .returned (.bool r) ∧ PP w0 w' ga gb l' m := by
  obtain ⟨F, ha⟩ := h.a
  obtain ⟨G, hb⟩ := h.b
  refine (txII_Del k r l' ha hlen hk h1 h2).mono ?_
  rintro e w' ⟨he, F', ha', hu, hf⟩
  exact ⟨he, ⟨F', ha'⟩, ⟨G, hb.upd hu (fun x hx hF => tx_apart ha hb x hF hx) (fun x hx => (ha.ge x hx).1)⟩⟩
theorem ppDelB (k : ByteArray) (r : Bool) (m' : List (ByteArray × ByteArray)) (h : PP w0 W ga gb l m) (hlen : m.length ≤ 100000) (h1 : isIn ltSS m k = r) (h2 : tDel ltSS m k = m') :
    Calls Try.prog 56 #[.pointer (some ⟨gb, 0, none⟩), sv k] W fun e w' => e = .returned (.bool r) ∧ PP w0 w' ga gb l m' := by
  obtain ⟨F, ha⟩ := h.a
  obtain ⟨G, hb⟩ := h.b
  refine (txSS_Del k r m' hb hlen trivial h1 h2).mono ?_
  rintro e w' ⟨he, F', hb', hu, hf⟩
  exact ⟨he, ⟨F, ha.upd hu (fun x hx hG => tx_apart ha hb x hx hG) (fun x hx => (hb.ge x hx).1)⟩, ⟨F', hb'⟩⟩
theorem ppGetA (k y : Int) (r : Bool) (h : PP w0 W ga gb l m) (hlen : l.length ≤ 100000) (hk : I64 k) (h1 : tGet ltII 0 l k = (y, r)) :
    Calls Try.prog 51 #[.pointer (some ⟨ga, 0, none⟩), iv k] W fun e w' => e = .returned (.tuple #[iv y, .bool r]) ∧ PP w0 w' ga gb l m := by
  obtain ⟨F, ha⟩ := h.a
  refine (txII_Get k y r ha hlen hk h1).mono ?_
  rintro e w' ⟨he, hu⟩
  exact ⟨he, h.upd0 hu⟩
theorem ppGetB (k y : ByteArray) (r : Bool) (h : PP w0 W ga gb l m) (hlen : m.length ≤ 100000) (h1 : tGet ltSS (⟨#[]⟩ : ByteArray) m k = (y, r)) :
    Calls Try.prog 57 #[.pointer (some ⟨gb, 0, none⟩), sv k] W fun e w' => e = .returned (.tuple #[sv y, .bool r]) ∧ PP w0 w' ga gb l m := by
  obtain ⟨F, hb⟩ := h.b
  refine (txSS_Get k y r hb hlen trivial h1).mono ?_
  rintro e w' ⟨he, hu⟩
  exact ⟨he, h.upd0 hu⟩
theorem ppLeastA (k : Int) (n : Nat) (h : PP w0 W ga gb l m) (hlen : l.length ≤ 100000) (hk : I64 k) (h1 : below ltII l k = n) :
    Calls Try.prog 52 #[.pointer (some ⟨ga, 0, none⟩), iv k] W fun e w' => e = .returned (.int .i64 (n : Int)) ∧ PP w0 w' ga gb l m := by
  obtain ⟨F, ha⟩ := h.a
  refine (txII_Least k n ha hlen hk h1).mono ?_
  rintro e w' ⟨he, hu⟩
  exact ⟨he, h.upd0 hu⟩
theorem ppLeastB (k : ByteArray) (n : Nat) (h : PP w0 W ga gb l m) (hlen : m.length ≤ 100000) (h1 : below ltSS m k = n) :
    Calls Try.prog 58 #[.pointer (some ⟨gb, 0, none⟩), sv k] W fun e w' => e = .returned (.int .i64 (n : Int)) ∧ PP w0 w' ga gb l m := by
  obtain ⟨F, hb⟩ := h.b
  refine (txSS_Least k n hb hlen trivial h1).mono ?_
  rintro e w' ⟨he, hu⟩
  exact ⟨he, h.upd0 hu⟩
theorem ppText (n : Int) (h : PP w0 W ga gb l m) (hn : I64 n) (s : ByteArray) (hs : txt n = s) :
    Calls Try.prog 54 #[iv n] W fun e w' => e = .returned (.string s) ∧ PP w0 w' ga gb l m := by
  subst hs
  refine (text_any W n hn).mono ?_
  rintro e w' ⟨he, hu⟩
  exact ⟨he, h.upd0 hu⟩
end
end Go.Proofs.Ytjomecimbofnfaa
