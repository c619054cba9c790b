/- Texts of the proof, joined: Chapter 25 as plain law: records, their bytes, and back. Chapter 24 as plain law: changes, their bytes, and back. Slices whose elements have several cells. Slices of the call's own whose elements have several cells. Chapter 24: changes as a payload. A slice cut at its beginning, or at its end: the run. Chapter 2: a reader, and how it reads a number. A region that draws its order and whose calls give plain values and turn nothing that was there: one walk in the text's order. Chapter 2: Upto, Text, Flag, End of a reader. Chapter 2: Text and Items of a reader. append onto a list of the call's own, at the run, at a step of a region that draws, and at a plain list. Slices' values. -/
import Derived.Test.YtmhojaiajhdlcaaGreatMj1
import Derived.Deep.RegionHeld3
namespace Go.Proofs.YtmhojaiajhdlcaaGreat
open Go.RowKit
set_option linter.unusedSimpArgs false
set_option linter.unusedVariables false
/-- Ten places. -/
abbrev C10 := {l : List Int // l.length = 10}
def c10z : C10 := ⟨[0, 0, 0, 0, 0, 0, 0, 0, 0, 0], rfl⟩
structure Key where
  ino : Int
  gen : Int
  at_ : Int
  rule : ByteArray
structure Rec where
  key : Key
  kind : Int
  caps : C10
theorem Key.ext' {a b : Key} (h1 : a.ino = b.ino) (h2 : a.gen = b.gen) (h3 : a.at_ = b.at_) (h4 : a.rule = b.rule) : a = b := by
  obtain ⟨a1, a2, a3, a4⟩ := a
  obtain ⟨b1, b2, b3, b4⟩ := b
  dsimp only at h1 h2 h3 h4
  rw [h1, h2, h3, h4]
instance : DecidableEq Key := fun a b => decidable_of_iff (a.ino = b.ino ∧ a.gen = b.gen ∧ a.at_ = b.at_ ∧ a.rule = b.rule) ⟨fun h => Key.ext' h.1 h.2.1 h.2.2.1 h.2.2.2, fun h => by rw [h]; exact ⟨rfl, rfl, rfl, rfl⟩⟩
theorem Rec.ext' {a b : Rec} (h1 : a.key = b.key) (h2 : a.kind = b.kind) (h3 : a.caps = b.caps) : a = b := by
  obtain ⟨a1, a2, a3⟩ := a
  obtain ⟨b1, b2, b3⟩ := b
  dsimp only at h1 h2 h3
  rw [h1, h2, h3]
instance : DecidableEq Rec := fun a b => decidable_of_iff (a.key = b.key ∧ a.kind = b.kind ∧ a.caps = b.caps) ⟨fun h => Rec.ext' h.1 h.2.1 h.2.2, fun h => by rw [h]; exact ⟨rfl, rfl, rfl⟩⟩
def kz : Key := ⟨0, 0, 0, ⟨#[]⟩⟩
def rz : Rec := ⟨kz, 0, c10z⟩
instance : Inhabited Key := ⟨kz⟩
instance : Inhabited Rec := ⟨rz⟩
abbrev keyCells (k : Key) : List Value := [.int .i64 k.ino, .int .i64 k.gen, .int .i64 k.at_, .string k.rule]
abbrev recCells (r : Rec) : List Value := keyCells r.key ++ .int .i64 r.kind :: r.caps.1.map iv
abbrev keyVal (k : Key) : Value := .agg (keyCells k).toArray
abbrev recVal (r : Rec) : Value := .agg (recCells r).toArray
theorem recCells_len (r : Rec) : (recCells r).length = 15 := by
  have := r.caps.2
  simp [this]
theorem recCells_one : ∀ x, ∀ u ∈ recCells x, u.oneCell' = true := by
  intro x u hu
  simp only [List.mem_append, List.mem_cons, List.not_mem_nil, or_false, List.mem_map] at hu
  rcases hu with (rfl | rfl | rfl | rfl) | rfl | ⟨c, _, rfl⟩ <;> rfl
theorem ten {l : List Int} (h : l.length = 10) : ∃ c0 c1 c2 c3 c4 c5 c6 c7 c8 c9, l = [c0, c1, c2, c3, c4, c5, c6, c7, c8, c9] := by
  match l, h with
  | [c0, c1, c2, c3, c4, c5, c6, c7, c8, c9], _ => exact ⟨c0, c1, c2, c3, c4, c5, c6, c7, c8, c9, rfl⟩
/-- Numbers of a record that are numbers of the machine. -/
structure Rec64 (r : Rec) : Prop where
  ino : I64 r.key.ino
  gen : I64 r.key.gen
  at_ : I64 r.key.at_
  kind : I64 r.kind
  caps : ∀ c ∈ r.caps.1, I64 c
/-- A byte of a rule's name. -/
def ruleCh (c : UInt8) : Bool := decide ((97 ≤ c.toNat ∧ c.toNat ≤ 122) ∨ (65 ≤ c.toNat ∧ c.toNat ≤ 90) ∨ (48 ≤ c.toNat ∧ c.toNat ≤ 57) ∨ c.toNat = 45 ∨ c.toNat = 95 ∨ c.toNat = 46)
def ruleOk (s : ByteArray) : Bool := decide (1 ≤ s.size ∧ s.size ≤ 32 ∧ ∀ j (h : j < s.size), ruleCh s[j] = true)
def capOk (c : Int) : Bool := decide (-1 ≤ c ∧ c ≤ 500)
def recOk (r : Rec) : Bool :=
  decide (1 ≤ r.key.ino ∧ r.key.ino ≤ 12 ∧ 1 ≤ r.key.gen ∧ r.key.gen ≤ 1099511627776 ∧ 0 ≤ r.key.at_ ∧ r.key.at_ ≤ 1099511627776) &&
  (if r.kind = 2 then decide (r.key.rule = ⟨#[]⟩ ∧ r.caps = c10z) else if r.kind = 1 then r.caps.1.all capOk && ruleOk r.key.rule else false)
/-- A record as bytes. -/
def encCaps (l : List Int) : List UInt8 := l.flatMap fun c => encNum (c + 1).toNat
def encRec (r : Rec) : List UInt8 := encNum r.key.ino.toNat ++ encNum r.key.gen.toNat ++ encNum r.key.at_.toNat ++ encText r.key.rule ++ encNum r.kind.toNat ++ encCaps r.caps.1
/-- Ten numbers, each less one. -/
def rdCaps (B : List UInt8) : Nat → RSt → List Int × RSt
  | 0, s => ([], s)
  | n + 1, s => ((rdCaps B n s).1 ++ [((rdNum B (rdCaps B n s).2).1 : Int) - 1], (rdNum B (rdCaps B n s).2).2)
theorem rdCaps_len (B : List UInt8) : ∀ n s, (rdCaps B n s).1.length = n
  | 0, s => rfl
  | n + 1, s => by
    have := rdCaps_len B n s
    simp [rdCaps, this]
def rdA (B : List UInt8) : Nat × RSt := rdNum B (0, 0)
def rdB (B : List UInt8) : Nat × RSt := rdNum B (rdA B).2
def rdC (B : List UInt8) : Nat × RSt := rdNum B (rdB B).2
def rdT (B : List UInt8) : List UInt8 × RSt := rdText B 32 (rdC B).2
def rdK (B : List UInt8) : Nat × RSt := rdNum B (rdT B).2
def rdX (B : List UInt8) : List Int × RSt := rdCaps B 10 (rdK B).2
theorem rdX_len (B : List UInt8) : (rdX B).1.length = 10 := rdCaps_len B 10 _
/-- What is read of bytes, whatever they are. -/
def rawRec (B : List UInt8) : Rec := ⟨⟨(rdA B).1, (rdB B).1, (rdC B).1, strOf (rdT B).1⟩, (rdK B).1, ⟨(rdX B).1, rdX_len B⟩⟩
def getRec (B : List UInt8) : Rec × Bool := if (rdEnd B (rdX B).2).2 = 0 ∧ recOk (rawRec B) = true then (rawRec B, true) else (rz, false)
/-- A reader that is right, and stands ahead of r. -/
structure Ahead (B : List UInt8) (s : RSt) (r : List UInt8) : Prop where
  er : s.2 = 0
  le : s.1 ≤ B.length
  eq : B.drop s.1 = r
theorem Ahead.zero (B : List UInt8) : Ahead B (0, 0) B := ⟨rfl, Nat.zero_le _, rfl⟩
theorem Ahead.step {B : List UInt8} {s : RSt} {a r : List UInt8} (h : Ahead B s (a ++ r)) : Ahead B (s.1 + a.length, 0) r := by
  have hl : (B.drop s.1).length = a.length + r.length := by rw [h.eq, List.length_append]
  rw [List.length_drop] at hl
  have := h.le
  refine ⟨rfl, by show s.1 + a.length ≤ _; omega, ?_⟩
  show B.drop (s.1 + a.length) = r
  rw [← List.drop_drop, h.eq, List.drop_left]
theorem rdNum_at {B : List UInt8} {s : RSt} {n : Nat} {r : List UInt8} (h : Ahead B s (encNum n ++ r)) (hn : n < 9223372036854775808) : ∃ s', rdNum B s = (n, s') ∧ Ahead B s' r := by
  refine ⟨(s.1 + (encNum n).length, 0), ?_, h.step⟩
  unfold rdNum
  rw [h.er, h.eq, numAt_enc n hn r, encNum_len]
  simp
theorem rdText_at {B : List UInt8} {s : RSt} {t r : List UInt8} {most : Int} (h : Ahead B s (encNum t.length ++ (t ++ r))) (hn : t.length < 9223372036854775808) (hm : (t.length : Int) ≤ most) : ∃ s', rdText B most s = (t, s') ∧ Ahead B s' r := by
  obtain ⟨s1, h1, h2⟩ := rdNum_at h hn
  have hu : rdUpto B most s = (t.length, s1) := by
    unfold rdUpto
    rw [h1, if_neg]
    rintro ⟨_, q⟩
    dsimp only at q; omega
  have hl : (B.drop s1.1).length = t.length + r.length := by rw [h2.eq, List.length_append]
  rw [List.length_drop] at hl
  refine ⟨(s1.1 + t.length, 0), ?_, h2.step⟩
  unfold rdText
  rw [hu]
  dsimp only
  rw [if_neg (by rw [h2.er]; simp), if_neg (by omega), h2.eq, List.take_left]
theorem encCaps_cons (c : Int) (l : List Int) : encCaps (c :: l) = encNum (c + 1).toNat ++ encCaps l := rfl
theorem encCaps_app (l m : List Int) : encCaps (l ++ m) = encCaps l ++ encCaps m := by unfold encCaps; rw [List.flatMap_append]
theorem rdCaps_at {B : List UInt8} {l : List Int} {s : RSt} {r : List UInt8} (hc : ∀ c ∈ l, -1 ≤ c ∧ c < 9223372036854775807) (h : Ahead B s (encCaps l ++ r)) : ∀ n, n ≤ l.length → ∃ s', rdCaps B n s = (l.take n, s') ∧ Ahead B s' (encCaps (l.drop n) ++ r)
  | 0, _ => ⟨s, by simp [rdCaps], by simpa using h⟩
  | n + 1, hn => by
    obtain ⟨s1, h1, h2⟩ := rdCaps_at hc h n (by omega)
    have hd : l.drop n = l[n] :: l.drop (n + 1) := (List.drop_eq_getElem_cons (by omega))
    rw [hd, encCaps_cons, List.append_assoc] at h2
    have hcc := hc l[n] (List.getElem_mem _)
    obtain ⟨s2, h3, h4⟩ := rdNum_at h2 (by omega)
    refine ⟨s2, ?_, h4⟩
    show ((rdCaps B n s).1 ++ [((rdNum B (rdCaps B n s).2).1 : Int) - 1], (rdNum B (rdCaps B n s).2).2) = _
    rw [h1]
    dsimp only
    rw [h3]
    dsimp only
    rw [show (((l[n] + 1).toNat : Nat) : Int) - 1 = l[n] by omega, List.take_succ_eq_append_getElem (by omega)]
theorem rdEnd_at {B : List UInt8} {s : RSt} (h : Ahead B s []) : (rdEnd B s).2 = 0 := by
  have h1 := h.le
  have h2 : (B.drop s.1).length = 0 := by rw [h.eq]; rfl
  rw [List.length_drop] at h2
  unfold rdEnd
  rw [if_neg (by omega)]
  exact h.er
/-- Numbers that a right record has. -/
structure RecIn (r : Rec) : Prop where
  ino : 1 ≤ r.key.ino ∧ r.key.ino ≤ 12
  gen : 1 ≤ r.key.gen ∧ r.key.gen ≤ 1099511627776
  at_ : 0 ≤ r.key.at_ ∧ r.key.at_ ≤ 1099511627776
  kind : r.kind = 1 ∨ r.kind = 2
  caps : ∀ c ∈ r.caps.1, -1 ≤ c ∧ c ≤ 500
  rule : r.key.rule.size ≤ 32
theorem recOk_in {r : Rec} (h : recOk r = true) : RecIn r := by
  unfold recOk at h
  rw [Bool.and_eq_true, decide_eq_true_eq] at h
  obtain ⟨⟨h1, h2, h3, h4, h5, h6⟩, h7⟩ := h
  split at h7
  · rename_i hk
    obtain ⟨e1, e2⟩ := of_decide_eq_true h7
    refine ⟨⟨h1, h2⟩, ⟨h3, h4⟩, ⟨h5, h6⟩, .inr hk, fun c hc => ?_, by rw [e1]; decide⟩
    rw [e2] at hc
    simp [c10z] at hc
    omega
  · split at h7
    · rename_i hk
      rw [Bool.and_eq_true] at h7
      obtain ⟨e1, e2⟩ := h7
      refine ⟨⟨h1, h2⟩, ⟨h3, h4⟩, ⟨h5, h6⟩, .inl hk, fun c hc => ?_, ?_⟩
      · exact of_decide_eq_true (List.all_eq_true.1 e1 c hc)
      · exact (of_decide_eq_true e2).2.1
    · exact absurd h7 (by simp)
theorem strOf_toList (s : ByteArray) : strOf s.data.toList = s := by
  unfold strOf; rfl
theorem size_toList (s : ByteArray) : s.data.toList.length = s.size := by rw [Array.length_toList]; rfl
/-- What is written of a record is read. -/
theorem get_enc {r : Rec} (h : recOk r = true) : getRec (encRec r) = (r, true) := by
  have hi := recOk_in h
  have h0 : Ahead (encRec r) (0, 0) (encNum r.key.ino.toNat ++ (encNum r.key.gen.toNat ++ (encNum r.key.at_.toNat ++ (encNum r.key.rule.data.toList.length ++ (r.key.rule.data.toList ++ (encNum r.kind.toNat ++ (encCaps r.caps.1 ++ []))))))) := by
    have := Ahead.zero (encRec r)
    unfold encRec encText at this ⊢
    simpa only [List.append_assoc, List.append_nil, size_toList] using this
  have i1 := hi.ino
  have i2 := hi.gen
  have i3 := hi.at_
  have i4 := hi.rule
  have i5 := hi.kind
  have i6 := size_toList r.key.rule
  obtain ⟨s1, a1, h1⟩ := rdNum_at h0 (by omega)
  obtain ⟨s2, a2, h2⟩ := rdNum_at h1 (by omega)
  obtain ⟨s3, a3, h3⟩ := rdNum_at h2 (by omega)
  obtain ⟨s4, a4, h4⟩ := rdText_at (most := 32) h3 (by omega) (by omega)
  obtain ⟨s5, a5, h5⟩ := rdNum_at h4 (by omega)
  obtain ⟨s6, a6, h6⟩ := rdCaps_at (fun c hc => by have := hi.caps c hc; omega) h5 10 (by rw [r.caps.2]; omega)
  rw [List.take_of_length_le (by rw [r.caps.2]; omega)] at a6
  rw [List.drop_of_length_le (by rw [r.caps.2]; omega)] at h6
  have e1 : rdA (encRec r) = (r.key.ino.toNat, s1) := a1
  have e2 : rdB (encRec r) = (r.key.gen.toNat, s2) := by unfold rdB; rw [e1]; exact a2
  have e3 : rdC (encRec r) = (r.key.at_.toNat, s3) := by unfold rdC; rw [e2]; exact a3
  have e4 : rdT (encRec r) = (r.key.rule.data.toList, s4) := by unfold rdT; rw [e3]; exact a4
  have e5 : rdK (encRec r) = (r.kind.toNat, s5) := by unfold rdK; rw [e4]; exact a5
  have e6 : rdX (encRec r) = (r.caps.1, s6) := by unfold rdX; rw [e5]; exact a6
  have er : rawRec (encRec r) = r := by
    refine Rec.ext' (Key.ext' ?_ ?_ ?_ ?_) ?_ (Subtype.ext ?_)
    · show ((rdA (encRec r)).1 : Int) = _; rw [e1]; show ((r.key.ino.toNat : Nat) : Int) = _; omega
    · show ((rdB (encRec r)).1 : Int) = _; rw [e2]; show ((r.key.gen.toNat : Nat) : Int) = _; omega
    · show ((rdC (encRec r)).1 : Int) = _; rw [e3]; show ((r.key.at_.toNat : Nat) : Int) = _; omega
    · show strOf (rdT (encRec r)).1 = _; rw [e4]; exact strOf_toList _
    · show ((rdK (encRec r)).1 : Int) = _; rw [e5]; show ((r.kind.toNat : Nat) : Int) = _; omega
    · show (rdX (encRec r)).1 = _; rw [e6]
  unfold getRec
  rw [er, e6, if_pos ⟨rdEnd_at (by simpa [encCaps] using h6), h⟩]
/-- What was read without an error. -/
theorem rdNum_of {B : List UInt8} {s : RSt} (h : (rdNum B s).2.2 = 0) (hs : s.1 ≤ B.length) : s.2 = 0 ∧ (rdNum B s).2.1 ≤ B.length ∧ B.drop s.1 = encNum (rdNum B s).1 ++ B.drop (rdNum B s).2.1 := by
  have hz : s.2 = 0 := by
    rcases Nat.eq_zero_or_pos s.2 with q | q
    · exact q
    · unfold rdNum at h
      rw [if_pos (by omega)] at h
      exact h
  have hn : (numAt (B.drop s.1)).2.2 = 0 := by
    rcases Nat.eq_zero_or_pos (numAt (B.drop s.1)).2.2 with q | q
    · exact q
    · unfold rdNum at h
      rw [if_neg (by omega), if_pos (by omega)] at h
      exact h
  have he : rdNum B s = ((numAt (B.drop s.1)).1, s.1 + (numAt (B.drop s.1)).2.1, 0) := by
    unfold rdNum
    rw [if_neg (by omega), if_neg (by omega)]
  have hu := numAt_used _ hn
  rw [List.length_drop] at hu
  rw [he]
  refine ⟨hz, by dsimp only; omega, ?_⟩
  dsimp only
  rw [enc_of_numAt _ hn, ← List.drop_drop, List.take_append_drop]
theorem rdText_of {B : List UInt8} {m : Int} {s : RSt} (h : (rdText B m s).2.2 = 0) (hs : s.1 ≤ B.length) : s.2 = 0 ∧ (rdText B m s).2.1 ≤ B.length ∧ B.drop s.1 = encNum (rdText B m s).1.length ++ ((rdText B m s).1 ++ B.drop (rdText B m s).2.1) := by
  have hu : (rdUpto B m s).2.2 = 0 := by
    rcases Nat.eq_zero_or_pos (rdUpto B m s).2.2 with q | q
    · exact q
    · unfold rdText at h
      rw [if_pos (by omega)] at h
      exact h
  have he : rdUpto B m s = rdNum B s := by
    unfold rdUpto at hu ⊢
    split at hu
    · exact absurd hu (by simp)
    · rename_i hc; rw [if_neg hc]
  have hl : ¬ B.length - (rdUpto B m s).2.1 < (rdUpto B m s).1 := fun q => by
    unfold rdText at h
    rw [if_neg (by omega), if_pos q] at h
    exact absurd h (by simp)
  have hq : rdText B m s = ((B.drop (rdUpto B m s).2.1).take (rdUpto B m s).1, (rdUpto B m s).2.1 + (rdUpto B m s).1, 0) := by
    unfold rdText
    rw [if_neg (by omega), if_neg hl]
  rw [he] at hq hl hu
  obtain ⟨h1, h2, h3⟩ := rdNum_of hu hs
  rw [hq]
  refine ⟨h1, by dsimp only; omega, ?_⟩
  dsimp only
  have hlen : ((B.drop (rdNum B s).2.1).take (rdNum B s).1).length = (rdNum B s).1 := by rw [List.length_take, List.length_drop]; omega
  rw [hlen, ← List.drop_drop, List.take_append_drop]
  exact h3
theorem rdCaps_of {B : List UInt8} : ∀ (n : Nat) {s : RSt}, (rdCaps B n s).2.2 = 0 → s.1 ≤ B.length → s.2 = 0 ∧ (rdCaps B n s).2.1 ≤ B.length ∧ B.drop s.1 = encCaps (rdCaps B n s).1 ++ B.drop (rdCaps B n s).2.1
  | 0, s, h, hs => ⟨h, hs, by simp [rdCaps, encCaps]⟩
  | n + 1, s, h, hs => by
    have hm : (rdCaps B n s).2.1 ≤ B.length ∨ B.length < (rdCaps B n s).2.1 := by omega
    have h' : (rdNum B (rdCaps B n s).2).2.2 = 0 := h
    have hz : (rdCaps B n s).2.2 = 0 := by
      rcases Nat.eq_zero_or_pos (rdCaps B n s).2.2 with q | q
      · exact q
      · unfold rdNum at h'
        rw [if_pos (by omega)] at h'
        exact h'
    obtain ⟨h1, h2, h3⟩ := rdCaps_of n hz hs
    obtain ⟨k1, k2, k3⟩ := rdNum_of h' h2
    refine ⟨h1, k2, ?_⟩
    show B.drop s.1 = encCaps ((rdCaps B n s).1 ++ [((rdNum B (rdCaps B n s).2).1 : Int) - 1]) ++ B.drop (rdNum B (rdCaps B n s).2).2.1
    rw [h3, k3, encCaps_app, encCaps_cons, List.append_assoc, List.append_assoc]
    rw [show ((((rdNum B (rdCaps B n s).2).1 : Int) - 1 + 1).toNat) = (rdNum B (rdCaps B n s).2).1 by omega]
    simp [encCaps]
theorem rdEnd_of {B : List UInt8} {s : RSt} (h : (rdEnd B s).2 = 0) (hs : s.1 ≤ B.length) : s.2 = 0 ∧ B.drop s.1 = [] := by
  unfold rdEnd at h
  split at h
  · exact absurd h (by simp)
  · rename_i hc
    exact ⟨h, List.drop_of_length_le (by omega)⟩
theorem rdText_le' (B : List UInt8) (m : Int) (s : RSt) (h : s.1 ≤ B.length) (h2 : s.2 ≤ 5) : (rdText B m s).2.1 ≤ B.length ∧ (rdText B m s).2.2 ≤ 5 := by
  have := rdUpto_le B m s h h2
  unfold rdText
  split
  · exact ⟨this.2.2.1, this.2.2.2.1⟩
  · split
    · exact ⟨h, by show 3 ≤ 5; omega⟩
    · exact ⟨by dsimp only; omega, by show 0 ≤ 5; omega⟩
theorem rdCaps_le (B : List UInt8) : ∀ (n : Nat) (s : RSt), s.1 ≤ B.length → s.2 ≤ 5 → (rdCaps B n s).2.1 ≤ B.length ∧ (rdCaps B n s).2.2 ≤ 5
  | 0, s, h, h2 => ⟨h, h2⟩
  | n + 1, s, h, h2 => by
    obtain ⟨k1, k2⟩ := rdCaps_le B n s h h2
    have := rdNum_le B (rdCaps B n s).2 k1 k2
    exact ⟨this.2.2.1, this.2.2.2.1⟩
/-- Where the readings stand. -/
theorem rdAll_le (B : List UInt8) : (rdA B).2.1 ≤ B.length ∧ (rdB B).2.1 ≤ B.length ∧ (rdC B).2.1 ≤ B.length ∧ (rdT B).2.1 ≤ B.length ∧ (rdK B).2.1 ≤ B.length ∧ (rdX B).2.1 ≤ B.length := by
  have a0 := rdNum_le B (0, 0) (Nat.zero_le _) (by show 0 ≤ 5; omega)
  have a : (rdA B).2.1 ≤ B.length ∧ (rdA B).2.2 ≤ 5 := by unfold rdA; exact ⟨a0.2.2.1, a0.2.2.2.1⟩
  have b0 := rdNum_le B (rdA B).2 a.1 a.2
  have b : (rdB B).2.1 ≤ B.length ∧ (rdB B).2.2 ≤ 5 := by unfold rdB; exact ⟨b0.2.2.1, b0.2.2.2.1⟩
  have c0 := rdNum_le B (rdB B).2 b.1 b.2
  have c : (rdC B).2.1 ≤ B.length ∧ (rdC B).2.2 ≤ 5 := by unfold rdC; exact ⟨c0.2.2.1, c0.2.2.2.1⟩
  have t0 := rdText_le' B 32 (rdC B).2 c.1 c.2
  have t : (rdT B).2.1 ≤ B.length ∧ (rdT B).2.2 ≤ 5 := by unfold rdT; exact t0
  have k0 := rdNum_le B (rdT B).2 t.1 t.2
  have k : (rdK B).2.1 ≤ B.length ∧ (rdK B).2.2 ≤ 5 := by unfold rdK; exact ⟨k0.2.2.1, k0.2.2.2.1⟩
  have x0 := rdCaps_le B 10 (rdK B).2 k.1 k.2
  have x : (rdX B).2.1 ≤ B.length := by unfold rdX; exact x0.1
  exact ⟨a.1, b.1, c.1, t.1, k.1, x⟩
/-- Bytes that are read as a record are those that write it. -/
theorem enc_get {B : List UInt8} (h : (getRec B).2 = true) : recOk (getRec B).1 = true ∧ encRec (getRec B).1 = B := by
  unfold getRec at h ⊢
  split at h
  · rename_i hc
    obtain ⟨he, hok⟩ := hc
    rw [if_pos ⟨he, hok⟩]
    refine ⟨hok, ?_⟩
    obtain ⟨l1, l2, l3, l4, l5, l6⟩ := rdAll_le B
    obtain ⟨z6, q7⟩ := rdEnd_of he l6
    have z6' : (rdCaps B 10 (rdK B).2).2.2 = 0 := by unfold rdX at z6; exact z6
    obtain ⟨z5, -, q6⟩ := rdCaps_of (B := B) 10 (s := (rdK B).2) z6' l5
    have p6 : B.drop (rdK B).2.1 = encCaps (rdX B).1 ++ B.drop (rdX B).2.1 := by unfold rdX; exact q6
    have z5' : (rdNum B (rdT B).2).2.2 = 0 := by unfold rdK at z5; exact z5
    obtain ⟨z4, -, q5⟩ := rdNum_of (B := B) (s := (rdT B).2) z5' l4
    have p5 : B.drop (rdT B).2.1 = encNum (rdK B).1 ++ B.drop (rdK B).2.1 := by unfold rdK; exact q5
    have z4' : (rdText B 32 (rdC B).2).2.2 = 0 := by unfold rdT at z4; exact z4
    obtain ⟨z3, -, q4⟩ := rdText_of (B := B) (m := 32) (s := (rdC B).2) z4' l3
    have p4 : B.drop (rdC B).2.1 = encNum (rdT B).1.length ++ ((rdT B).1 ++ B.drop (rdT B).2.1) := by unfold rdT; exact q4
    have z3' : (rdNum B (rdB B).2).2.2 = 0 := by unfold rdC at z3; exact z3
    obtain ⟨z2, -, q3⟩ := rdNum_of (B := B) (s := (rdB B).2) z3' l2
    have p3 : B.drop (rdB B).2.1 = encNum (rdC B).1 ++ B.drop (rdC B).2.1 := by unfold rdC; exact q3
    have z2' : (rdNum B (rdA B).2).2.2 = 0 := by unfold rdB at z2; exact z2
    obtain ⟨z1, -, q2⟩ := rdNum_of (B := B) (s := (rdA B).2) z2' l1
    have p2 : B.drop (rdA B).2.1 = encNum (rdB B).1 ++ B.drop (rdB B).2.1 := by unfold rdB; exact q2
    have z1' : (rdNum B (0, 0)).2.2 = 0 := by unfold rdA at z1; exact z1
    obtain ⟨-, -, q1⟩ := rdNum_of (B := B) (s := (0, 0)) z1' (Nat.zero_le _)
    have p1 : B = encNum (rdA B).1 ++ B.drop (rdA B).2.1 := by unfold rdA; exact q1
    have e : B = encNum (rdA B).1 ++ (encNum (rdB B).1 ++ (encNum (rdC B).1 ++ (encNum (rdT B).1.length ++ ((rdT B).1 ++ (encNum (rdK B).1 ++ (encCaps (rdX B).1 ++ [])))))) := by
      rw [← q7, ← p6, ← p5, ← p4, ← p3, ← p2, ← p1]
    conv => rhs; rw [e]
    unfold encRec encText rawRec
    dsimp only
    have ht : (strOf (rdT B).1).size = (rdT B).1.length := by show ((rdT B).1.toArray).size = _; simp
    have ht2 : (strOf (rdT B).1).data.toList = (rdT B).1 := by simp [strOf]
    rw [ht, ht2]
    simp only [Int.toNat_natCast, List.append_assoc, List.append_nil]
  · exact absurd h (by simp)
theorem encRec_len {r : Rec} (h : recOk r = true) : (encRec r).length ≤ 200 ∧ 0 < (encRec r).length := by
  have hi := recOk_in h
  have hb : ∀ n : Nat, n < 18446744073709551616 → (encNum n).length ≤ 9 ∧ 0 < (encNum n).length := fun n hn => by
    have := nb_le8 n hn; rw [encNum_len]; omega
  have hc : ∀ l : List Int, (∀ c ∈ l, c ≤ 500) → (encCaps l).length ≤ 9 * l.length := by
    intro l
    induction l with
    | nil => intro _; simp [encCaps]
    | cons c l ih =>
      intro hl
      have h1 := ih (fun x hx => hl x (by simp [hx]))
      have h2 := hl c (by simp)
      have h3 := hb (c + 1).toNat (by omega)
      rw [encCaps_cons, List.length_append, List.length_cons]; omega
  have i1 := hi.ino
  have i2 := hi.gen
  have i3 := hi.at_
  have i4 := hi.rule
  have i5 := hi.kind
  have i6 := size_toList r.key.rule
  have b1 := hb r.key.ino.toNat (by omega)
  have b2 := hb r.key.gen.toNat (by omega)
  have b3 := hb r.key.at_.toNat (by omega)
  have b4 := hb r.key.rule.size (by omega)
  have b5 := hb r.kind.toNat (by omega)
  have b6 := hc r.caps.1 (fun c hc => (hi.caps c hc).2)
  rw [r.caps.2] at b6
  unfold encRec encText
  simp only [List.length_append, i6]
  omega
end Go.Proofs.YtmhojaiajhdlcaaGreat
namespace Go.Proofs.YtmhojaiajhdlcaaGreat
open Go.RowKit
set_option linter.unusedSimpArgs false
set_option linter.unusedVariables false
/-- A slot, and what it has. -/
abbrev Ch := Int × ByteArray
def encCh (c : Ch) : List UInt8 := encNum c.1.toNat ++ encText c.2
def encChs (l : List Ch) : List UInt8 := encNum l.length ++ l.flatMap encCh
structure ChOk (c : Ch) : Prop where
  lo : 0 ≤ c.1
  hi : c.1 ≤ 40
  sz : c.2.size ≤ 262144
theorem encNum_ge (n : Nat) : 1 ≤ (encNum n).length := by rw [encNum_len]; omega
theorem encText_len (s : ByteArray) : (encText s).length = (encNum s.size).length + s.size := by
  unfold encText
  rw [List.length_append]
  have : s.data.toList.length = s.size := by rw [Array.length_toList]; rfl
  omega
theorem encCh_ge (c : Ch) : 2 ≤ (encCh c).length := by
  have h1 := encNum_ge c.1.toNat
  have h2 := encText_len c.2
  have h3 := encNum_ge c.2.size
  unfold encCh
  rw [List.length_append]; omega
theorem flat_ge : ∀ l : List Ch, 2 * l.length ≤ (l.flatMap encCh).length
  | [] => by simp
  | c :: l => by
    have h1 := encCh_ge c
    have h2 := flat_ge l
    rw [List.flatMap_cons, List.length_append, List.length_cons]; omega
/-- One change is read. -/
def rdCh (B : List UInt8) (s : RSt) : Ch × RSt := ((((rdUpto B 40 s).1 : Int), strOf (rdText B 262144 (rdUpto B 40 s).2).1), (rdText B 262144 (rdUpto B 40 s).2).2)
def rdChs (B : List UInt8) : Nat → RSt → List Ch × RSt
  | 0, s => ([], s)
  | n + 1, s => if s.2 ≠ 0 then ([], s) else ((rdCh B s).1 :: (rdChs B n (rdCh B s).2).1, (rdChs B n (rdCh B s).2).2)
def chItems (B : List UInt8) : List Ch × RSt :=
  if (rdChs B (rdUpto B 41 (0, 0)).1 (rdItemsAt B 41 (0, 0))).2.2 ≠ 0 then ([], (rdChs B (rdUpto B 41 (0, 0)).1 (rdItemsAt B 41 (0, 0))).2) else rdChs B (rdUpto B 41 (0, 0)).1 (rdItemsAt B 41 (0, 0))
def chL (B : List UInt8) : List Ch := (chItems B).1
def chOk (B : List UInt8) : Bool := decide ((rdEnd B (chItems B).2).2 = 0 ∧ 0 < (chL B).length)
/-- The document's reading: no look ahead. -/
def chRef (B : List UInt8) : List Ch × RSt := rdChs B (rdUpto B 41 (0, 0)).1 (rdUpto B 41 (0, 0)).2
theorem rdUpto_stop (B : List UInt8) (m : Int) (s : RSt) (h : s.2 ≠ 0) : rdUpto B m s = (0, s) := by
  have : rdNum B s = (0, s) := by unfold rdNum; rw [if_pos h]
  unfold rdUpto
  rw [this, if_neg (fun q => h q.1)]
theorem rdChs_stop (B : List UInt8) (n : Nat) (s : RSt) (h : s.2 ≠ 0) : rdChs B n s = ([], s) := by
  cases n with
  | zero => rfl
  | succ n => simp only [rdChs, if_pos h]
theorem rdUpto_of {B : List UInt8} {m : Int} {s : RSt} (h : (rdUpto B m s).2.2 = 0) (hs : s.1 ≤ B.length) : s.2 = 0 ∧ (rdUpto B m s).2.1 ≤ B.length ∧ ((rdUpto B m s).1 : Int) ≤ max m 0 ∧ B.drop s.1 = encNum (rdUpto B m s).1 ++ B.drop (rdUpto B m s).2.1 := by
  have hc : ¬ ((rdNum B s).2.2 = 0 ∧ m < ((rdNum B s).1 : Int)) := fun q => by
    unfold rdUpto at h
    rw [if_pos q] at h
    exact absurd h (by simp)
  have he : rdUpto B m s = rdNum B s := by unfold rdUpto; rw [if_neg hc]
  rw [he] at h ⊢
  obtain ⟨h1, h2, h3⟩ := rdNum_of h hs
  refine ⟨h1, h2, ?_, h3⟩
  have : ¬ m < ((rdNum B s).1 : Int) := fun q => hc ⟨h, q⟩
  omega
theorem rdUpto_at {B : List UInt8} {s : RSt} {n : Nat} {m : Int} {r : List UInt8} (h : Ahead B s (encNum n ++ r)) (hn : n < 9223372036854775808) (hm : (n : Int) ≤ m) : ∃ s', rdUpto B m s = (n, s') ∧ Ahead B s' r := by
  obtain ⟨s1, h1, h2⟩ := rdNum_at h hn
  refine ⟨s1, ?_, h2⟩
  unfold rdUpto
  rw [h1, if_neg]
  rintro ⟨_, q⟩
  dsimp only at q; omega
theorem strOf_size (l : List UInt8) : (strOf l).size = l.length := by show l.toArray.size = _; simp
theorem strOf_list (l : List UInt8) : (strOf l).data.toList = l := rfl
theorem encText_of (l : List UInt8) : encText (strOf l) = encNum l.length ++ l := by unfold encText; rw [strOf_size, strOf_list]
theorem rdCh_of {B : List UInt8} {s : RSt} (h : (rdCh B s).2.2 = 0) (hs : s.1 ≤ B.length) : s.2 = 0 ∧ (rdCh B s).2.1 ≤ B.length ∧ ChOk (rdCh B s).1 ∧ B.drop s.1 = encCh (rdCh B s).1 ++ B.drop (rdCh B s).2.1 := by
  have h' : (rdText B 262144 (rdUpto B 40 s).2).2.2 = 0 := h
  have hz : (rdUpto B 40 s).2.2 = 0 := by
    rcases Nat.eq_zero_or_pos (rdUpto B 40 s).2.2 with q | q
    · exact q
    · have h2 : (rdUpto B 262144 (rdUpto B 40 s).2).2.2 ≠ 0 := by
        rw [rdUpto_stop _ _ _ (by omega)]
        dsimp only; omega
      unfold rdText at h'
      rw [if_pos h2] at h'
      exact absurd h' h2
  obtain ⟨h1, h2, h3, h4⟩ := rdUpto_of hz hs
  obtain ⟨k1, k2, k3⟩ := rdText_of h' h2
  have hl : (rdText B 262144 (rdUpto B 40 s).2).1.length ≤ 262144 := by
    unfold rdText at h' ⊢
    split
    · simp
    · split
      · simp
      · rename_i q1 q2
        rw [List.length_take]
        have hq : (rdUpto B 262144 (rdUpto B 40 s).2).2.2 = 0 := by
          rcases Nat.eq_zero_or_pos (rdUpto B 262144 (rdUpto B 40 s).2).2.2 with q | q
          · exact q
          · exact absurd (by omega : (rdUpto B 262144 (rdUpto B 40 s).2).2.2 ≠ 0) q1
        have := (rdUpto_of hq h2).2.2.1
        omega
  refine ⟨h1, k2, ⟨by show (0 : Int) ≤ ((rdUpto B 40 s).1 : Int); omega, by show ((rdUpto B 40 s).1 : Int) ≤ 40; omega, by show (strOf _).size ≤ _; rw [strOf_size]; exact hl⟩, ?_⟩
  show B.drop s.1 = (encNum (((rdUpto B 40 s).1 : Int)).toNat ++ encText (strOf (rdText B 262144 (rdUpto B 40 s).2).1)) ++ B.drop (rdText B 262144 (rdUpto B 40 s).2).2.1
  rw [Int.toNat_natCast, encText_of, h4, k3]
  simp only [List.append_assoc]
theorem rdChs_of {B : List UInt8} : ∀ (n : Nat) {s : RSt}, (rdChs B n s).2.2 = 0 → s.1 ≤ B.length → s.2 = 0 ∧ (rdChs B n s).1.length = n ∧ (rdChs B n s).2.1 ≤ B.length ∧ (∀ c ∈ (rdChs B n s).1, ChOk c) ∧ B.drop s.1 = (rdChs B n s).1.flatMap encCh ++ B.drop (rdChs B n s).2.1
  | 0, s, h, hs => ⟨h, rfl, hs, by simp [rdChs], by simp [rdChs]⟩
  | n + 1, s, h, hs => by
    have hz : s.2 = 0 := by
      rcases Nat.eq_zero_or_pos s.2 with q | q
      · exact q
      · unfold rdChs at h
        rw [if_pos (by omega)] at h
        exact h
    have he : rdChs B (n + 1) s = ((rdCh B s).1 :: (rdChs B n (rdCh B s).2).1, (rdChs B n (rdCh B s).2).2) := by
      show (if s.2 ≠ 0 then _ else _) = _
      rw [if_neg (by omega)]
    rw [he] at h ⊢
    dsimp only at h ⊢
    have hq : (rdCh B s).2.2 = 0 := by
      rcases Nat.eq_zero_or_pos (rdCh B s).2.2 with q | q
      · exact q
      · cases n with
        | zero => exact h
        | succ m =>
          unfold rdChs at h
          rw [if_pos (by omega)] at h
          exact h
    obtain ⟨h1, h2, h3, h4⟩ := rdCh_of hq hs
    obtain ⟨k1, k2, k3, k4, k5⟩ := rdChs_of n h h2
    refine ⟨hz, by rw [List.length_cons, k2], k3, fun c hc => ?_, ?_⟩
    · rcases List.mem_cons.1 hc with rfl | hc
      · exact h3
      · exact k4 c hc
    · rw [List.flatMap_cons, h4, k5, List.append_assoc]
theorem rdCh_at {B : List UInt8} {s : RSt} {c : Ch} {r : List UInt8} (h : Ahead B s (encCh c ++ r)) (hc : ChOk c) : ∃ s', rdCh B s = (c, s') ∧ Ahead B s' r := by
  obtain ⟨k, d⟩ := c
  have h1 := hc.lo
  have h2 := hc.hi
  have h3 := hc.sz
  dsimp only at h1 h2 h3
  have hq : encCh (k, d) ++ r = encNum k.toNat ++ (encNum d.data.toList.length ++ (d.data.toList ++ r)) := by
    unfold encCh encText
    have : d.data.toList.length = d.size := by rw [Array.length_toList]; rfl
    rw [this]
    simp only [List.append_assoc]
  have hdl : d.data.toList.length = d.size := by rw [Array.length_toList]; rfl
  rw [hq] at h
  obtain ⟨s1, e1, g1⟩ := rdUpto_at (m := 40) h (by omega) (by omega)
  obtain ⟨s2, e2, g2⟩ := rdText_at (most := 262144) g1 (by omega) (by omega)
  refine ⟨s2, ?_, g2⟩
  unfold rdCh
  rw [e1]
  dsimp only
  rw [e2]
  dsimp only
  have hk : ((k.toNat : Nat) : Int) = k := by omega
  rw [hk]
  rfl
theorem rdChs_at {B : List UInt8} : ∀ (l : List Ch) {s : RSt} {r : List UInt8}, Ahead B s (l.flatMap encCh ++ r) → (∀ c ∈ l, ChOk c) → ∃ s', rdChs B l.length s = (l, s') ∧ Ahead B s' r
  | [], s, r, h, _ => ⟨s, rfl, by simpa using h⟩
  | c :: l, s, r, h, hc => by
    rw [List.flatMap_cons, List.append_assoc] at h
    obtain ⟨s1, e1, g1⟩ := rdCh_at h (hc c (by simp))
    obtain ⟨s2, e2, g2⟩ := rdChs_at l g1 (fun x hx => hc x (by simp [hx]))
    refine ⟨s2, ?_, g2⟩
    show (if s.2 ≠ 0 then _ else _) = _
    rw [if_neg (by rw [h.er]; simp), e1]
    dsimp only
    rw [e2]
theorem chItems_eq {B : List UInt8} (h : (rdEnd B (chItems B).2).2 = 0) : chItems B = chRef B ∧ (chRef B).2.2 = 0 ∧ (rdUpto B 41 (0, 0)).2.2 = 0 := by
  have hz : (chItems B).2.2 = 0 := by
    unfold rdEnd at h
    split at h
    · exact absurd h (by simp)
    · exact h
  unfold chItems at hz ⊢
  split at hz
  · rename_i q; exact absurd hz q
  · rename_i q
    rw [if_neg q]
    have hi : rdItemsAt B 41 (0, 0) = (rdUpto B 41 (0, 0)).2 := by
      unfold rdItemsAt at hz ⊢
      split
      · rename_i q2
        rw [if_pos q2] at hz
        have hn : 0 < (rdUpto B 41 (0, 0)).1 := by omega
        obtain ⟨m, hm⟩ : ∃ m, (rdUpto B 41 (0, 0)).1 = m + 1 := ⟨_, (Nat.succ_pred_eq_of_pos hn).symm⟩
        rw [hm] at hz
        exact absurd hz (by unfold rdChs; simp)
      · rfl
    rw [hi] at hz ⊢
    refine ⟨rfl, hz, ?_⟩
    rcases Nat.eq_zero_or_pos (rdUpto B 41 (0, 0)).2.2 with w | w
    · exact w
    · exfalso
      rw [rdChs_stop _ _ _ (by omega)] at hz
      dsimp only at hz
      omega
/-- What is read in form is just what writes it. -/
theorem ch_of {B : List UInt8} (h : chOk B = true) : B = encChs (chL B) ∧ (∀ c ∈ chL B, ChOk c) ∧ 1 ≤ (chL B).length ∧ (chL B).length ≤ 41 := by
  obtain ⟨h1, h2⟩ := of_decide_eq_true h
  obtain ⟨e1, e2, e3⟩ := chItems_eq h1
  have hl : chL B = (chRef B).1 := by unfold chL; rw [e1]
  rw [e1] at h1
  obtain ⟨u1, u2, u3, u4⟩ := rdUpto_of e3 (Nat.zero_le _)
  obtain ⟨k1, k2, k3, k4, k5⟩ := rdChs_of _ e2 u2
  obtain ⟨f1, f2⟩ := rdEnd_of h1 k3
  have f2' : B.drop (rdChs B (rdUpto B 41 (0, 0)).1 (rdUpto B 41 (0, 0)).2).2.1 = [] := f2
  rw [f2', List.append_nil] at k5
  rw [hl] at h2 ⊢
  have hlen : (chRef B).1.length = (rdUpto B 41 (0, 0)).1 := k2
  refine ⟨?_, k4, h2, by omega⟩
  unfold encChs
  rw [hlen]
  have : B = encNum (rdUpto B 41 (0, 0)).1 ++ B.drop (rdUpto B 41 (0, 0)).2.1 := by simpa using u4
  rw [k5] at this
  exact this
/-- What was written is read. -/
theorem ch_get {l : List Ch} (hc : ∀ c ∈ l, ChOk c) (h1 : 1 ≤ l.length) (h2 : l.length ≤ 41) : chOk (encChs l) = true ∧ chL (encChs l) = l := by
  have h0 : Ahead (encChs l) (0, 0) (encNum l.length ++ l.flatMap encCh) := Ahead.zero _
  obtain ⟨s1, e1, g1⟩ := rdUpto_at (m := 41) h0 (by omega) (by omega)
  have g1' : Ahead (encChs l) s1 (l.flatMap encCh ++ []) := by rw [List.append_nil]; exact g1
  obtain ⟨s2, e2, g2⟩ := rdChs_at l g1' hc
  have hlen : (encChs l).length - s1.1 = (l.flatMap encCh).length := by
    have := congrArg List.length g1.eq
    rw [List.length_drop] at this; exact this
  have hge := flat_ge l
  have hi : rdItemsAt (encChs l) 41 (0, 0) = s1 := by
    unfold rdItemsAt
    rw [e1, if_neg]
    rintro ⟨-, q⟩
    dsimp only at q
    omega
  have hit : chItems (encChs l) = (l, s2) := by
    unfold chItems
    rw [e1, hi]
    dsimp only
    rw [e2, if_neg (by rw [g2.er]; simp)]
  have hL : chL (encChs l) = l := by unfold chL; rw [hit]
  refine ⟨?_, hL⟩
  unfold chOk
  rw [hL, hit]
  exact decide_eq_true ⟨rdEnd_at g2, h1⟩
/-- The document reads the same. -/
theorem ch_ref (B : List UInt8) : decide ((rdEnd B (chRef B).2).2 = 0 ∧ 0 < (chRef B).1.length) = chOk B ∧ (chOk B = true → (chRef B).1 = chL B) := by
  cases h : chOk B with
  | true =>
    obtain ⟨h1, h2⟩ := of_decide_eq_true h
    obtain ⟨e1, e2, e3⟩ := chItems_eq h1
    have hl : chL B = (chRef B).1 := by unfold chL; rw [e1]
    rw [e1] at h1
    exact ⟨decide_eq_true ⟨h1, by rw [← hl]; exact h2⟩, fun _ => hl.symm⟩
  | false =>
    refine ⟨decide_eq_false ?_, fun q => absurd q (by simp)⟩
    rintro ⟨h1, h2⟩
    have hz : (chRef B).2.2 = 0 := by
      unfold rdEnd at h1
      split at h1
      · exact absurd h1 (by simp)
      · exact h1
    have hu : (rdUpto B 41 (0, 0)).2.2 = 0 ∨ (rdUpto B 41 (0, 0)).2.1 ≤ B.length := .inr (rdUpto_le B 41 (0, 0) (Nat.zero_le _) (Nat.zero_le _)).2.2.1
    have hle := (rdUpto_le B 41 (0, 0) (Nat.zero_le _) (Nat.zero_le _)).2.2.1
    obtain ⟨k1, k2, k3, k4, k5⟩ := rdChs_of _ hz hle
    have hge := flat_ge (chRef B).1
    have hlen : (chRef B).1.length = (rdUpto B 41 (0, 0)).1 := k2
    have k5' : B.drop (rdUpto B 41 (0, 0)).2.1 = (chRef B).1.flatMap encCh ++ B.drop (chRef B).2.1 := k5
    have hd := congrArg List.length k5'
    rw [List.length_drop, List.length_append] at hd
    have hi : rdItemsAt B 41 (0, 0) = (rdUpto B 41 (0, 0)).2 := by
      unfold rdItemsAt
      rw [if_neg]
      rintro ⟨-, q⟩
      omega
    have hit : chItems B = chRef B := by
      unfold chItems
      rw [hi]
      exact if_neg (fun q => q hz)
    have : chOk B = true := by
      unfold chOk chL
      rw [hit]
      exact decide_eq_true ⟨h1, h2⟩
    rw [h] at this
    exact absurd this (by simp)
end Go.Proofs.YtmhojaiajhdlcaaGreat
namespace Go.Proofs.YtmhojaiajhdlcaaGreat
open Go.RowKit
set_option linter.unusedSimpArgs false
set_option linter.unusedVariables false

/-- A list that a slice's value shows in a world, an element so many cells. -/
def RdN {α : Type} [Inhabited α] (sz : Nat) (c : α → List Value) (w : World) (v : Value) (l : List α) : Prop :=
  ∃ a cap, v = .slice a l.length cap ∧ l.length ≤ cap ∧ cap ≤ maxLen ∧
    (l ≠ [] → ∃ b off, a = some ⟨b, off, none⟩ ∧ ∀ j, j < l.length → ∀ i, i < sz → w.cell? ⟨b, off + (j * sz + i), none⟩ = (c (nth l j))[i]?)
theorem RdN.upd {α : Type} [Inhabited α] {sz : Nat} {c : α → List Value} {w w' : World} {v : Value} {l : List α} (hsz : ∀ x, (c x).length = sz) (h : RdN sz c w v l) {S : List Nat} (hu : Upd S w w') (hs : ∀ x ∈ blk v, x ∉ S) : RdN sz c w' v l := by
  obtain ⟨a, cap, rfl, h1, h2, h3⟩ := h
  refine ⟨a, cap, rfl, h1, h2, fun hne => ?_⟩
  obtain ⟨b, off, rfl, hc⟩ := h3 hne
  refine ⟨b, off, rfl, fun j hj i hi => ?_⟩
  have hq := hc j hj i hi
  have hlt : i < (c (nth l j)).length := by rw [hsz]; exact hi
  rw [List.getElem?_eq_getElem hlt] at hq ⊢
  exact hu.cell hq (hs b (by simp [blk]))
theorem RdN.upd0 {α : Type} [Inhabited α] {sz : Nat} {c : α → List Value} {w w' : World} {v : Value} {l : List α} (hsz : ∀ x, (c x).length = sz) (h : RdN sz c w v l) (hu : Upd [] w w') : RdN sz c w' v l := h.upd hsz hu (by simp)

theorem Rd.at_ {α : Type} [Inhabited α] {c : α → Value} {w : World} {a : Option Addr} {n cap : Nat} {l : List α} (h : Rd c w (.slice a n cap) l) (k : Nat) (hk : k < l.length) :
    ∃ b off, a = some ⟨b, off, none⟩ ∧ w.cell? ⟨b, off + k, none⟩ = some (c (nth l k)) := by
  obtain ⟨a', cap', he, _, _, h3⟩ := h
  injection he with e1 e2 e3; subst e1
  obtain ⟨b, off, hb, hc⟩ := h3 (fun q => by rw [q] at hk; simp at hk)
  exact ⟨b, off, hb, hc k hk⟩
end Go.Proofs.YtmhojaiajhdlcaaGreat
namespace Go.Proofs.YtmhojaiajhdlcaaGreat
open Go.RowKit
set_option linter.unusedSimpArgs false
set_option linter.unusedVariables false

theorem flatMap_get {α : Type} [Inhabited α] {sz : Nat} {c : α → List Value} (hsz : ∀ x, (c x).length = sz) : ∀ (l : List α) (j i : Nat), j < l.length → i < sz → (l.flatMap c)[j * sz + i]? = (c (nth l j))[i]?
  | [], j, i, hj, hi => by simp at hj
  | x :: l, 0, i, hj, hi => by
    rw [List.flatMap_cons, Nat.zero_mul, Nat.zero_add, List.getElem?_append_left (by rw [hsz]; exact hi), nth_cons_zero]
  | x :: l, j + 1, i, hj, hi => by
    have hq : (j + 1) * sz + i = sz + (j * sz + i) := by rw [Nat.add_mul]; omega
    rw [List.flatMap_cons, hq, List.getElem?_append_right (by rw [hsz]; omega), hsz, Nat.add_sub_cancel_left, nth_cons_succ]
    exact flatMap_get hsz l j i (by simpa using hj) hi
theorem flatMap_len {α : Type} {sz : Nat} {c : α → List Value} (hsz : ∀ x, (c x).length = sz) (l : List α) : (l.flatMap c).length = l.length * sz := by
  induction l with
  | nil => simp
  | cons x l ih => rw [List.flatMap_cons, List.length_append, hsz, ih, List.length_cons, Nat.add_mul, Nat.one_mul]; omega
/-- A list in a block of the call's own, an element so many cells. -/
def OwnN {α : Type} (sz : Nat) (c : α → List Value) (base : Nat) (e : TypeId) (w : World) (v : Value) (l : List α) : Prop := w.ownsRow base e sz v l.length (l.flatMap c)
theorem OwnN.rd {α : Type} [Inhabited α] {sz : Nat} {c : α → List Value} {base : Nat} {e : TypeId} {w : World} {v : Value} {l : List α} (hsz : ∀ x, (c x).length = sz) (h : OwnN sz c base e w v l) : RdN sz c w v l := by
  obtain ⟨h1, h2⟩ := h
  rcases h2 with ⟨rfl, hn⟩ | ⟨g, cap, cur, rfl, hb, hg, hc, hm, hs, ht⟩
  · exact ⟨none, 0, by rw [hn], by omega, Nat.zero_le _, fun q => absurd (List.eq_nil_of_length_eq_zero hn) q⟩
  · refine ⟨_, cap, rfl, hc, hm, fun _ => ⟨g, 0, rfl, fun j hj i hi => ?_⟩⟩
    rw [cell_of_row w g (0 + (j * sz + i)) cur e (0, 0) hg, ← flatMap_get hsz l j i hj hi, ← ht, List.getElem?_take]
    have hlt : j * sz + i < l.length * sz := by
      have := Nat.mul_le_mul_right sz (show j + 1 ≤ l.length from hj)
      rw [Nat.add_mul] at this; omega
    simp [hlt]
theorem OwnN.upd {α : Type} {sz : Nat} {c : α → List Value} {base : Nat} {e : TypeId} {w w' : World} {v : Value} {l : List α} (h : OwnN sz c base e w v l) {S : List Nat} (hu : Upd S w w') (hs : ∀ x ∈ blk v, x ∉ S) : OwnN sz c base e w' v l := by
  obtain ⟨h1, h2⟩ := h
  refine ⟨h1, ?_⟩
  rcases h2 with h2 | ⟨g, cap, cur, rfl, hb, hg, r⟩
  · exact .inl h2
  · exact .inr ⟨g, cap, cur, rfl, hb, hu.heap hg (hs g (by simp [blk])), r⟩
theorem OwnN.ge {α : Type} {sz : Nat} {c : α → List Value} {base : Nat} {e : TypeId} {w : World} {v : Value} {l : List α} (h : OwnN sz c base e w v l) : ∀ x ∈ blk v, base ≤ x ∧ x < w.heap.size := by
  intro x hx
  rw [blk_own] at hx
  exact World.ownsRow.lt h x (by simpa using hx)
theorem OwnN.typ {α : Type} {sz : Nat} {c : α → List Value} {base : Nat} {e : TypeId} {w : World} {v : Value} {l : List α} (h : OwnN sz c base e w v l) : ∀ x ∈ blk v, ∃ C f, w.heap[x]? = some (.cells C e f) := by
  intro x hx
  rcases h.2 with ⟨rfl, _⟩ | ⟨g, cap, cur, rfl, hb, hg, r⟩
  · simp [blk] at hx
  · simp [blk] at hx; subst hx; exact ⟨_, _, hg⟩
theorem OwnN.nil {α : Type} {sz : Nat} {c : α → List Value} (base : Nat) (e : TypeId) (w : World) : OwnN sz c base e w (.slice none 0 0) ([] : List α) := World.ownsRow_nil _ _ _ _
theorem Blk.ne {w : World} {g : Nat} {e e' : TypeId} {xs C : _} {f : Nat × Nat} (h : Blk w g e xs) (x : Nat) (k : w.heap[x]? = some (.cells C e' f)) (hne : e ≠ e') : g ≠ x := by
  rintro rfl
  unfold Blk at h; rw [h] at k; simp at k; exact hne k.2.1
section
variable {P : Program} {ops : Array Oper} {rest : List Oper} {o : Oper} {a : Act} {w : World} {Q : Exit → Act → World → Prop}
/-- append of a list onto a list of the call's own. -/
theorem wpList_appN {α : Type} [Inhabited α] {sz : Nat} {c : α → List Value} (hsz : ∀ x, (c x).length = sz) (hpos : 0 < sz) (hone : ∀ x, ∀ u ∈ c x, u.oneCell' = true) (hgd : o.guard = none) (s x : Operand) {t e : TypeId} (ho : o.op = .call { callee := .builtin .append, args := #[s, x], argTypes := #[t, t] })
    {z : Value} {bytes base : Nat} (ht : P.underlying t = some (.slice e)) (hi : (P.info? e).map (fun i => (i.zero, i.size, i.bytes)) = some (some z, sz, bytes)) (hz : z.cells.size = sz)
    (v : Value) (l : List α) (y : α) (hs : a.eval s = v) (g k : Nat) (hx : a.eval x = .slice (some ⟨g, 0, none⟩) 1 k) (hv : OwnN sz c base e w v l) (hu : ∀ i u, (c y)[i]? = some u → w.cell? ⟨g, i, none⟩ = some u) (hb : (l.length + 1) * bytes ≤ 140737488355328) (hl : l.length + 1 ≤ maxLen) (hbase : base ≤ w.heap.size)
    (h : ∀ v' w', OwnN sz c base e w' v' (l ++ [y]) → Upd (blk v) w w' → (∀ x ∈ blk v', x ∈ blk v ∨ w.heap.size ≤ x) → wpList P ops Q rest (a.put o.dst v') w') : wpList P ops Q (o :: rest) a w := by
  obtain ⟨i, h1, h2, h3, h4⟩ := info_parts hi
  obtain ⟨v', w', hr, g1, g2, _, g3⟩ := run_append_own_at (P := P) (ty := o.type) w base t e i z sz bytes ht h1 h2 h3 h4 hz hpos v l.length (l.flatMap c) hv ⟨g, 0, none⟩ 1 k (c y) (by rw [hsz]; simp) (fun j u hj => by rw [add_none, Nat.zero_add]; exact hu j u hj) (hone y) hl hb hbase
  have hown : OwnN sz c base e w' v' (l ++ [y]) := by
    unfold OwnN; rw [List.length_append, List.flatMap_append]; simpa using g1
  refine wpList_plain hgd fun K hK => ?_
  unfold Oper.wp execOp
  simp only [ho, resolve, invoke, builtin, Sem.run_bind, Sem.run_pure, Result.andThen_ok, List.map_toArray, List.map_cons, List.map_nil, hs, hx, hr]
  refine hK _ _ (h v' w' hown (by rw [blk_own]; exact Upd.of_grown g2) ?_)
  intro x hx
  rw [blk_own] at hx
  rcases g3 with g3 | g3
  · rw [g3, ← blk_own] at hx; exact .inl hx
  · rw [g3] at hx; simp at hx; exact .inr (by omega)
theorem zeroCells_one {zc : Array Value} (h : ∀ u ∈ zc, u.oneCell' = true) (n : Nat) : ∀ u ∈ (Builtin.zeroCells zc n).toList, u.oneCell' = true := by
  intro u hu
  simp only [Builtin.zeroCells, Array.toList_map, List.mem_map] at hu
  obtain ⟨i, hi, rfl⟩ := hu
  have hi' : i < n * zc.size := by simpa using hi
  have hpos : 0 < zc.size := by
    rcases Nat.eq_zero_or_pos zc.size with h0 | h0
    · rw [h0] at hi'; omega
    · exact h0
  have hlt := Nat.mod_lt i hpos
  rw [getElem!_pos zc _ hlt]
  exact h _ (Array.getElem_mem hlt)
/-- clear of a list of the call's own: what was there is zero; cut to nothing it is a list of the call's own again. -/
theorem wpList_clearN {α : Type} {sz : Nat} {c : α → List Value} (hgd : o.guard = none) (s : Operand) {t e : TypeId} (ho : o.op = .call { callee := .builtin .clear, args := #[s], argTypes := #[t] })
    {z : Value} {bytes base : Nat} (ht : P.underlying t = some (.slice e)) (hi : (P.info? e).map (fun i => (i.zero, i.size, i.bytes)) = some (some z, sz, bytes)) (hz : z.cells.size = sz) (h1 : ∀ u ∈ z.cells, u.oneCell' = true)
    (v : Value) (l : List α) (hs : a.eval s = v) (hv : OwnN sz c base e w v l)
    (h : ∀ w', Upd (blk v) w w' → w'.heap.size = w.heap.size → (∀ ao cap, v = .slice ao l.length cap → OwnN sz c base e w' (.slice ao 0 cap) ([] : List α)) → wpList P ops Q rest (a.put o.dst (.tuple #[])) w') : wpList P ops Q (o :: rest) a w := by
  obtain ⟨i, i1, i2, i3, i4⟩ := info_parts hi
  have key : ∃ w', (Builtin.clear_ #[t] o.type #[v]).run P w = .ok (.tuple #[]) w' ∧ Upd (blk v) w w' ∧ w'.heap.size = w.heap.size ∧ (∀ ao cap, v = .slice ao l.length cap → OwnN sz c base e w' (.slice ao 0 cap) ([] : List α)) := by
    rcases hv.2 with ⟨rfl, hn⟩ | ⟨g, cap, cur, rfl, hb, hg, hc, hm, hsz, htk⟩
    · refine ⟨w, ?_, Upd.refl _ _, rfl, ?_⟩
      · simp [Builtin.clear_, run_underlying ht]
      · intro ao cap he; injection he with e1 e2 e3; subst e1; subst e3; exact World.ownsRow_nil _ _ _ _
    · by_cases h0 : l.length = 0
      · refine ⟨w, ?_, Upd.refl _ _, rfl, ?_⟩
        · rw [h0]; simp [Builtin.clear_, run_underlying ht]
        · intro ao cap' he; injection he with e1 e2 e3; subst e1; subst e3
          exact ⟨by simp, .inr ⟨g, _, cur, rfl, hb, hg, by simp, hm, hsz, by simp⟩⟩
      · have hzl : (Builtin.zeroCells z.cells l.length).toList.length = l.length * sz := by rw [Array.length_toList, size_zeroCells, hz]
        have hfit : 0 + 0 + (Builtin.zeroCells z.cells l.length).toList.length ≤ cur.size := by
          rw [hzl, hsz]; have := Nat.mul_le_mul_right sz hc; omega
        have hst := run_storeCells_at (P := P) g 0 e _ 0 cur w hg hfit (zeroCells_one h1 l.length)
        have hlen : (List.take (0 + 0) cur.toList ++ (Builtin.zeroCells z.cells l.length).toList ++ List.drop (0 + 0 + (Builtin.zeroCells z.cells l.length).toList.length) cur.toList).toArray.size = cap * sz := by
          simp only [List.size_toArray, List.length_append, List.length_take, List.length_drop, hzl]
          rw [Array.length_toList, hsz]
          have := Nat.mul_le_mul_right sz hc
          omega
        generalize (List.take (0 + 0) cur.toList ++ (Builtin.zeroCells z.cells l.length).toList ++ List.drop (0 + 0 + (Builtin.zeroCells z.cells l.length).toList.length) cur.toList).toArray = ys at hst hlen
        refine ⟨w.setRow g ys, ?_, ⟨rfl, rfl, rfl, by simp, fun k _ hk => setRow_other w g k _ (by simpa [blk] using hk)⟩, by simp, ?_⟩
        · obtain ⟨m, hm'⟩ : ∃ m, l.length = m + 1 := ⟨l.length - 1, by omega⟩
          rw [hm'] at hst ⊢
          have hzv : (zeroValue e).run P w = .ok z w := by simp [zeroValue, typeInfo, i1, i2]
          simp only [Builtin.clear_]
          simp [run_underlying ht, hzv, hst]
        · intro ao cap' he; injection he with e1 e2 e3; subst e1; subst e3
          exact ⟨by simp, .inr ⟨g, _, _, rfl, hb, setRow_heap w g cur _ e _ hg, by simp, hm, hlen, by simp⟩⟩
  obtain ⟨w', hr, k1, k2, k3⟩ := key
  refine wpList_plain hgd fun K hK => ?_
  unfold Oper.wp execOp
  simp only [ho, resolve, invoke, builtin, Sem.run_bind, Sem.run_pure, Result.andThen_ok, List.map_toArray, List.map_cons, List.map_nil, hs, hr]
  exact hK _ _ (h w' k1 k2 k3)
end
end Go.Proofs.YtmhojaiajhdlcaaGreat
namespace Go.Proofs.YtmhojaiajhdlcaaGreat
open Go.RowKit
set_option linter.unusedSimpArgs false
set_option linter.unusedVariables false
abbrev chCells (c : Ch) : List Value := [.int .i64 c.1, sv c.2]
theorem chCells_len : ∀ x, (chCells x).length = 2 := fun _ => rfl
theorem chCells_one : ∀ x, ∀ u ∈ chCells x, u.oneCell' = true := by intro x u hu; simp [chCells] at hu; rcases hu with rfl | rfl <;> rfl
theorem infoCh : (Tryz.prog.info? 136).map (fun i => (i.zero, i.size, i.bytes)) = some (some (.agg #[.int .i64 0, .string ⟨#[]⟩]), 2, 24) := by kernel_rfl
theorem undCh : Tryz.prog.underlying 79 = some (.slice 136) := by kernel_rfl
theorem encCh_le (k : Int) (d : ByteArray) (hk : I64 k) (hd : d.size ≤ 1000000) : (encCh (k, d)).length ≤ 18 + d.size := by
  have h1 := nb_le8 k.toNat (by have := hk.2; omega)
  have h2 := nb_le8 d.size (by omega)
  have h3 := encText_len d
  have h4 := encNum_len k.toNat
  have h5 := encNum_len d.size
  unfold encCh
  rw [List.length_append]
  dsimp only
  omega
set_option maxRecDepth 20000 in
set_option maxHeartbeats 2000000 in
theorem chPut_any (v : Value) (l : List UInt8) (k : Int) (d : ByteArray) (w : World) (h : Bytes w v l) (hz : l.length ≤ 70000000000) (hk : I64 k) (hd : d.size ≤ 1000000) :
    Calls Tryz.prog 121 #[v, .agg #[.int .i64 k, .string d]] w fun e w' => ∃ x, e = .returned x ∧ Own bv w.heap.size 5 w' x (l ++ encCh (k, d)) ∧ Upd [] w w' := by
  have hu0 : Upd [] w (w.alloc (.cells #[.int .i64 k, .string d] 136)) := (Upd.refl [] w).alloc _
  have HU0 := Lib.hid hu0
  have HB : Hid (Blk (w.alloc (.cells #[.int .i64 k, .string d] 136)) w.heap.size 136 [.int .i64 k, .string d]) := Blk.new w _ [.int .i64 k, .string d]
  have H := Lib.hid (h.upd0 hu0)
  obtain ⟨a, cap, rfl, -⟩ := h
  have h8 := nb_le8 k.toNat (by have := hk.2; omega)
  have hel := encNum_len k.toNat
  have hln : (l ++ encNum k.toNat).length = l.length + (1 + nb k.toNat) := by rw [List.length_append, hel]
  have HE : Hid (l ++ encCh (k, d) = (l ++ encNum k.toNat) ++ encText d) := by unfold Hid encCh; rw [List.append_assoc]
  have HK := Lib.hid hk
  obtain ⟨l2, hl2⟩ : ∃ l2, l ++ encNum k.toNat = l2 := ⟨_, rfl⟩
  rw [hl2] at hln HE
  have HL2 := Lib.hid hl2
  have HLN : Hid (l2.length ≤ 80000000000) := by unfold Hid; omega
  have HLL : Hid (l.length ≤ 90000000000) := by unfold Hid; omega
  have HD : Hid (d.size ≤ 10000000000) := by unfold Hid; omega
  clear hu0 hk hd h8 hel hln hl2 hz
  go_enter Tryz.func121, Tryz.ntmps121
  go_wp2_with fail
  generalize w.alloc (.cells #[.int .i64 k, .string d] 136) = w1 at *
  have hsz := HU0.out.size
  have d0 := HB.out.cell 0
  have d1 := HB.out.cell 1
  simp only [List.getElem?_cons_zero, List.getElem?_cons_succ] at d0 d1
  have D0 := Lib.hid d0
  have D1 := Lib.hid d1
  have HC1 : Hid (∀ W, Upd [] w1 W → Calls Tryz.prog 58 #[.slice a l.length cap, .int .i64 k] W fun e w' => ∃ x, e = .returned x ∧ Hid (Own bv w.heap.size 5 w' x l2) ∧ Upd [] w1 w') := fun W hW => by
    refine (fNum_any _ l k W (H.out.upd0 hW) HLL.out HK.out).mono ?_
    rw [HL2.out]
    rintro e w' ⟨x, rfl, ho, hu⟩
    exact ⟨x, rfl, ho.base_le (Nat.le_trans hsz hW.size), hW.seq hu⟩
  have HC2 : Hid (∀ W x, Own bv w.heap.size 5 W x l2 → Upd [] w1 W → Calls Tryz.prog 59 #[x, .string d] W fun e w' => ∃ x, e = .returned x ∧ Hid (Own bv w.heap.size 5 w' x (l2 ++ encText d)) ∧ Upd [] w1 w') := fun W x ho hW => by
    refine (fText_any x l2 d W ho.rd HLN.out HD.out).mono ?_
    rintro e w' ⟨y, rfl, ho2, hu⟩
    exact ⟨y, rfl, ho2.base_le (Nat.le_trans hsz hW.size), hW.seq hu⟩
  have ru := Upd.refl [] w1
  clear hsz
  go_region_held3 (fun W => W.cell? ⟨w.heap.size, 0, none⟩ = some (.int .i64 k) ∧ W.cell? ⟨w.heap.size, 1, none⟩ = some (.string d)) (first | go_keep | exact ⟨ru.cell D0.out (by simp), ru.cell D1.out (by simp)⟩)
    (first
      | (go_at_call 58; (with_reducible refine (HC1.out _ (Upd.seq ru ?_)).mono ?_); (repeat (first | exact Upd.refl _ _ | apply Upd.drew | apply Upd.drewN | apply Upd.alloc)); (rintro _ W1 ⟨x1, rfl, ho1, ru⟩; dsimp only))
      | (go_at_call 59; (with_reducible refine (HC2.out _ x1 (Own.upd (S := []) ho1.out ?_ (by simp)) (Upd.seq ru ?_)).mono ?_); (repeat (first | exact Upd.refl _ _ | apply Upd.drew | apply Upd.drewN | apply Upd.alloc)); (rintro _ W2 ⟨x2, rfl, ho2, ru⟩; dsimp only)))
  all_goals
    have HO := Lib.hid (show Own bv w.heap.size 5 W2 x2 (l2 ++ encText d) from ho2.out)
    have HF := Lib.hid (HU0.out.seq ru)
    clear ru HC1 HC2 ho1 ho2
    go_wp2_with fail
    go_ret
    exact ⟨_, rfl, by rw [HE.out]; exact HO.out, HF.out⟩
theorem flat_le : ∀ (l : List Ch), (∀ c ∈ l, I64 c.1 ∧ c.2.size ≤ 1000000) → (l.flatMap encCh).length ≤ 1000018 * l.length
  | [], _ => by simp
  | c :: l, h => by
    have h1 := encCh_le c.1 c.2 (h c (by simp)).1 (h c (by simp)).2
    have h2 := flat_le l (fun x hx => h x (by simp [hx]))
    have h3 := (h c (by simp)).2
    rw [List.flatMap_cons, List.length_append, List.length_cons]
    have : (encCh c).length ≤ 18 + c.2.size := h1
    omega
set_option maxRecDepth 20000 in
set_option maxHeartbeats 2000000 in
theorem chList_any (u : Value) (ns : List Ch) (w : World) (h2 : RdN 2 chCells w u ns) (hn : ∀ c ∈ ns, I64 c.1 ∧ c.2.size ≤ 1000000) (hz2 : ns.length ≤ 1000) :
    Calls Tryz.prog 120 #[.slice none 0 0, u, .func (.func 121) #[] #[]] w fun e w' => ∃ x, e = .returned x ∧ Own bv w.heap.size 5 w' x (encChs ns) ∧ Upd [] w w' := by
  obtain ⟨a2, cap2, rfl, hlc, hm, hc⟩ := h2
  have HC := Lib.hid hc
  have HN := Lib.hid hn
  have HFL := Lib.hid (fun k => flat_le (ns.take k) (fun c hc => hn c (List.mem_of_mem_take hc)))
  clear hc hn hm hlc
  go_enter Tryz.func120, Tryz.ntmps120
  go_wp2_with fail
  (with_reducible refine (fNum_any _ [] (ns.length : Int) _ (Rd.nil w) (by simp) (i64_mk (by omega) (by omega))).mono ?_)
  rintro e w1 ⟨v1, rfl, ho1, hu1⟩
  have HO1 := Lib.hid ho1
  have HU1 := Lib.hid hu1
  clear ho1 hu1
  rw [Int.toNat_natCast, List.nil_append] at HO1
  go_wp2_with fail
  have h8 := nb_le8 ns.length (by omega)
  have hen := encNum_len ns.length
  have HFIN : Hid (encChs ns = encNum ns.length ++ (ns.take ns.length).flatMap encCh) := by unfold Hid encChs; rw [List.take_length]
  generalize encNum ns.length = l1 at *
  go_loopw [7, 9, 16] (fun b y i wr => ∃ (k : Nat) (c : List UInt8), i = .int .i64 (k : Int) ∧ k ≤ ns.length ∧ c = l1 ++ (ns.take k).flatMap encCh ∧ c.length ≤ 9 + 1000018 * k ∧ Hid (Own bv w.heap.size 5 wr b c) ∧ Hid (Upd [] w wr)) (fun _ _ i _ => ns.length - (intOf i).toNat)
  case atStart => exact ⟨0, l1, rfl, Nat.zero_le _, by simp, by omega, HO1, HU1⟩
  case round =>
    obtain ⟨k, c, rfl, hk, hce, hcl, hob, hu⟩ := hrel
    have HCE := Lib.hid hce
    clear hce
    by_cases hlt : k < ns.length
    · obtain ⟨b, off, rfl, hc⟩ := HC.out (by intro e; rw [e] at hlt; simp at hlt)
      have hca : ∀ i, i < 2 → wr.cell? ⟨b, off + (k * 2 + i), none⟩ = (chCells (nth ns k))[i]? := fun i hi => by
        have h1 := hc k hlt i hi
        have h2 : i < (chCells (nth ns k)).length := hi
        rw [List.getElem?_eq_getElem h2] at h1 ⊢
        exact hu.out.cell h1 (by simp)
      have hin := HN.out (nth ns k) (by rw [nth_get ns k hlt]; exact List.getElem_mem hlt)
      have HST : Hid (c ++ encCh (nth ns k) = l1 ++ (ns.take (k + 1)).flatMap encCh) := by
        unfold Hid; rw [HCE.out, List.take_succ_eq_append_getElem hlt, List.flatMap_append, nth_get ns k hlt]; simp
      generalize nth ns k = x at *
      obtain ⟨sk, sd⟩ := x
      dsimp only at hin
      have hcl2 := encCh_le sk sd hin.1 hin.2
      have hcl3 : (c ++ encCh (sk, sd)).length = c.length + (encCh (sk, sd)).length := List.length_append
      have c0 : wr.cell? ⟨b, off + k * 2, none⟩ = some (.int .i64 sk) := hca 0 (by omega)
      have c1 : wr.cell? ⟨b, off + k * 2 + 1, none⟩ = some (.string sd) := hca 1 (by omega)
      have HLE : Hid ((c ++ encCh (sk, sd)).length ≤ 9 + 1000018 * (k + 1)) := by have := hin.2; unfold Hid; omega
      have HIN := Lib.hid hin
      have HI1 : Hid (I64 sk) := hin.1
      have HU := Lib.hid hu.out
      have HOB := Lib.hid hob.out
      clear hc hca hin hcl2 hcl3 hu hob
      have q0 : (0 : Int) ≤ k := by omega
      have q1 : (k : Int) < ns.length := by omega
      obtain ⟨ba, bk, rfl, -⟩ := id HOB.out.rd
      go_wp2_with fail
      have hu5 : Upd [] wr (wr.alloc (.cells #[.int .i64 sk, .string sd] 136)) := (Upd.refl [] wr).alloc _
      have HU5 := Lib.hid (HU.out.seq hu5)
      have HO5 := Lib.hid (HOB.out.upd hu5 (by simp))
      clear hu5 HOB
      (with_reducible refine (chPut_any _ c sk sd _ HO5.out.rd (by omega) HI1.out HIN.out.2).mono ?_)
      rintro e w2 ⟨v2, rfl, ho2, hu2⟩
      have HO2 := Lib.hid (ho2.base_le HU5.out.size)
      have HU2 := Lib.hid (HU5.out.seq hu2)
      clear ho2 hu2
      go_wp2_with fail
      go_roundw
      case rel => exact ⟨k + 1, _, by go_num, by omega, HST.out, HLE.out, HO2, HU2⟩
      case measure => simp [intOf]; omega
    · obtain rfl : k = ns.length := by omega
      have HF : Hid (c = encChs ns) := by unfold Hid; rw [HFIN.out, HCE.out]
      go_wp2_with fail
      go_ret
      exact ⟨_, rfl, by rw [← HF.out]; exact hob.out, hu.out⟩
theorem payload_any (u : Value) (ns : List Ch) (w : World) (h2 : RdN 2 chCells w u ns) (hn : ∀ c ∈ ns, I64 c.1 ∧ c.2.size ≤ 1000000) (hz2 : ns.length ≤ 1000) :
    Calls Tryz.prog 96 #[u] w fun e w' => ∃ x, e = .returned x ∧ Own bv w.heap.size 5 w' x (encChs ns) ∧ Upd [] w w' := by
  have H2 := Lib.hid h2
  have HN := Lib.hid hn
  obtain ⟨a2, cap2, rfl, -⟩ := h2
  clear hn
  go_enter Tryz.func96, Tryz.ntmps96
  go_wp2_with fail
  (with_reducible refine (chList_any _ ns _ H2.out HN.out hz2).mono ?_)
  rintro e w1 ⟨v1, rfl, ho1, hu1⟩
  have HO := Lib.hid ho1
  have HU := Lib.hid hu1
  clear ho1 hu1
  go_wp2_with fail
  go_ret
  exact ⟨_, rfl, HO.out, HU.out⟩
end Go.Proofs.YtmhojaiajhdlcaaGreat
namespace Go.Proofs.YtmhojaiajhdlcaaGreat
open Go.RowKit
set_option linter.unusedSimpArgs false
set_option linter.unusedVariables false
theorem run_cut {P : Program} {t e : TypeId} {size : Nat} (ht : P.underlying t = some (.slice e)) (hi : (P.info? e).map (·.size) = some size) (a : Option Addr) (n cap k : Nat) (hk : k ≤ n) (W : World) :
    (Instr.slice t (.slice a n cap) (some (.int .i64 (k : Int))) none none).run P W = .ok (.slice (if cap = k then a else a.map (·.add (k * size))) (n - k) (cap - k)) W := by
  have he : P.elem t = e := by simp [Program.elem, ht]
  obtain ⟨i, h1, h2⟩ : ∃ i, P.info? e = some i ∧ i.size = size := by
    cases hq : P.info? e with
    | none => simp [hq] at hi
    | some i => exact ⟨i, rfl, by simpa [hq] using hi⟩
  rw [run_slice_l (P := P) (w := W) t a n cap (by rw [he]; exact ht) .i64 (k : Int) (by omega) (by omega), he]
  simp [sizeOf, typeInfo, h1, h2, sliced]
theorem run_cut_h {P : Program} {t e : TypeId} {size : Nat} (ht : P.underlying t = some (.slice e)) (hi : (P.info? e).map (·.size) = some size) (a : Option Addr) (n cap k : Nat) (hk : k ≤ cap) (W : World) :
    (Instr.slice t (.slice a n cap) none (some (.int .i64 (k : Int))) none).run P W = .ok (.slice a k cap) W := by
  have he : P.elem t = e := by simp [Program.elem, ht]
  obtain ⟨i, h1, h2⟩ : ∃ i, P.info? e = some i ∧ i.size = size := by
    cases hq : P.info? e with
    | none => simp [hq] at hi
    | some i => exact ⟨i, rfl, by simpa [hq] using hi⟩
  rw [run_slice_h (P := P) (w := W) t a n cap (by rw [he]; exact ht) .i64 (k : Int) (by omega) (by omega), he]
  simp [sizeOf, typeInfo, h1, h2, sliced]
  intro _
  cases a with
  | none => rfl
  | some x => obtain ⟨b, off, arr⟩ := x; simp only [Option.map_some, Addr.add]; cases arr <;> simp
theorem run_cut_lh {P : Program} {t e : TypeId} {size : Nat} (ht : P.underlying t = some (.slice e)) (hi : (P.info? e).map (·.size) = some size) (a : Option Addr) (n cap k m : Nat) (hk : k ≤ m) (hm : m ≤ cap) (W : World) (K M : Int) (hK : K = (k : Int)) (hM : M = (m : Int)) :
    (Instr.slice t (.slice a n cap) (some (.int .i64 K)) (some (.int .i64 M)) none).run P W = .ok (.slice (if cap = k then a else a.map (·.add (k * size))) (m - k) (cap - k)) W := by
  subst hK; subst hM
  have he : P.elem t = e := by simp [Program.elem, ht]
  obtain ⟨i, h1, h2⟩ : ∃ i, P.info? e = some i ∧ i.size = size := by
    cases hq : P.info? e with
    | none => simp [hq] at hi
    | some i => exact ⟨i, rfl, by simpa [hq] using hi⟩
  rw [run_slice_lh (P := P) (w := W) t a n cap (by rw [he]; exact ht) .i64 .i64 (k : Int) (m : Int) (by omega) (by omega) (by omega), he]
  simp [sizeOf, typeInfo, h1, h2, sliced]
theorem run_cut_hm {P : Program} {t e : TypeId} {size : Nat} (ht : P.underlying t = some (.slice e)) (hi : (P.info? e).map (·.size) = some size) (a : Option Addr) (n cap m : Nat) (hm : m ≤ cap) (W : World) :
    (Instr.slice t (.slice a n cap) none (some (.int .i64 (m : Int))) (some (.int .i64 (m : Int)))).run P W = .ok (.slice a m m) W := by
  have he : P.elem t = e := by simp [Program.elem, ht]
  obtain ⟨i, h1, h2⟩ : ∃ i, P.info? e = some i ∧ i.size = size := by
    cases hq : P.info? e with
    | none => simp [hq] at hi
    | some i => exact ⟨i, rfl, by simpa [hq] using hi⟩
  rw [run_slice_hm (P := P) (w := W) t a n cap (by rw [he]; exact ht) .i64 .i64 (m : Int) (m : Int) (by omega) (by omega) (by omega), he]
  simp [sizeOf, typeInfo, h1, h2, sliced]
  intro _
  cases a with
  | none => rfl
  | some x => obtain ⟨b, off, arr⟩ := x; simp only [Option.map_some, Addr.add]; cases arr <;> simp
end Go.Proofs.YtmhojaiajhdlcaaGreat
namespace Go.Proofs.YtmhojaiajhdlcaaGreat
open Go.RowKit
set_option linter.unusedSimpArgs false
set_option linter.unusedVariables false
/-- A reader at g: its bytes, where it stands, its error. -/
structure RdrAt (T : TypeId) (base : Nat) (w : World) (g : Nat) (v : Value) (B : List UInt8) (s : RSt) : Prop where
  cells : Blk w g T [v, .int .i64 (s.1 : Int), .int .i64 (s.2 : Int)]
  own : Own bv base 5 w v B
  gb : base ≤ g
  at_ : s.1 ≤ B.length
  er : s.2 ≤ 5
  sz : B.length ≤ 140737488351232
theorem RdrAt.upd {T : TypeId} {base : Nat} {w w' : World} {g : Nat} {v : Value} {B : List UInt8} {s : RSt} (h : RdrAt T base w g v B s) (hu : Upd [] w w') : RdrAt T base w' g v B s :=
  ⟨h.cells.upd hu (by simp), h.own.upd hu (by simp), h.gb, h.at_, h.er, h.sz⟩
theorem RdrAt.ng {T : TypeId} {base : Nat} {w : World} {g : Nat} {v : Value} {B : List UInt8} {s : RSt} (h : RdrAt T base w g v B s) (hT : T ≠ 5) : g ∉ blk v := by
  intro hg
  rcases h.own.2 with ⟨rfl, _⟩ | ⟨g', cap, cur, rfl, hb, hg', _⟩
  · simp [blk] at hg
  · simp [blk] at hg; subst hg
    exact h.cells.ne g hg' hT rfl
/-- A store of the place, or of the error. -/
theorem RdrAt.set1 {T : TypeId} {base : Nat} {w : World} {g : Nat} {v : Value} {B : List UInt8} {s : RSt} (h : RdrAt T base w g v B s) (hT : T ≠ 5) (k : Nat) (hk : k ≤ B.length) : RdrAt T base (w.setCell ⟨g, 1, none⟩ (.int .i64 (k : Int))) g v B (k, s.2) :=
  ⟨by have := h.cells.set_ 1 (.int .i64 (k : Int)); exact this, h.own.upd (S := [g]) ((Upd.refl [g] w).setCell _ _ (.inl (by simp))) (fun x hx hS => by simp at hS; subst hS; exact h.ng hT hx), h.gb, hk, h.er, h.sz⟩
theorem RdrAt.set2 {T : TypeId} {base : Nat} {w : World} {g : Nat} {v : Value} {B : List UInt8} {s : RSt} (h : RdrAt T base w g v B s) (hT : T ≠ 5) (k : Nat) (hk : k ≤ 5) : RdrAt T base (w.setCell ⟨g, 2, none⟩ (.int .i64 (k : Int))) g v B (s.1, k) :=
  ⟨by have := h.cells.set_ 2 (.int .i64 (k : Int)); exact this, h.own.upd (S := [g]) ((Upd.refl [g] w).setCell _ _ (.inl (by simp))) (fun x hx hS => by simp at hS; subst hS; exact h.ng hT hx), h.gb, h.at_, hk, h.sz⟩
section
variable {base : Nat} {g : Nat} {v : Value} {B : List UInt8} {s : RSt}
theorem rWrong_any (w : World) (k e : Nat) (K E : Int) (hK : K = (k : Int)) (hE : E = (e : Int)) (h : RdrAt 165 base w g v B s) (hk : k ≤ B.length) (he : e ≤ 5) :
    Calls Tryz.prog 100 #[.pointer (some ⟨g, 0, none⟩), .int .i64 K, .int .i64 E] w fun x w' => x = .returned (.int .i64 0) ∧ RdrAt 165 base w' g v B (k, e) ∧ Upd [g] w w' := by
  subst hK; subst hE
  have H1 := Lib.hid ((h.set1 (by decide) k hk).set2 (by decide) e he)
  have HU := Lib.hid (((Upd.refl [g] w).setCell ⟨g, 1, none⟩ (.int .i64 (k : Int)) (.inl (by simp))).setCell ⟨g, 2, none⟩ (.int .i64 (e : Int)) (.inl (by simp)))
  have c1 : w.cell? ⟨g, 1, none⟩ = some (.int .i64 (s.1 : Int)) := h.cells.cell 1
  have c2 : w.cell? ⟨g, 2, none⟩ = some (.int .i64 (s.2 : Int)) := h.cells.cell 2
  have f1 := h.cells.frozen 1
  have f2 := h.cells.frozen 2
  go_enter Tryz.func100, Tryz.ntmps100
  go_wp2
  go_ret
  exact ⟨rfl, H1.out, HU.out⟩
theorem or64 (n : Nat) (x : UInt8) (h : n < 72057594037927936) : bits .or .u64 ((n : Int) * 256 % 18446744073709551616) ((x.toNat : Int) % 18446744073709551616) = ((n * 256 + x.toNat : Nat) : Int) := by
  have hx := x.toNat_lt
  have h1 : (n : Int) * 256 % 18446744073709551616 = ((n * 256 : Nat) : Int) := by omega
  have h2 : (x.toNat : Int) % 18446744073709551616 = ((x.toNat : Nat) : Int) := by omega
  rw [h1, h2, u64_hl _ _ 8 (by omega) (by omega) (by omega)]
theorem beN_take_succ (l : List UInt8) (j : Nat) (h : j < l.length) : beN (l.take (j + 1)) = beN (l.take j) * 256 + (nth l j).toNat := by
  rw [List.take_succ_eq_append_getElem h, beN_snoc, nth_get l j h]
theorem beN_take_lt (l : List UInt8) (j : Nat) (h : j ≤ 7) : beN (l.take j) < 72057594037927936 := by
  have h1 := beN_lt (l.take j)
  have h2 : (256 : Nat) ^ (l.take j).length ≤ 256 ^ 7 := Nat.pow_le_pow_right (by decide) (by rw [List.length_take]; omega)
  have h3 : (256 : Nat) ^ 7 = 72057594037927936 := by decide
  omega
theorem rdNum_0 (B : List UInt8) (k : Nat) : rdNum B (k, 0) = if (numAt (B.drop k)).2.2 ≠ 0 then (0, k, (numAt (B.drop k)).2.2) else ((numAt (B.drop k)).1, k + (numAt (B.drop k)).2.1, 0) := by
  unfold rdNum; rw [if_neg (by simp)]
set_option maxHeartbeats 4000000 in
/-- A number that can't be read, or a reader that has an error: the bad ways but the last. -/
theorem rNumBad_any (w : World) (h : RdrAt 165 base w g v B s) (hs : s.2 ≠ 0 ∨ (s.2 = 0 ∧ (B.drop s.1 = [] ∨ (∃ c t, B.drop s.1 = c :: t ∧ (8 < c.toNat ∨ t.length < c.toNat))))) :
    Calls Tryz.prog 50 #[.pointer (some ⟨g, 0, none⟩)] w fun x w' => x = .returned (.int .i64 ((rdNum B s).1 : Int)) ∧ RdrAt 165 base w' g v B (rdNum B s).2 ∧ Upd [g] w w' := by
  have H := Lib.hid h
  obtain ⟨a, k, rfl, -⟩ := h.own.rd
  have c0 : w.cell? ⟨g, 0, none⟩ = some (.slice a B.length k) := h.cells.cell 0
  have c1 : w.cell? ⟨g, 1, none⟩ = some (.int .i64 (s.1 : Int)) := h.cells.cell 1
  have c2 : w.cell? ⟨g, 2, none⟩ = some (.int .i64 (s.2 : Int)) := h.cells.cell 2
  have hat := h.at_
  have hsz := h.sz
  rcases hs with hs | ⟨hs, hb⟩
  · have hne : ((s.2 : Int) != 0) = true := by rw [bne_iff_ne]; omega
    have HR : Hid (rdNum B s = (0, s)) := by unfold Hid rdNum; rw [if_pos hs]
    clear h hs
    go_enter Tryz.func50, Tryz.ntmps50
    go_wp2_with fail
    go_ret
    exact ⟨by rw [HR.out]; rfl, by rw [HR.out]; exact H.out, Upd.refl _ _⟩
  · obtain ⟨at_, er⟩ := s
    dsimp only at *
    subst hs
    have hcut := run_cut (P := Tryz.prog) Tryz.underlying28 sizeByte a B.length k at_ hat
    simp only [Nat.mul_one] at hcut
    have HD := Lib.hid (h.own.rd.drop at_ hat)
    have hrl : B.length - at_ = (B.drop at_).length := by rw [List.length_drop]
    have HN : Hid (_ = _) := rdNum_0 B at_
    replace c2 : w.cell? ⟨g, 2, none⟩ = some (.int .i64 0) := c2
    rw [hrl] at HD hcut
    have hrs : (B.drop at_).length ≤ 140737488351232 := by rw [List.length_drop]; omega
    generalize B.drop at_ = r at *
    generalize (if k = at_ then a else a.map (·.add at_)) = ar at *
    generalize k - at_ = kr at *
    clear hrl h
    rcases hb with rfl | ⟨c, t, rfl, hct⟩
    · have HR : Hid (rdNum B (at_, 0) = (0, at_, 3)) := HN.out.trans (by simp [numAt])
      clear HN
      go_enter Tryz.func50, Tryz.ntmps50
      go_wp2_with fail
      go_quiet (fail)
      have HU := Lib.hid ((Upd.refl [] w).drewN nq)
      generalize w.drewN nq = w1 at *
      have d1 := HU.out.cell c1 (by simp)
      go_wp2_with fail
      with_reducible refine (rWrong_any _ at_ 3 _ 3 rfl rfl (H.out.upd HU.out) hat (by decide)).mono ?_
      rintro e w2 ⟨rfl, h2, hu2⟩
      go_wp2_with fail
      go_ret
      exact ⟨by rw [HR.out]; rfl, by rw [HR.out]; exact h2, HU.out.trans hu2 (by simp) (by simp)⟩
    · obtain ⟨b, off, hae, hc0⟩ := HD.out.at_ 0 (by simp)
      subst hae
      rw [nth_cons_zero] at hc0
      have hc0' : w.cell? ⟨b, off, none⟩ = some (bv c) := hc0
      clear hc0
      have hlen : (c :: t).length = t.length + 1 := rfl
      rw [hlen] at hcut hrs
      have hlt := c.toNat_lt
      by_cases h8 : 8 < c.toNat
      · have HR : Hid (rdNum B (at_, 0) = (0, at_, 4)) := HN.out.trans (by rw [numAt_cons, if_pos h8]; simp)
        have q8 : (8 : Int) < c.toNat := by omega
        clear HN hct h8
        go_enter Tryz.func50, Tryz.ntmps50
        go_wp2_with fail
        go_quiet (fail)
        have HU := Lib.hid ((Upd.refl [] w).drewN nq)
        generalize w.drewN nq = w1 at *
        have d1 := HU.out.cell c1 (by simp)
        have d0 := HU.out.cell hc0' (by simp)
        go_wp2_with fail
        with_reducible refine (rWrong_any _ at_ 4 _ 4 rfl rfl (H.out.upd HU.out) hat (by decide)).mono ?_
        rintro e w2 ⟨rfl, h2, hu2⟩
        go_wp2_with fail
        go_ret
        exact ⟨by rw [HR.out]; rfl, by rw [HR.out]; exact h2, HU.out.trans hu2 (by simp) (by simp)⟩
      · have hsh : t.length < c.toNat := by omega
        have HR : Hid (rdNum B (at_, 0) = (0, at_, 3)) := HN.out.trans (by rw [numAt_cons, if_neg h8, if_pos hsh]; simp)
        have q8 : ¬ (8 : Int) < c.toNat := by omega
        have qs : (t.length : Int) + 1 < 1 + c.toNat := by omega
        clear HN hct h8 hsh
        go_enter Tryz.func50, Tryz.ntmps50
        go_wp2_with fail
        go_quiet (fail)
        have HU := Lib.hid ((Upd.refl [] w).drewN nq)
        generalize w.drewN nq = w1 at *
        have d1 := HU.out.cell c1 (by simp)
        have d0 := HU.out.cell hc0' (by simp)
        go_wp2_with fail
        with_reducible refine (rWrong_any _ at_ 3 _ 3 rfl rfl (H.out.upd HU.out) hat (by decide)).mono ?_
        rintro e w2 ⟨rfl, h2, hu2⟩
        go_wp2_with fail
        go_ret
        exact ⟨by rw [HR.out]; rfl, by rw [HR.out]; exact h2, HU.out.trans hu2 (by simp) (by simp)⟩
set_option maxHeartbeats 4000000 in
/-- A number whose bytes are all there. -/
theorem rNumIn_any (w : World) (at_ : Nat) (c : UInt8) (t : List UInt8) (h : RdrAt 165 base w g v B (at_, 0)) (hr : B.drop at_ = c :: t) (h8 : ¬ 8 < c.toNat) (hsh : ¬ t.length < c.toNat) :
    Calls Tryz.prog 50 #[.pointer (some ⟨g, 0, none⟩)] w fun x w' => x = .returned (.int .i64 ((rdNum B (at_, 0)).1 : Int)) ∧ RdrAt 165 base w' g v B (rdNum B (at_, 0)).2 ∧ Upd [g] w w' := by
  have H := Lib.hid h
  obtain ⟨a, k, rfl, -⟩ := h.own.rd
  have c0 : w.cell? ⟨g, 0, none⟩ = some (.slice a B.length k) := h.cells.cell 0
  have c1 : w.cell? ⟨g, 1, none⟩ = some (.int .i64 (at_ : Int)) := h.cells.cell 1
  have c2 : w.cell? ⟨g, 2, none⟩ = some (.int .i64 0) := h.cells.cell 2
  have hat : at_ ≤ B.length := h.at_
  have hsz := h.sz
  have hcut := run_cut (P := Tryz.prog) Tryz.underlying28 sizeByte a B.length k at_ hat
  simp only [Nat.mul_one] at hcut
  have HD := Lib.hid (h.own.rd.drop at_ hat)
  have hrl : B.length - at_ = (B.drop at_).length := by rw [List.length_drop]
  have HN : Hid (_ = _) := rdNum_0 B at_
  rw [hrl] at HD hcut
  have hrs : (B.drop at_).length ≤ 140737488351232 := by rw [List.length_drop]; omega
  have hrs2 : (B.drop at_).length + at_ = B.length := by rw [List.length_drop]; omega
  rw [hr] at HD hcut hrs HN hrs2
  have hkr : (c :: t).length ≤ k - at_ := by obtain ⟨_, _, he, h1, _⟩ := HD.out; have := (Value.slice.inj he).2.2; omega
  generalize (if k = at_ then a else a.map (·.add at_)) = ar at *
  generalize k - at_ = kr at *
  clear hrl h hr
  obtain ⟨b, off, hae, hc0⟩ := HD.out.at_ 0 (by simp)
  subst hae
  rw [nth_cons_zero] at hc0
  have hc0' : w.cell? ⟨b, off, none⟩ = some (bv c) := hc0
  have HT := Lib.hid (fun j (hj : j < t.length) => show w.cell? ⟨b, off + 1 + j, none⟩ = some (bv (nth t j)) by
    obtain ⟨b', off', he, hcj⟩ := HD.out.at_ (j + 1) (by simp; omega)
    cases he
    rw [nth_cons_succ] at hcj
    rwa [Nat.add_assoc, Nat.add_comm 1 j])
  have hlen : (c :: t).length = t.length + 1 := rfl
  rw [hlen] at hcut hrs hkr hrs2
  have hlt := c.toNat_lt
  have q8 : ¬ (8 : Int) < c.toNat := by omega
  have qs : ¬ (t.length : Int) + 1 < 1 + c.toNat := by omega
  have hc2 := fun W => run_cut_lh (P := Tryz.prog) Tryz.underlying28 sizeByte (some ⟨b, off, none⟩) (t.length + 1) kr 1 (1 + c.toNat) (by omega) (by omega) W 1 (1 + (c.toNat : Int)) rfl (by omega)
  simp only [Nat.mul_one, Nat.add_sub_cancel_left] at hc2
  have HA1 : Hid (0 < c.toNat → (if kr = 1 then (some ⟨b, off, none⟩ : Option Addr) else (some ⟨b, off, none⟩ : Option Addr).map (·.add 1)) = some ⟨b, off + 1, none⟩) := fun hc => by rw [if_neg (by omega)]; simp [add_none]
  generalize (if kr = 1 then (some ⟨b, off, none⟩ : Option Addr) else (some ⟨b, off, none⟩ : Option Addr).map (·.add 1)) = a1 at *
  rw [numAt_cons, if_neg h8, if_neg hsh] at HN
  have HB7 := Lib.hid (fun j (hj : j ≤ 7) => beN_take_lt t j hj)
  have HBS := Lib.hid (fun j (hj : j < t.length) => beN_take_succ t j hj)
  generalize hcn : c.toNat = cn at *
  go_enter Tryz.func50, Tryz.ntmps50
  go_wp2_with fail
  go_quiet (fail)
  have HU := Lib.hid ((Upd.refl [] w).drewN nq)
  generalize w.drewN nq = w1 at *
  have d1 := HU.out.cell c1 (by simp)
  have d0 := HU.out.cell hc0' (by simp)
  go_wp2_with fail
  have hHN : Hid (rdNum B (at_, 0) = if (0 < cn ∧ nth t 0 = 0) ∨ 9223372036854775808 ≤ beN (t.take cn) then (0, at_, 4) else (beN (t.take cn), at_ + (1 + cn), 0)) := by
    unfold Hid; rw [HN.out]; split <;> simp
  clear HN
  have hcn8 : cn ≤ 8 := by omega
  have hcnt : cn ≤ t.length := by omega
  go_loop [5, 7, 59] (fun u x i => ∃ j : Nat, i = .int .i64 (j : Int) ∧ j ≤ cn ∧ u = .int .u64 ((beN (t.take j) : Nat) : Int)) (fun _ _ i => cn - (intOf i).toNat)
  case atStart => exact ⟨0, rfl, Nat.zero_le _, rfl⟩
  case round =>
    obtain ⟨j, rfl, hj, rfl⟩ := hrel
    by_cases hlj : j < cn
    · have ha1 := HA1.out (by omega)
      subst ha1
      have hcj := HU.out.cell (HT.out j (by omega)) (by simp)
      have HST := Lib.hid ((or64 (beN (t.take j)) (nth t j) (HB7.out j (by omega))).trans (by rw [← HBS.out j (by omega)]))
      generalize nth t j = x at *
      obtain ⟨n, HNE⟩ : ∃ n, Hid (beN (t.take j) = n) := ⟨_, rfl⟩
      rw [HNE.out] at HST
      rw [HNE.out]
      go_wp2_with fail
      go_round
      case rel => exact ⟨j + 1, by go_num, by omega, congrArg _ HST.out⟩
      case measure => simp [intOf]; omega
    · obtain rfl : j = cn := by omega
      have hU64 : beN (t.take j) < 18446744073709551616 := by
        have h1 := beN_lt (t.take j)
        have h2 : (256 : Nat) ^ (t.take j).length ≤ 256 ^ 8 := Nat.pow_le_pow_right (by decide) (by rw [List.length_take]; omega)
        have h3 : (256 : Nat) ^ 8 = 18446744073709551616 := by decide
        omega
      have h0U : j = 0 → beN (t.take j) = 0 := fun e => by subst e; rfl
      generalize beN (t.take j) = U at *
      by_cases hA : 0 < j ∧ nth t 0 = 0
      · have HR : Hid (rdNum B (at_, 0) = (0, at_, 4)) := hHN.out.trans (if_pos (.inl hA))
        obtain ⟨hA1, hA2⟩ := hA
        have hcj : w1.cell? ⟨b, off + 1, none⟩ = some (bv 0) := by have := HU.out.cell (HT.out 0 (by omega)) (by simp); rw [hA2] at this; exact this
        have q1 : (0 : Int) < j := by omega
        have q2 : (1 : Int) < (t.length : Int) + 1 := by omega
        clear hA2
        go_wp2_with fail
        with_reducible refine (rWrong_any _ at_ 4 _ 4 rfl rfl (H.out.upd HU.out) hat (by decide)).mono ?_
        rintro e w2 ⟨rfl, h2, hu2⟩
        go_wp2_with fail
        go_ret
        exact ⟨by rw [HR.out]; rfl, by rw [HR.out]; exact h2, HU.out.trans hu2 (by simp) (by simp)⟩
      · have hx : (j = 0 ∧ U = 0) ∨ (0 < j ∧ nth t 0 ≠ 0) := by
          rcases Nat.eq_zero_or_pos j with e | e
          · exact .inl ⟨e, h0U e⟩
          · exact .inr ⟨e, fun q => hA ⟨e, q⟩⟩
        have hN2 : Hid (rdNum B (at_, 0) = if 9223372036854775808 ≤ U then (0, at_, 4) else (U, at_ + (1 + j), 0)) := by
          unfold Hid; rw [hHN.out]
          by_cases hq : 9223372036854775808 ≤ U
          · rw [if_pos (.inr hq), if_pos hq]
          · rw [if_neg (by rintro (q | q); exact hA q; exact hq q), if_neg hq]
        clear hHN hA
        rcases hx with ⟨rfl, rfl⟩ | ⟨hj0, ht0⟩
        · have HR : Hid (rdNum B (at_, 0) = (0, at_ + 1, 0)) := hN2.out.trans (by simp)
          have HS := Lib.hid ((H.out.upd HU.out).set1 (by decide) (at_ + 1) (by omega))
          have HSU := Lib.hid ((Upd.mono (T := [g]) HU.out (by simp)).setCell ⟨g, 1, none⟩ (.int .i64 ((at_ + 1 : Nat) : Int)) (.inl (by simp)))
          have hfr := (H.out.upd HU.out).cells.frozen 1
          have hc1' : ((at_ + 1 : Nat) : Int) = (at_ : Int) + 1 := by omega
          rw [hc1'] at HS HSU
          clear hN2 hc1'
          go_wp2_with fail
          go_ret
          exact ⟨by rw [HR.out]; rfl, by rw [HR.out]; exact HS.out, HSU.out⟩
        · have hcj : w1.cell? ⟨b, off + 1, none⟩ = some (bv (nth t 0)) := HU.out.cell (HT.out 0 (by omega)) (by simp)
          have hx0 : (((nth t 0).toNat : Int) == 0) = false := by
            rw [beq_eq_false_iff_ne]; intro e; exact ht0 (UInt8.toNat_inj.1 (show (nth t 0).toNat = 0 by omega))
          generalize nth t 0 = x0 at *
          have q1 : (0 : Int) < j := by omega
          have q2 : (1 : Int) < (t.length : Int) + 1 := by omega
          clear ht0
          by_cases hq : 9223372036854775808 ≤ U
          · have HR : Hid (rdNum B (at_, 0) = (0, at_, 4)) := hN2.out.trans (if_pos hq)
            have hU1 : (U : Int) / 9223372036854775808 = 1 := by omega
            clear hN2
            go_wp2_with fail
            with_reducible refine (rWrong_any _ at_ 4 _ 4 rfl rfl (H.out.upd HU.out) hat (by decide)).mono ?_
            rintro e w2 ⟨rfl, h2, hu2⟩
            go_wp2_with fail
            go_ret
            exact ⟨by rw [HR.out]; rfl, by rw [HR.out]; exact h2, HU.out.trans hu2 (by simp) (by simp)⟩
          · have HR : Hid (rdNum B (at_, 0) = (U, at_ + (1 + j), 0)) := hN2.out.trans (if_neg hq)
            have hU1 : (U : Int) / 9223372036854775808 = 0 := by omega
            have HS := Lib.hid ((H.out.upd HU.out).set1 (by decide) (at_ + (1 + j)) (by omega))
            have HSU := Lib.hid ((Upd.mono (T := [g]) HU.out (by simp)).setCell ⟨g, 1, none⟩ (.int .i64 ((at_ + (1 + j) : Nat) : Int)) (.inl (by simp)))
            have hfr := (H.out.upd HU.out).cells.frozen 1
            have hc1' : ((at_ + (1 + j) : Nat) : Int) = (at_ : Int) + (1 + (j : Int)) := by omega
            rw [hc1'] at HS HSU
            clear hN2 hc1'
            go_wp2_with fail
            go_ret
            exact ⟨by rw [HR.out]; rfl, by rw [HR.out]; exact HS.out, HSU.out⟩
theorem rNum_any (w : World) (h : RdrAt 165 base w g v B s) :
    Calls Tryz.prog 50 #[.pointer (some ⟨g, 0, none⟩)] w fun x w' => x = .returned (.int .i64 ((rdNum B s).1 : Int)) ∧ RdrAt 165 base w' g v B (rdNum B s).2 ∧ Upd [g] w w' := by
  by_cases hs : s.2 = 0
  · cases hr : B.drop s.1 with
    | nil => exact rNumBad_any w h (.inr ⟨hs, .inl hr⟩)
    | cons c t =>
      by_cases hb : 8 < c.toNat ∨ t.length < c.toNat
      · exact rNumBad_any w h (.inr ⟨hs, .inr ⟨c, t, hr, hb⟩⟩)
      · obtain ⟨k, e⟩ := s
        dsimp only at hs hr
        subst hs
        exact rNumIn_any w k c t h hr (fun q => hb (.inl q)) (fun q => hb (.inr q))
  · exact rNumBad_any w h (.inl hs)
end
end Go.Proofs.YtmhojaiajhdlcaaGreat
namespace Go.Proofs.YtmhojaiajhdlcaaGreat
open Go.RowKit
set_option linter.unusedSimpArgs false
set_option linter.unusedVariables false

/-- A later world in which what was there is as it was. -/
structure Wx (w : World) where
  val : World
  prop : Upd [] w val
instance (w : World) : Inhabited (Wx w) := ⟨⟨w, Upd.refl [] w⟩⟩
theorem Wx.cell {w : World} {p : Addr} {v : Value} (h : w.cell? p = some v) (x : Wx w) : x.val.cell? p = some v := x.prop.cell h (by simp)
section
variable {P : Program} {w : World} {x : Wx w} {f : FuncId} {args : Array Value} {v : Value}
theorem Wx.upd (h : Calls P f args x.val fun e w' => e = .returned v ∧ Upd [] x.val w') : Calls P f args x.val fun e w'' => e = .returned v ∧ ∃ y : Wx w, w'' = y.val :=
  h.mono fun _ w' ⟨he, hu⟩ => ⟨he, ⟨w', x.prop.seq hu⟩, rfl⟩
theorem Wx.draws (h : Calls P f args x.val fun e w' => e = .returned v ∧ ∃ n, w' = x.val.drewN n) : Calls P f args x.val fun e w'' => e = .returned v ∧ ∃ y : Wx w, w'' = y.val :=
  h.mono fun _ w' ⟨he, n, hw⟩ => ⟨he, ⟨w', by rw [hw]; exact x.prop.drewN n⟩, rfl⟩
theorem Wx.same (h : Calls P f args x.val fun e w' => e = .returned v ∧ x.val = w') : Calls P f args x.val fun e w'' => e = .returned v ∧ ∃ y : Wx w, w'' = y.val :=
  h.mono fun _ w' ⟨he, hw⟩ => ⟨he, x, hw.symm⟩
theorem wp_region_wx {ops : List Oper} {id : Nat} {Q : Exit → Act → World → Prop} {a : Act} (hm : P.follows .mixedOrders = true) (hB : Region.lexB .any ops.toArray = true)
    (h : wpQuiet P ops.toArray (fun w' => ∃ x : Wx w, w' = x.val) (fun a' => ∀ w', (∃ x : Wx w, w' = x.val) → Q .normal a' w') ops a) : (Code.region id ops.toArray true).wp P Q a w :=
  wp_region_quiet (C := fun w' => ∃ x : Wx w, w' = x.val) hm hB ⟨⟨w.drew, (Upd.refl [] w).drew⟩, rfl⟩ (by simpa using h)
end
end Go.Proofs.YtmhojaiajhdlcaaGreat
namespace Go.Proofs.YtmhojaiajhdlcaaGreat
open Go.RowKit
set_option linter.unusedSimpArgs false
set_option linter.unusedVariables false
section
variable {base : Nat} {g : Nat} {v : Value} {B : List UInt8} {s : RSt}
theorem Upd.gg {g : Nat} {a b c : World} (h : Upd [g] a b) (k : Upd [g] b c) : Upd [g] a c := h.trans k (fun x hx => hx) (fun x hx => .inl hx)
theorem Upd.up {g : Nat} {a b : World} (h : Upd [] a b) : Upd [g] a b := h.mono (by simp)
set_option maxHeartbeats 2000000 in
theorem rUpto_any (w : World) (most : Int) (hm : I64 most) (h : RdrAt 165 base w g v B s) :
    Calls Tryz.prog 101 #[.pointer (some ⟨g, 0, none⟩), .int .i64 most] w fun x w' => x = .returned (.int .i64 ((rdUpto B most s).1 : Int)) ∧ RdrAt 165 base w' g v B (rdUpto B most s).2 ∧ Upd [g] w w' := by
  have H := Lib.hid h
  have c1 : w.cell? ⟨g, 1, none⟩ = some (.int .i64 (s.1 : Int)) := h.cells.cell 1
  have hat := h.at_
  have hle := rdNum_le B s h.at_ h.er
  go_enter Tryz.func101, Tryz.ntmps101
  go_wp2_with fail
  with_reducible refine (rNum_any _ H.out).mono ?_
  rintro e w1 ⟨rfl, h1, hu1⟩
  have c2 := h1.cells.cell 2
  have HU1 := Lib.hid hu1
  have H1 := Lib.hid h1
  clear h1 hu1 h
  by_cases hb : (rdNum B s).2.2 = 0 ∧ most < ((rdNum B s).1 : Int)
  · have HR : Hid (rdUpto B most s = (0, s.1, 2)) := if_pos hb
    obtain ⟨hb1, hb2⟩ := hb
    generalize rdNum B s = r at *
    obtain ⟨n, at1, er1⟩ := r
    dsimp only at hb1 hb2 hle
    subst hb1
    replace c2 : w1.cell? ⟨g, 2, none⟩ = some (.int .i64 0) := c2
    dsimp only
    go_wp2_with fail
    with_reducible refine (rWrong_any _ s.1 2 _ 2 rfl rfl H1.out hat (by decide)).mono ?_
    rintro e w2 ⟨rfl, h2, hu2⟩
    go_wp2_with fail
    go_ret
    exact ⟨by rw [HR.out]; rfl, by rw [HR.out]; exact h2, HU1.out.gg hu2⟩
  · have HR : Hid (rdUpto B most s = rdNum B s) := if_neg hb
    generalize rdNum B s = r at *
    obtain ⟨n, at1, er1⟩ := r
    dsimp only at hb hle
    replace c2 : w1.cell? ⟨g, 2, none⟩ = some (.int .i64 (er1 : Int)) := c2
    dsimp only
    by_cases he : er1 = 0
    · subst he
      have hb2 : ¬ most < (n : Int) := fun q => hb ⟨rfl, q⟩
      replace c2 : w1.cell? ⟨g, 2, none⟩ = some (.int .i64 0) := c2
      clear hb
      go_wp2_with fail
      go_ret
      exact ⟨by rw [HR.out]; rfl, by rw [HR.out]; exact H1.out, HU1.out⟩
    · have he2 : ((er1 : Int) == 0) = false := by rw [beq_eq_false_iff_ne]; omega
      clear hb he
      go_wp2_with fail
      go_ret
      exact ⟨by rw [HR.out]; rfl, by rw [HR.out]; exact H1.out, HU1.out⟩
set_option maxHeartbeats 2000000 in
theorem rEnd_any (w : World) (h : RdrAt 165 base w g v B s) :
    Calls Tryz.prog 52 #[.pointer (some ⟨g, 0, none⟩)] w fun x w' => x = .returned (.int .i64 ((rdEnd B s).2 : Int)) ∧ RdrAt 165 base w' g v B (rdEnd B s) ∧ Upd [g] w w' := by
  have H := Lib.hid h
  obtain ⟨a, k, rfl, -⟩ := h.own.rd
  have c0 : w.cell? ⟨g, 0, none⟩ = some (.slice a B.length k) := h.cells.cell 0
  have c1 : w.cell? ⟨g, 1, none⟩ = some (.int .i64 (s.1 : Int)) := h.cells.cell 1
  have c2 : w.cell? ⟨g, 2, none⟩ = some (.int .i64 (s.2 : Int)) := h.cells.cell 2
  have hat := h.at_
  obtain ⟨at_, er⟩ := s
  dsimp only at *
  clear h
  by_cases hb : er = 0 ∧ at_ < B.length
  · have HR : Hid (rdEnd B (at_, er) = (at_, 5)) := if_pos hb
    obtain ⟨rfl, hb2⟩ := hb
    replace c2 : w.cell? ⟨g, 2, none⟩ = some (.int .i64 0) := c2
    have hb3 : (at_ : Int) < B.length := by omega
    go_enter Tryz.func52, Tryz.ntmps52
    go_wp2_with fail
    go_quiet (fail)
    have HU := Lib.hid ((Upd.refl [] w).drewN nq)
    generalize w.drewN nq = w1 at *
    have d2 := HU.out.cell c2 (by simp)
    have hfr := (H.out.upd HU.out).cells.frozen 2
    have HS := Lib.hid ((H.out.upd HU.out).set2 (by decide) 5 (by decide))
    have HSU := Lib.hid ((Upd.up (g := g) HU.out).setCell ⟨g, 2, none⟩ (.int .i64 ((5 : Nat) : Int)) (.inl (by simp)))
    go_wp2_with fail
    go_ret
    exact ⟨by rw [HR.out]; rfl, by rw [HR.out]; exact HS.out, HSU.out⟩
  · have HR : Hid (rdEnd B (at_, er) = (at_, er)) := if_neg hb
    by_cases he : er = 0
    · subst he
      have hb3 : ¬ (at_ : Int) < B.length := fun q => hb ⟨rfl, by omega⟩
      replace c2 : w.cell? ⟨g, 2, none⟩ = some (.int .i64 0) := c2
      clear hb
      go_enter Tryz.func52, Tryz.ntmps52
      go_wp2_with fail
      go_quiet (fail)
      have HU := Lib.hid ((Upd.refl [] w).drewN nq)
      generalize w.drewN nq = w1 at *
      have d2 := HU.out.cell c2 (by simp)
      go_wp2_with fail
      go_ret
      exact ⟨by rw [HR.out]; rfl, by rw [HR.out]; exact H.out.upd HU.out, HU.out.up⟩
    · have he2 : ((er : Int) == 0) = false := by rw [beq_eq_false_iff_ne]; omega
      clear hb he
      go_enter Tryz.func52, Tryz.ntmps52
      go_wp2_with fail
      go_quiet (fail)
      have HU := Lib.hid ((Upd.refl [] w).drewN nq)
      generalize w.drewN nq = w1 at *
      have d2 := HU.out.cell c2 (by simp)
      go_wp2_with fail
      go_ret
      exact ⟨by rw [HR.out]; rfl, by rw [HR.out]; exact H.out.upd HU.out, HU.out.up⟩
theorem rRead_any (w : World) (u : Value) (l : List UInt8) (h : Bytes w u l) (hz : l.length ≤ 140737488351232) :
    Calls Tryz.prog 49 #[u] w fun x w' => ∃ g v, x = .returned (.pointer (some ⟨g, 0, none⟩)) ∧ RdrAt 165 w.heap.size w' g v l (0, 0) ∧ Upd [] w w' := by
  have H := Lib.hid h
  obtain ⟨a, cap, rfl, -, -, -⟩ := h
  go_enter Tryz.func49, Tryz.ntmps49
  go_wp2_with (at_builtin; refine wpList_app bv_one rfl (.const (.slice none 0 0)) (.tmp 3) rfl Tryz.underlying28 infoByte rfl (.slice none 0 0) (.slice a l.length cap) [] l rfl rfl (Own.nil w.heap.size _ _) H.out (by simp; omega) (by unfold maxLen; simp; omega) (Nat.le_refl _) ?_; intro v3 w3 ho hu hbk; rw [List.nil_append] at ho; have HU3 : Hid (Upd [] w w3) := (Upd.refl [] w).trans hu (by simp) (by simp [blk]); have HO3 := Lib.hid ho; obtain ⟨a3, c3, rfl, -⟩ := ho.rd; clear ho hu hbk)
  go_ret
  exact ⟨_, _, rfl, ⟨Blk.new w3 _ [.slice a3 l.length c3, .int .i64 0, .int .i64 0], HO3.out.upd ((Upd.refl [] w3).alloc _) (by simp), HU3.out.size, Nat.zero_le _, Nat.zero_le _, hz⟩, HU3.out.alloc _⟩
end
end Go.Proofs.YtmhojaiajhdlcaaGreat
namespace Go.Proofs.YtmhojaiajhdlcaaGreat
open Go.RowKit
set_option linter.unusedSimpArgs false
set_option linter.unusedVariables false
theorem infoInt8 : (Tryz.prog.info? 3).map (fun i => (i.zero, i.size, i.bytes)) = some (some (.int .i64 0), 1, 8) := by kernel_rfl
theorem strOf_nil : strOf [] = ⟨#[]⟩ := rfl
section
variable {base : Nat} {g : Nat} {v : Value} {B : List UInt8} {s : RSt}
set_option maxHeartbeats 4000000 in
theorem rText_any (w : World) (most : Int) (hm : I64 most) (h : RdrAt 165 base w g v B s) :
    Calls Tryz.prog 51 #[.pointer (some ⟨g, 0, none⟩), .int .i64 most] w fun x w' => x = .returned (.string (strOf (rdText B most s).1)) ∧ RdrAt 165 base w' g v B (rdText B most s).2 ∧ Upd [g] w w' := by
  have H := Lib.hid h
  obtain ⟨a, k, rfl, hBk, -⟩ := h.own.rd
  have c1 : w.cell? ⟨g, 1, none⟩ = some (.int .i64 (s.1 : Int)) := h.cells.cell 1
  have hat := h.at_
  have hsz := h.sz
  have hle := rdUpto_le B most s h.at_ h.er
  go_enter Tryz.func51, Tryz.ntmps51
  go_wp2_with fail
  with_reducible refine (rUpto_any _ most hm H.out).mono ?_
  rintro e w1 ⟨rfl, h1, hu1⟩
  have c2 := h1.cells.cell 2
  have c0 : w1.cell? ⟨g, 0, none⟩ = some (.slice a B.length k) := h1.cells.cell 0
  have d1 := h1.cells.cell 1
  have HU1 := Lib.hid hu1
  have H1 := Lib.hid h1
  have HT : Hid (rdText B most s = if (rdUpto B most s).2.2 ≠ 0 then ([], (rdUpto B most s).2)
    else if B.length - (rdUpto B most s).2.1 < (rdUpto B most s).1 then ([], s.1, 3)
    else ((B.drop (rdUpto B most s).2.1).take (rdUpto B most s).1, (rdUpto B most s).2.1 + (rdUpto B most s).1, 0)) := rfl
  clear h1 hu1 h
  generalize rdUpto B most s = r at *
  obtain ⟨n, at1, er1⟩ := r
  dsimp only at hle HT
  replace c2 : w1.cell? ⟨g, 2, none⟩ = some (.int .i64 (er1 : Int)) := c2
  replace d1 : w1.cell? ⟨g, 1, none⟩ = some (.int .i64 (at1 : Int)) := d1
  dsimp only
  by_cases he : er1 = 0
  · subst he
    replace c2 : w1.cell? ⟨g, 2, none⟩ = some (.int .i64 0) := c2
    have HT := Lib.hid (HT.out.trans (if_neg (by simp)))
    have hat1 : at1 ≤ B.length := hle.2.2.1
    by_cases hb : B.length - at1 < n
    · have HR := Lib.hid (HT.out.trans (if_pos hb))
      have hb2 : (B.length : Int) - at1 < n := by omega
      clear HT
      go_wp2_with fail
      go_quiet (fail)
      have HU := Lib.hid ((Upd.refl [] w1).drewN nq)
      generalize w1.drewN nq = w2 at *
      go_wp2_with fail
      with_reducible refine (rWrong_any _ s.1 3 _ 3 rfl rfl (H1.out.upd HU.out) hat (by decide)).mono ?_
      rintro e w3 ⟨rfl, h3, hu3⟩
      go_wp2_with fail
      go_ret
      exact ⟨by rw [HR.out, strOf_nil]; rfl, by rw [HR.out]; exact h3, (HU1.out.gg HU.out.up).gg hu3⟩
    · have HR := Lib.hid (HT.out.trans (if_neg hb))
      have hb2 : ¬ (B.length : Int) - at1 < n := by omega
      have hc2 := fun W => run_cut_lh (P := Tryz.prog) Tryz.underlying28 sizeByte a B.length k at1 (at1 + n) (by omega) (by omega) W (at1 : Int) ((at1 : Int) + (n : Int)) rfl (by omega)
      simp only [Nat.mul_one, Nat.add_sub_cancel_left] at hc2
      have HP := Lib.hid (H1.out.own.rd.sub at1 (at1 + n) (by omega) (by omega))
      rw [Nat.add_sub_cancel_left] at HP
      generalize (if k = at1 then a else a.map (·.add at1)) = a2 at *
      generalize (B.drop at1).take n = pl at *
      clear HT
      go_wp2_with fail
      go_quiet (fail)
      have HU := Lib.hid ((Upd.refl [] w1).drewN nq)
      generalize w1.drewN nq = w2 at *
      have d2 := HU.out.cell d1 (by simp)
      have e0 : ∀ x : Wx w2, x.val.cell? ⟨g, 0, none⟩ = some (.slice a B.length k) := Wx.cell (HU.out.cell c0 (by simp))
      have e1 : ∀ x : Wx w2, x.val.cell? ⟨g, 1, none⟩ = some (.int .i64 (at1 : Int)) := Wx.cell d2
      have hcv : ∀ x : Wx w2, (convert 28 9 (.slice a2 n (k - at1))).run Tryz.prog x.val = .ok (.string (strOf pl)) x.val := fun x => convb_str Tryz.underlying28 Tryz.underlying5 Tryz.underlying9 _ _ _ ((HP.out.upd0 HU.out).upd0 x.prop)
      go_wp2_with fail
      refine wp_region_wx (by kernel_rfl) (by kernel_rfl) ?_
      repeat (go_big_quiet_step (fail))
      refine wpQuiet_nil ?_
      rintro _ ⟨x, rfl⟩
      have HX := Lib.hid (HU.out.seq x.prop)
      have d3 := e1 x
      have hfr := (H1.out.upd HX.out).cells.frozen 1
      have HS := Lib.hid ((H1.out.upd HX.out).set1 (by decide) (at1 + n) (by omega))
      have HSU := Lib.hid ((HU1.out.gg (Upd.up (g := g) HX.out)).setCell ⟨g, 1, none⟩ (.int .i64 ((at1 + n : Nat) : Int)) (.inl (by simp)))
      have hc1' : ((at1 + n : Nat) : Int) = (at1 : Int) + n := by omega
      rw [hc1'] at HS HSU
      generalize x.val = w4 at *
      clear hc1' e0 e1 hcv
      go_wp2_with fail
      go_ret
      exact ⟨by rw [HR.out]; rfl, by rw [HR.out]; exact HS.out, HSU.out⟩
  · have he2 : ((er1 : Int) != 0) = true := by rw [bne_iff_ne]; omega
    have HR := Lib.hid (HT.out.trans (if_pos he))
    clear HT he
    go_wp2_with fail
    go_ret
    exact ⟨by rw [HR.out, strOf_nil]; rfl, by rw [HR.out]; exact H1.out, HU1.out⟩
end
end Go.Proofs.YtmhojaiajhdlcaaGreat
namespace Go.Proofs.YtmhojaiajhdlcaaGreat
open Go.RowKit
set_option linter.unusedSimpArgs false
set_option linter.unusedVariables false
theorem flatMap_at {α : Type} [Inhabited α] {sz : Nat} {c : α → List Value} (hsz : ∀ x, (c x).length = sz) (hpos : 0 < sz) (l : List α) (k : Nat) (u : Value) (h : (l.flatMap c)[k]? = some u) :
    k / sz < l.length ∧ (c (nth l (k / sz)))[k % sz]? = some u := by
  have hk := (List.getElem?_eq_some_iff.1 h).1
  rw [flatMap_len hsz] at hk
  have h1 : k / sz < l.length := Nat.div_lt_of_lt_mul (by rw [Nat.mul_comm]; exact hk)
  refine ⟨h1, ?_⟩
  have h2 := flatMap_get hsz l (k / sz) (k % sz) h1 (Nat.mod_lt _ hpos)
  rw [Nat.mul_comm, Nat.div_add_mod] at h2
  rw [← h2, h]
theorem madeCells_flat {α : Type} [Inhabited α] {sz : Nat} {c : α → List Value} (hsz : ∀ x, (c x).length = sz) (hpos : 0 < sz) (z : Array Value) (x : α) (hz : z.toList = c x) (n : Nat) : madeCells z (n * sz) = ((List.replicate n x).flatMap c).toArray := by
  have hzs : z.size = sz := by rw [← Array.length_toList, hz, hsz]
  apply Array.toList_inj.1
  apply List.ext_getElem?
  intro j
  have hrep : ((List.replicate n x).flatMap c).length = n * sz := by rw [flatMap_len hsz, List.length_replicate]
  by_cases hj : j < n * sz
  · have h1 : j / sz < (List.replicate n x).length := by rw [List.length_replicate]; exact Nat.div_lt_of_lt_mul (by rw [Nat.mul_comm]; exact hj)
    have h2 := flatMap_get hsz (List.replicate n x) (j / sz) (j % sz) h1 (Nat.mod_lt _ hpos)
    rw [Nat.mul_comm, Nat.div_add_mod] at h2
    show (madeCells z (n * sz)).toList[j]? = ((List.replicate n x).flatMap c)[j]?
    rw [h2, nth_replicate n x _ (by simpa using h1), ← hz]
    have hm : j % sz < z.size := by rw [hzs]; exact Nat.mod_lt _ hpos
    simp only [madeCells, Array.toList_map, Array.toList_range, List.getElem?_map, List.getElem?_range hj, Option.map_some, hzs]
    rw [getElem!_pos z _ hm]; simp [hm]
  · rw [List.getElem?_eq_none (by simp [madeCells]; omega), List.getElem?_eq_none (by simp only [hrep]; omega)]
theorem blk_slice (ao : Option Addr) (n k n' k' : Nat) : blk (.slice ao n k) = blk (.slice ao n' k') := by cases ao <;> rfl
theorem cells_new {W : World} {C : Array Value} {cs : List Value} {e : TypeId} {fr : Nat × Nat} {g : Nat} (hg : g = W.heap.size) (hC : C = cs.toArray) : ∀ i u, cs[i]? = some u → (W.alloc (.cells C e fr)).cell? ⟨g, i, none⟩ = some u := by
  intro i u h
  subst hg; subst hC
  rw [cell_of_row _ W.heap.size i _ e fr (heap_alloc_new W _)]
  simpa using h
theorem Blk.fresh {w W : World} {C : Array Value} {xs : List Value} {e : TypeId} {g : Nat} (hg : g = w.heap.size) (hC : C = xs.toArray) (hu : Upd [] (w.alloc (.cells C e)) W) : Blk W g e xs := by
  subst hg; subst hC; exact (Blk.new w e xs).upd hu (by simp)
section
variable {P : Program} {ops : Array Oper} {rest : List Oper} {o : Oper} {a : Act} {w w' : World} {Q : Exit → Act → World → Prop} {K : Act → World → Prop} {E : Prop}
theorem run_appN {α : Type} [Inhabited α] {sz : Nat} {c : α → List Value} (hsz : ∀ x, (c x).length = sz) (hpos : 0 < sz) (hone : ∀ x, ∀ u ∈ c x, u.oneCell' = true) {t ty e : TypeId}
    {z : Value} {bytes base : Nat} (ht : P.underlying t = some (.slice e)) (hi : (P.info? e).map (fun i => (i.zero, i.size, i.bytes)) = some (some z, sz, bytes)) (hz : z.cells.size = sz)
    (v u : Value) (l m : List α) (hv : OwnN sz c base e w v l) (hu : RdN sz c w u m) (hb : (l.length + m.length) * bytes ≤ 140737488355328) (hl : l.length + m.length ≤ maxLen) (hbase : base ≤ w.heap.size) :
    ∃ v' w', (Builtin.append_ #[t, t] ty #[v, u]).run P w = .ok v' w' ∧ OwnN sz c base e w' v' (l ++ m) ∧ Upd (blk v) w w' ∧ (∀ x ∈ blk v', x ∈ blk v ∨ w.heap.size ≤ x) := by
  obtain ⟨i, h1, h2, h3, h4⟩ := info_parts hi
  obtain ⟨A, cap, rfl, hle, hcm, hcell0⟩ := hu
  by_cases hne : m = []
  · subst hne
    have hsz' : (P.info? e).map (·.size) = some sz := by simp [h1, h3]
    obtain ⟨ao, n, k, rfl, hnk⟩ : ∃ ao n k, v = .slice ao n k ∧ n ≤ k := by
      rcases hv.2 with ⟨rfl, _⟩ | ⟨g, cap', cur, rfl, _, _, q, _⟩
      · exact ⟨none, 0, 0, rfl, Nat.le_refl _⟩
      · exact ⟨_, _, _, rfl, q⟩
    exact ⟨_, w, run_app_nothing ht hsz' ao A n k cap hnk, by rw [List.append_nil]; exact hv, Upd.refl _ _, fun x hx => .inl hx⟩
  · obtain ⟨b, off, rfl, hcell⟩ := hcell0 hne
    have hnews : ∀ j u, (m.flatMap c)[j]? = some u → w.cell? ((⟨b, off, none⟩ : Addr).add j) = some u := fun j u hj => by
      rw [add_none]
      obtain ⟨q1, q2⟩ := flatMap_at hsz hpos m j u hj
      have q3 := hcell (j / sz) q1 (j % sz) (Nat.mod_lt _ hpos)
      rw [Nat.mul_comm (j / sz) sz, Nat.div_add_mod] at q3
      rw [q3, q2]
    obtain ⟨v', w', hr, g1, g2, _, g3⟩ := run_append_own_at (P := P) w base t ty e i z sz bytes ht h1 h2 h3 h4 hz hpos v l.length (l.flatMap c) hv ⟨b, off, none⟩ m.length cap (m.flatMap c) (flatMap_len hsz m) hnews
      (fun u hu => by obtain ⟨x, _, hx⟩ := List.mem_flatMap.1 hu; exact hone x u hx) hl hb hbase
    have hown : OwnN sz c base e w' v' (l ++ m) := by
      unfold OwnN; rw [List.length_append, List.flatMap_append]; exact g1
    refine ⟨v', w', hr, hown, by rw [blk_own]; exact Upd.of_grown g2, ?_⟩
    intro x hx
    rw [blk_own] at hx
    rcases g3 with g3 | g3
    · rw [g3, ← blk_own] at hx; exact .inl hx
    · rw [g3] at hx; simp at hx; exact .inr (by omega)
theorem wp_app_of (s x : Operand) {t : TypeId} (ho : o.op = .call { callee := .builtin .append, args := #[s, x], argTypes := #[t, t] }) (v u : Value) (hs : a.eval s = v) (hx : a.eval x = u)
    {R : Value → World → Prop} (hr : ∃ v' w', (Builtin.append_ #[t, t] o.type #[v, u]).run P w = .ok v' w' ∧ R v' w') (h : ∀ v' w', R v' w' → K (a.put o.dst v') w') : o.wp P a w K Q := by
  obtain ⟨v', w', hr, hR⟩ := hr
  unfold Oper.wp execOp
  simp only [ho, resolve, invoke, builtin, Sem.run_bind, Sem.run_pure, Result.andThen_ok, List.map_toArray, List.map_cons, List.map_nil, hs, hx, hr]
  exact h v' w' hR
theorem wpList_app_of (hgd : o.guard = none) (s x : Operand) {t : TypeId} (ho : o.op = .call { callee := .builtin .append, args := #[s, x], argTypes := #[t, t] }) (v u : Value) (hs : a.eval s = v) (hx : a.eval x = u)
    {R : Value → World → Prop} (hr : ∃ v' w', (Builtin.append_ #[t, t] o.type #[v, u]).run P w = .ok v' w' ∧ R v' w') (h : ∀ v' w', R v' w' → wpList P ops Q rest (a.put o.dst v') w') : wpList P ops Q (o :: rest) a w :=
  wpList_plain hgd fun K hK => wp_app_of s x ho v u hs hx hr fun v' w' hR => hK _ _ (h v' w' hR)
theorem step_app_of (hgd : o.guard = none) (s x : Operand) {t : TypeId} (ho : o.op = .call { callee := .builtin .append, args := #[s, x], argTypes := #[t, t] }) (v u : Value) (hs : a.eval s = v) (hx : a.eval x = u)
    {R : Value → World → Prop} (hr : ∃ v' w', (Builtin.append_ #[t, t] o.type #[v, u]).run P w = .ok v' w' ∧ R v' w') (h : ∀ v' w', R v' w' → K (a.put o.dst v') w') :
    if Region.wanted o (yielded ops a.tmps) = true then Oper.wp P o a w K Q else E := by
  have hw : Region.wanted o (yielded ops a.tmps) = true := by simp [Region.wanted, hgd]
  rw [if_pos hw]
  exact wp_app_of s x ho v u hs hx hr h
end
end Go.Proofs.YtmhojaiajhdlcaaGreat
namespace Go.Proofs.YtmhojaiajhdlcaaGreat
/-- A slice's value. -/
structure Sl where
  a : Option Addr
  n : Nat
  k : Nat
instance : Inhabited Sl := ⟨⟨none, 0, 0⟩⟩
abbrev slv (s : Sl) : Value := .slice s.a s.n s.k
theorem slv_one (s : Sl) : (slv s).oneCell' = true := rfl
end Go.Proofs.YtmhojaiajhdlcaaGreat
