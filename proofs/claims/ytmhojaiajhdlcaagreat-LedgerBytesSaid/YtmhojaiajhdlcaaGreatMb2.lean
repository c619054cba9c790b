/- Texts of the proof, joined: Chapter 25 as plain law: records, their bytes, and back. A rule's name: the program's look at it. Which records may be: the program's look. A slice cut at its beginning, or at its end: the run. Slices whose elements have several cells. Slices of the call's own whose elements have several cells. Chapter 2: a reader, and how it reads a number. A region that draws its order and whose calls give plain values and turn nothing that was there: one walk in the text's order. Chapter 2: Upto, Text, Flag, End of a reader. Chapter 2: Text and Items of a reader. -/
import Derived.Test.YtmhojaiajhdlcaaGreatMb1
import Derived.ChangeKeysEq
namespace Go.Proofs.YtmhojaiajhdlcaaGreat
open Go.RowKit
set_option linter.unusedSimpArgs false
set_option linter.unusedVariables false
/-- Ten places. -/
abbrev C10 := {l : List Int // l.length = 10}
def c10z : C10 := ⟨[0, 0, 0, 0, 0, 0, 0, 0, 0, 0], rfl⟩
structure Key where
  ino : Int
  gen : Int
  at_ : Int
  rule : ByteArray
structure Rec where
  key : Key
  kind : Int
  caps : C10
theorem Key.ext' {a b : Key} (h1 : a.ino = b.ino) (h2 : a.gen = b.gen) (h3 : a.at_ = b.at_) (h4 : a.rule = b.rule) : a = b := by
  obtain ⟨a1, a2, a3, a4⟩ := a
  obtain ⟨b1, b2, b3, b4⟩ := b
  dsimp only at h1 h2 h3 h4
  rw [h1, h2, h3, h4]
instance : DecidableEq Key := fun a b => decidable_of_iff (a.ino = b.ino ∧ a.gen = b.gen ∧ a.at_ = b.at_ ∧ a.rule = b.rule) ⟨fun h => Key.ext' h.1 h.2.1 h.2.2.1 h.2.2.2, fun h => by rw [h]; exact ⟨rfl, rfl, rfl, rfl⟩⟩
theorem Rec.ext' {a b : Rec} (h1 : a.key = b.key) (h2 : a.kind = b.kind) (h3 : a.caps = b.caps) : a = b := by
  obtain ⟨a1, a2, a3⟩ := a
  obtain ⟨b1, b2, b3⟩ := b
  dsimp only at h1 h2 h3
  rw [h1, h2, h3]
instance : DecidableEq Rec := fun a b => decidable_of_iff (a.key = b.key ∧ a.kind = b.kind ∧ a.caps = b.caps) ⟨fun h => Rec.ext' h.1 h.2.1 h.2.2, fun h => by rw [h]; exact ⟨rfl, rfl, rfl⟩⟩
def kz : Key := ⟨0, 0, 0, ⟨#[]⟩⟩
def rz : Rec := ⟨kz, 0, c10z⟩
instance : Inhabited Key := ⟨kz⟩
instance : Inhabited Rec := ⟨rz⟩
abbrev keyCells (k : Key) : List Value := [.int .i64 k.ino, .int .i64 k.gen, .int .i64 k.at_, .string k.rule]
abbrev recCells (r : Rec) : List Value := keyCells r.key ++ .int .i64 r.kind :: r.caps.1.map iv
abbrev keyVal (k : Key) : Value := .agg (keyCells k).toArray
abbrev recVal (r : Rec) : Value := .agg (recCells r).toArray
theorem recCells_len (r : Rec) : (recCells r).length = 15 := by
  have := r.caps.2
  simp [this]
theorem recCells_one : ∀ x, ∀ u ∈ recCells x, u.oneCell' = true := by
  intro x u hu
  simp only [List.mem_append, List.mem_cons, List.not_mem_nil, or_false, List.mem_map] at hu
  rcases hu with (rfl | rfl | rfl | rfl) | rfl | ⟨c, _, rfl⟩ <;> rfl
theorem ten {l : List Int} (h : l.length = 10) : ∃ c0 c1 c2 c3 c4 c5 c6 c7 c8 c9, l = [c0, c1, c2, c3, c4, c5, c6, c7, c8, c9] := by
  match l, h with
  | [c0, c1, c2, c3, c4, c5, c6, c7, c8, c9], _ => exact ⟨c0, c1, c2, c3, c4, c5, c6, c7, c8, c9, rfl⟩
/-- Numbers of a record that are numbers of the machine. -/
structure Rec64 (r : Rec) : Prop where
  ino : I64 r.key.ino
  gen : I64 r.key.gen
  at_ : I64 r.key.at_
  kind : I64 r.kind
  caps : ∀ c ∈ r.caps.1, I64 c
/-- A byte of a rule's name. -/
def ruleCh (c : UInt8) : Bool := decide ((97 ≤ c.toNat ∧ c.toNat ≤ 122) ∨ (65 ≤ c.toNat ∧ c.toNat ≤ 90) ∨ (48 ≤ c.toNat ∧ c.toNat ≤ 57) ∨ c.toNat = 45 ∨ c.toNat = 95 ∨ c.toNat = 46)
def ruleOk (s : ByteArray) : Bool := decide (1 ≤ s.size ∧ s.size ≤ 32 ∧ ∀ j (h : j < s.size), ruleCh s[j] = true)
def capOk (c : Int) : Bool := decide (-1 ≤ c ∧ c ≤ 500)
def recOk (r : Rec) : Bool :=
  decide (1 ≤ r.key.ino ∧ r.key.ino ≤ 12 ∧ 1 ≤ r.key.gen ∧ r.key.gen ≤ 1099511627776 ∧ 0 ≤ r.key.at_ ∧ r.key.at_ ≤ 1099511627776) &&
  (if r.kind = 2 then decide (r.key.rule = ⟨#[]⟩ ∧ r.caps = c10z) else if r.kind = 1 then r.caps.1.all capOk && ruleOk r.key.rule else false)
/-- A record as bytes. -/
def encCaps (l : List Int) : List UInt8 := l.flatMap fun c => encNum (c + 1).toNat
def encRec (r : Rec) : List UInt8 := encNum r.key.ino.toNat ++ encNum r.key.gen.toNat ++ encNum r.key.at_.toNat ++ encText r.key.rule ++ encNum r.kind.toNat ++ encCaps r.caps.1
/-- Ten numbers, each less one. -/
def rdCaps (B : List UInt8) : Nat → RSt → List Int × RSt
  | 0, s => ([], s)
  | n + 1, s => ((rdCaps B n s).1 ++ [((rdNum B (rdCaps B n s).2).1 : Int) - 1], (rdNum B (rdCaps B n s).2).2)
theorem rdCaps_len (B : List UInt8) : ∀ n s, (rdCaps B n s).1.length = n
  | 0, s => rfl
  | n + 1, s => by
    have := rdCaps_len B n s
    simp [rdCaps, this]
def rdA (B : List UInt8) : Nat × RSt := rdNum B (0, 0)
def rdB (B : List UInt8) : Nat × RSt := rdNum B (rdA B).2
def rdC (B : List UInt8) : Nat × RSt := rdNum B (rdB B).2
def rdT (B : List UInt8) : List UInt8 × RSt := rdText B 32 (rdC B).2
def rdK (B : List UInt8) : Nat × RSt := rdNum B (rdT B).2
def rdX (B : List UInt8) : List Int × RSt := rdCaps B 10 (rdK B).2
theorem rdX_len (B : List UInt8) : (rdX B).1.length = 10 := rdCaps_len B 10 _
/-- What is read of bytes, whatever they are. -/
def rawRec (B : List UInt8) : Rec := ⟨⟨(rdA B).1, (rdB B).1, (rdC B).1, strOf (rdT B).1⟩, (rdK B).1, ⟨(rdX B).1, rdX_len B⟩⟩
def getRec (B : List UInt8) : Rec × Bool := if (rdEnd B (rdX B).2).2 = 0 ∧ recOk (rawRec B) = true then (rawRec B, true) else (rz, false)
/-- A reader that is right, and stands ahead of r. -/
structure Ahead (B : List UInt8) (s : RSt) (r : List UInt8) : Prop where
  er : s.2 = 0
  le : s.1 ≤ B.length
  eq : B.drop s.1 = r
theorem Ahead.zero (B : List UInt8) : Ahead B (0, 0) B := ⟨rfl, Nat.zero_le _, rfl⟩
theorem Ahead.step {B : List UInt8} {s : RSt} {a r : List UInt8} (h : Ahead B s (a ++ r)) : Ahead B (s.1 + a.length, 0) r := by
  have hl : (B.drop s.1).length = a.length + r.length := by rw [h.eq, List.length_append]
  rw [List.length_drop] at hl
  have := h.le
  refine ⟨rfl, by show s.1 + a.length ≤ _; omega, ?_⟩
  show B.drop (s.1 + a.length) = r
  rw [← List.drop_drop, h.eq, List.drop_left]
theorem rdNum_at {B : List UInt8} {s : RSt} {n : Nat} {r : List UInt8} (h : Ahead B s (encNum n ++ r)) (hn : n < 9223372036854775808) : ∃ s', rdNum B s = (n, s') ∧ Ahead B s' r := by
  refine ⟨(s.1 + (encNum n).length, 0), ?_, h.step⟩
  unfold rdNum
  rw [h.er, h.eq, numAt_enc n hn r, encNum_len]
  simp
theorem rdText_at {B : List UInt8} {s : RSt} {t r : List UInt8} {most : Int} (h : Ahead B s (encNum t.length ++ (t ++ r))) (hn : t.length < 9223372036854775808) (hm : (t.length : Int) ≤ most) : ∃ s', rdText B most s = (t, s') ∧ Ahead B s' r := by
  obtain ⟨s1, h1, h2⟩ := rdNum_at h hn
  have hu : rdUpto B most s = (t.length, s1) := by
    unfold rdUpto
    rw [h1, if_neg]
    rintro ⟨_, q⟩
    dsimp only at q; omega
  have hl : (B.drop s1.1).length = t.length + r.length := by rw [h2.eq, List.length_append]
  rw [List.length_drop] at hl
  refine ⟨(s1.1 + t.length, 0), ?_, h2.step⟩
  unfold rdText
  rw [hu]
  dsimp only
  rw [if_neg (by rw [h2.er]; simp), if_neg (by omega), h2.eq, List.take_left]
theorem encCaps_cons (c : Int) (l : List Int) : encCaps (c :: l) = encNum (c + 1).toNat ++ encCaps l := rfl
theorem encCaps_app (l m : List Int) : encCaps (l ++ m) = encCaps l ++ encCaps m := by unfold encCaps; rw [List.flatMap_append]
theorem rdCaps_at {B : List UInt8} {l : List Int} {s : RSt} {r : List UInt8} (hc : ∀ c ∈ l, -1 ≤ c ∧ c < 9223372036854775807) (h : Ahead B s (encCaps l ++ r)) : ∀ n, n ≤ l.length → ∃ s', rdCaps B n s = (l.take n, s') ∧ Ahead B s' (encCaps (l.drop n) ++ r)
  | 0, _ => ⟨s, by simp [rdCaps], by simpa using h⟩
  | n + 1, hn => by
    obtain ⟨s1, h1, h2⟩ := rdCaps_at hc h n (by omega)
    have hd : l.drop n = l[n] :: l.drop (n + 1) := (List.drop_eq_getElem_cons (by omega))
    rw [hd, encCaps_cons, List.append_assoc] at h2
    have hcc := hc l[n] (List.getElem_mem _)
    obtain ⟨s2, h3, h4⟩ := rdNum_at h2 (by omega)
    refine ⟨s2, ?_, h4⟩
    show ((rdCaps B n s).1 ++ [((rdNum B (rdCaps B n s).2).1 : Int) - 1], (rdNum B (rdCaps B n s).2).2) = _
    rw [h1]
    dsimp only
    rw [h3]
    dsimp only
    rw [show (((l[n] + 1).toNat : Nat) : Int) - 1 = l[n] by omega, List.take_succ_eq_append_getElem (by omega)]
theorem rdEnd_at {B : List UInt8} {s : RSt} (h : Ahead B s []) : (rdEnd B s).2 = 0 := by
  have h1 := h.le
  have h2 : (B.drop s.1).length = 0 := by rw [h.eq]; rfl
  rw [List.length_drop] at h2
  unfold rdEnd
  rw [if_neg (by omega)]
  exact h.er
/-- Numbers that a right record has. -/
structure RecIn (r : Rec) : Prop where
  ino : 1 ≤ r.key.ino ∧ r.key.ino ≤ 12
  gen : 1 ≤ r.key.gen ∧ r.key.gen ≤ 1099511627776
  at_ : 0 ≤ r.key.at_ ∧ r.key.at_ ≤ 1099511627776
  kind : r.kind = 1 ∨ r.kind = 2
  caps : ∀ c ∈ r.caps.1, -1 ≤ c ∧ c ≤ 500
  rule : r.key.rule.size ≤ 32
theorem recOk_in {r : Rec} (h : recOk r = true) : RecIn r := by
  unfold recOk at h
  rw [Bool.and_eq_true, decide_eq_true_eq] at h
  obtain ⟨⟨h1, h2, h3, h4, h5, h6⟩, h7⟩ := h
  split at h7
  · rename_i hk
    obtain ⟨e1, e2⟩ := of_decide_eq_true h7
    refine ⟨⟨h1, h2⟩, ⟨h3, h4⟩, ⟨h5, h6⟩, .inr hk, fun c hc => ?_, by rw [e1]; decide⟩
    rw [e2] at hc
    simp [c10z] at hc
    omega
  · split at h7
    · rename_i hk
      rw [Bool.and_eq_true] at h7
      obtain ⟨e1, e2⟩ := h7
      refine ⟨⟨h1, h2⟩, ⟨h3, h4⟩, ⟨h5, h6⟩, .inl hk, fun c hc => ?_, ?_⟩
      · exact of_decide_eq_true (List.all_eq_true.1 e1 c hc)
      · exact (of_decide_eq_true e2).2.1
    · exact absurd h7 (by simp)
theorem strOf_toList (s : ByteArray) : strOf s.data.toList = s := by
  unfold strOf; rfl
theorem size_toList (s : ByteArray) : s.data.toList.length = s.size := by rw [Array.length_toList]; rfl
/-- What is written of a record is read. -/
theorem get_enc {r : Rec} (h : recOk r = true) : getRec (encRec r) = (r, true) := by
  have hi := recOk_in h
  have h0 : Ahead (encRec r) (0, 0) (encNum r.key.ino.toNat ++ (encNum r.key.gen.toNat ++ (encNum r.key.at_.toNat ++ (encNum r.key.rule.data.toList.length ++ (r.key.rule.data.toList ++ (encNum r.kind.toNat ++ (encCaps r.caps.1 ++ []))))))) := by
    have := Ahead.zero (encRec r)
    unfold encRec encText at this ⊢
    simpa only [List.append_assoc, List.append_nil, size_toList] using this
  have i1 := hi.ino
  have i2 := hi.gen
  have i3 := hi.at_
  have i4 := hi.rule
  have i5 := hi.kind
  have i6 := size_toList r.key.rule
  obtain ⟨s1, a1, h1⟩ := rdNum_at h0 (by omega)
  obtain ⟨s2, a2, h2⟩ := rdNum_at h1 (by omega)
  obtain ⟨s3, a3, h3⟩ := rdNum_at h2 (by omega)
  obtain ⟨s4, a4, h4⟩ := rdText_at (most := 32) h3 (by omega) (by omega)
  obtain ⟨s5, a5, h5⟩ := rdNum_at h4 (by omega)
  obtain ⟨s6, a6, h6⟩ := rdCaps_at (fun c hc => by have := hi.caps c hc; omega) h5 10 (by rw [r.caps.2]; omega)
  rw [List.take_of_length_le (by rw [r.caps.2]; omega)] at a6
  rw [List.drop_of_length_le (by rw [r.caps.2]; omega)] at h6
  have e1 : rdA (encRec r) = (r.key.ino.toNat, s1) := a1
  have e2 : rdB (encRec r) = (r.key.gen.toNat, s2) := by unfold rdB; rw [e1]; exact a2
  have e3 : rdC (encRec r) = (r.key.at_.toNat, s3) := by unfold rdC; rw [e2]; exact a3
  have e4 : rdT (encRec r) = (r.key.rule.data.toList, s4) := by unfold rdT; rw [e3]; exact a4
  have e5 : rdK (encRec r) = (r.kind.toNat, s5) := by unfold rdK; rw [e4]; exact a5
  have e6 : rdX (encRec r) = (r.caps.1, s6) := by unfold rdX; rw [e5]; exact a6
  have er : rawRec (encRec r) = r := by
    refine Rec.ext' (Key.ext' ?_ ?_ ?_ ?_) ?_ (Subtype.ext ?_)
    · show ((rdA (encRec r)).1 : Int) = _; rw [e1]; show ((r.key.ino.toNat : Nat) : Int) = _; omega
    · show ((rdB (encRec r)).1 : Int) = _; rw [e2]; show ((r.key.gen.toNat : Nat) : Int) = _; omega
    · show ((rdC (encRec r)).1 : Int) = _; rw [e3]; show ((r.key.at_.toNat : Nat) : Int) = _; omega
    · show strOf (rdT (encRec r)).1 = _; rw [e4]; exact strOf_toList _
    · show ((rdK (encRec r)).1 : Int) = _; rw [e5]; show ((r.kind.toNat : Nat) : Int) = _; omega
    · show (rdX (encRec r)).1 = _; rw [e6]
  unfold getRec
  rw [er, e6, if_pos ⟨rdEnd_at (by simpa [encCaps] using h6), h⟩]
/-- What was read without an error. -/
theorem rdNum_of {B : List UInt8} {s : RSt} (h : (rdNum B s).2.2 = 0) (hs : s.1 ≤ B.length) : s.2 = 0 ∧ (rdNum B s).2.1 ≤ B.length ∧ B.drop s.1 = encNum (rdNum B s).1 ++ B.drop (rdNum B s).2.1 := by
  have hz : s.2 = 0 := by
    rcases Nat.eq_zero_or_pos s.2 with q | q
    · exact q
    · unfold rdNum at h
      rw [if_pos (by omega)] at h
      exact h
  have hn : (numAt (B.drop s.1)).2.2 = 0 := by
    rcases Nat.eq_zero_or_pos (numAt (B.drop s.1)).2.2 with q | q
    · exact q
    · unfold rdNum at h
      rw [if_neg (by omega), if_pos (by omega)] at h
      exact h
  have he : rdNum B s = ((numAt (B.drop s.1)).1, s.1 + (numAt (B.drop s.1)).2.1, 0) := by
    unfold rdNum
    rw [if_neg (by omega), if_neg (by omega)]
  have hu := numAt_used _ hn
  rw [List.length_drop] at hu
  rw [he]
  refine ⟨hz, by dsimp only; omega, ?_⟩
  dsimp only
  rw [enc_of_numAt _ hn, ← List.drop_drop, List.take_append_drop]
theorem rdText_of {B : List UInt8} {m : Int} {s : RSt} (h : (rdText B m s).2.2 = 0) (hs : s.1 ≤ B.length) : s.2 = 0 ∧ (rdText B m s).2.1 ≤ B.length ∧ B.drop s.1 = encNum (rdText B m s).1.length ++ ((rdText B m s).1 ++ B.drop (rdText B m s).2.1) := by
  have hu : (rdUpto B m s).2.2 = 0 := by
    rcases Nat.eq_zero_or_pos (rdUpto B m s).2.2 with q | q
    · exact q
    · unfold rdText at h
      rw [if_pos (by omega)] at h
      exact h
  have he : rdUpto B m s = rdNum B s := by
    unfold rdUpto at hu ⊢
    split at hu
    · exact absurd hu (by simp)
    · rename_i hc; rw [if_neg hc]
  have hl : ¬ B.length - (rdUpto B m s).2.1 < (rdUpto B m s).1 := fun q => by
    unfold rdText at h
    rw [if_neg (by omega), if_pos q] at h
    exact absurd h (by simp)
  have hq : rdText B m s = ((B.drop (rdUpto B m s).2.1).take (rdUpto B m s).1, (rdUpto B m s).2.1 + (rdUpto B m s).1, 0) := by
    unfold rdText
    rw [if_neg (by omega), if_neg hl]
  rw [he] at hq hl hu
  obtain ⟨h1, h2, h3⟩ := rdNum_of hu hs
  rw [hq]
  refine ⟨h1, by dsimp only; omega, ?_⟩
  dsimp only
  have hlen : ((B.drop (rdNum B s).2.1).take (rdNum B s).1).length = (rdNum B s).1 := by rw [List.length_take, List.length_drop]; omega
  rw [hlen, ← List.drop_drop, List.take_append_drop]
  exact h3
theorem rdCaps_of {B : List UInt8} : ∀ (n : Nat) {s : RSt}, (rdCaps B n s).2.2 = 0 → s.1 ≤ B.length → s.2 = 0 ∧ (rdCaps B n s).2.1 ≤ B.length ∧ B.drop s.1 = encCaps (rdCaps B n s).1 ++ B.drop (rdCaps B n s).2.1
  | 0, s, h, hs => ⟨h, hs, by simp [rdCaps, encCaps]⟩
  | n + 1, s, h, hs => by
    have hm : (rdCaps B n s).2.1 ≤ B.length ∨ B.length < (rdCaps B n s).2.1 := by omega
    have h' : (rdNum B (rdCaps B n s).2).2.2 = 0 := h
    have hz : (rdCaps B n s).2.2 = 0 := by
      rcases Nat.eq_zero_or_pos (rdCaps B n s).2.2 with q | q
      · exact q
      · unfold rdNum at h'
        rw [if_pos (by omega)] at h'
        exact h'
    obtain ⟨h1, h2, h3⟩ := rdCaps_of n hz hs
    obtain ⟨k1, k2, k3⟩ := rdNum_of h' h2
    refine ⟨h1, k2, ?_⟩
    show B.drop s.1 = encCaps ((rdCaps B n s).1 ++ [((rdNum B (rdCaps B n s).2).1 : Int) - 1]) ++ B.drop (rdNum B (rdCaps B n s).2).2.1
    rw [h3, k3, encCaps_app, encCaps_cons, List.append_assoc, List.append_assoc]
    rw [show ((((rdNum B (rdCaps B n s).2).1 : Int) - 1 + 1).toNat) = (rdNum B (rdCaps B n s).2).1 by omega]
    simp [encCaps]
theorem rdEnd_of {B : List UInt8} {s : RSt} (h : (rdEnd B s).2 = 0) (hs : s.1 ≤ B.length) : s.2 = 0 ∧ B.drop s.1 = [] := by
  unfold rdEnd at h
  split at h
  · exact absurd h (by simp)
  · rename_i hc
    exact ⟨h, List.drop_of_length_le (by omega)⟩
theorem rdText_le' (B : List UInt8) (m : Int) (s : RSt) (h : s.1 ≤ B.length) (h2 : s.2 ≤ 5) : (rdText B m s).2.1 ≤ B.length ∧ (rdText B m s).2.2 ≤ 5 := by
  have := rdUpto_le B m s h h2
  unfold rdText
  split
  · exact ⟨this.2.2.1, this.2.2.2.1⟩
  · split
    · exact ⟨h, by show 3 ≤ 5; omega⟩
    · exact ⟨by dsimp only; omega, by show 0 ≤ 5; omega⟩
theorem rdCaps_le (B : List UInt8) : ∀ (n : Nat) (s : RSt), s.1 ≤ B.length → s.2 ≤ 5 → (rdCaps B n s).2.1 ≤ B.length ∧ (rdCaps B n s).2.2 ≤ 5
  | 0, s, h, h2 => ⟨h, h2⟩
  | n + 1, s, h, h2 => by
    obtain ⟨k1, k2⟩ := rdCaps_le B n s h h2
    have := rdNum_le B (rdCaps B n s).2 k1 k2
    exact ⟨this.2.2.1, this.2.2.2.1⟩
/-- Where the readings stand. -/
theorem rdAll_le (B : List UInt8) : (rdA B).2.1 ≤ B.length ∧ (rdB B).2.1 ≤ B.length ∧ (rdC B).2.1 ≤ B.length ∧ (rdT B).2.1 ≤ B.length ∧ (rdK B).2.1 ≤ B.length ∧ (rdX B).2.1 ≤ B.length := by
  have a0 := rdNum_le B (0, 0) (Nat.zero_le _) (by show 0 ≤ 5; omega)
  have a : (rdA B).2.1 ≤ B.length ∧ (rdA B).2.2 ≤ 5 := by unfold rdA; exact ⟨a0.2.2.1, a0.2.2.2.1⟩
  have b0 := rdNum_le B (rdA B).2 a.1 a.2
  have b : (rdB B).2.1 ≤ B.length ∧ (rdB B).2.2 ≤ 5 := by unfold rdB; exact ⟨b0.2.2.1, b0.2.2.2.1⟩
  have c0 := rdNum_le B (rdB B).2 b.1 b.2
  have c : (rdC B).2.1 ≤ B.length ∧ (rdC B).2.2 ≤ 5 := by unfold rdC; exact ⟨c0.2.2.1, c0.2.2.2.1⟩
  have t0 := rdText_le' B 32 (rdC B).2 c.1 c.2
  have t : (rdT B).2.1 ≤ B.length ∧ (rdT B).2.2 ≤ 5 := by unfold rdT; exact t0
  have k0 := rdNum_le B (rdT B).2 t.1 t.2
  have k : (rdK B).2.1 ≤ B.length ∧ (rdK B).2.2 ≤ 5 := by unfold rdK; exact ⟨k0.2.2.1, k0.2.2.2.1⟩
  have x0 := rdCaps_le B 10 (rdK B).2 k.1 k.2
  have x : (rdX B).2.1 ≤ B.length := by unfold rdX; exact x0.1
  exact ⟨a.1, b.1, c.1, t.1, k.1, x⟩
/-- Bytes that are read as a record are those that write it. -/
theorem enc_get {B : List UInt8} (h : (getRec B).2 = true) : recOk (getRec B).1 = true ∧ encRec (getRec B).1 = B := by
  unfold getRec at h ⊢
  split at h
  · rename_i hc
    obtain ⟨he, hok⟩ := hc
    rw [if_pos ⟨he, hok⟩]
    refine ⟨hok, ?_⟩
    obtain ⟨l1, l2, l3, l4, l5, l6⟩ := rdAll_le B
    obtain ⟨z6, q7⟩ := rdEnd_of he l6
    have z6' : (rdCaps B 10 (rdK B).2).2.2 = 0 := by unfold rdX at z6; exact z6
    obtain ⟨z5, -, q6⟩ := rdCaps_of (B := B) 10 (s := (rdK B).2) z6' l5
    have p6 : B.drop (rdK B).2.1 = encCaps (rdX B).1 ++ B.drop (rdX B).2.1 := by unfold rdX; exact q6
    have z5' : (rdNum B (rdT B).2).2.2 = 0 := by unfold rdK at z5; exact z5
    obtain ⟨z4, -, q5⟩ := rdNum_of (B := B) (s := (rdT B).2) z5' l4
    have p5 : B.drop (rdT B).2.1 = encNum (rdK B).1 ++ B.drop (rdK B).2.1 := by unfold rdK; exact q5
    have z4' : (rdText B 32 (rdC B).2).2.2 = 0 := by unfold rdT at z4; exact z4
    obtain ⟨z3, -, q4⟩ := rdText_of (B := B) (m := 32) (s := (rdC B).2) z4' l3
    have p4 : B.drop (rdC B).2.1 = encNum (rdT B).1.length ++ ((rdT B).1 ++ B.drop (rdT B).2.1) := by unfold rdT; exact q4
    have z3' : (rdNum B (rdB B).2).2.2 = 0 := by unfold rdC at z3; exact z3
    obtain ⟨z2, -, q3⟩ := rdNum_of (B := B) (s := (rdB B).2) z3' l2
    have p3 : B.drop (rdB B).2.1 = encNum (rdC B).1 ++ B.drop (rdC B).2.1 := by unfold rdC; exact q3
    have z2' : (rdNum B (rdA B).2).2.2 = 0 := by unfold rdB at z2; exact z2
    obtain ⟨z1, -, q2⟩ := rdNum_of (B := B) (s := (rdA B).2) z2' l1
    have p2 : B.drop (rdA B).2.1 = encNum (rdB B).1 ++ B.drop (rdB B).2.1 := by unfold rdB; exact q2
    have z1' : (rdNum B (0, 0)).2.2 = 0 := by unfold rdA at z1; exact z1
    obtain ⟨-, -, q1⟩ := rdNum_of (B := B) (s := (0, 0)) z1' (Nat.zero_le _)
    have p1 : B = encNum (rdA B).1 ++ B.drop (rdA B).2.1 := by unfold rdA; exact q1
    have e : B = encNum (rdA B).1 ++ (encNum (rdB B).1 ++ (encNum (rdC B).1 ++ (encNum (rdT B).1.length ++ ((rdT B).1 ++ (encNum (rdK B).1 ++ (encCaps (rdX B).1 ++ [])))))) := by
      rw [← q7, ← p6, ← p5, ← p4, ← p3, ← p2, ← p1]
    conv => rhs; rw [e]
    unfold encRec encText rawRec
    dsimp only
    have ht : (strOf (rdT B).1).size = (rdT B).1.length := by show ((rdT B).1.toArray).size = _; simp
    have ht2 : (strOf (rdT B).1).data.toList = (rdT B).1 := by simp [strOf]
    rw [ht, ht2]
    simp only [Int.toNat_natCast, List.append_assoc, List.append_nil]
  · exact absurd h (by simp)
theorem encRec_len {r : Rec} (h : recOk r = true) : (encRec r).length ≤ 200 ∧ 0 < (encRec r).length := by
  have hi := recOk_in h
  have hb : ∀ n : Nat, n < 18446744073709551616 → (encNum n).length ≤ 9 ∧ 0 < (encNum n).length := fun n hn => by
    have := nb_le8 n hn; rw [encNum_len]; omega
  have hc : ∀ l : List Int, (∀ c ∈ l, c ≤ 500) → (encCaps l).length ≤ 9 * l.length := by
    intro l
    induction l with
    | nil => intro _; simp [encCaps]
    | cons c l ih =>
      intro hl
      have h1 := ih (fun x hx => hl x (by simp [hx]))
      have h2 := hl c (by simp)
      have h3 := hb (c + 1).toNat (by omega)
      rw [encCaps_cons, List.length_append, List.length_cons]; omega
  have i1 := hi.ino
  have i2 := hi.gen
  have i3 := hi.at_
  have i4 := hi.rule
  have i5 := hi.kind
  have i6 := size_toList r.key.rule
  have b1 := hb r.key.ino.toNat (by omega)
  have b2 := hb r.key.gen.toNat (by omega)
  have b3 := hb r.key.at_.toNat (by omega)
  have b4 := hb r.key.rule.size (by omega)
  have b5 := hb r.kind.toNat (by omega)
  have b6 := hc r.caps.1 (fun c hc => (hi.caps c hc).2)
  rw [r.caps.2] at b6
  unfold encRec encText
  simp only [List.length_append, i6]
  omega
end Go.Proofs.YtmhojaiajhdlcaaGreat
namespace Go.Proofs.YtmhojaiajhdlcaaGreat
open Go.RowKit
set_option linter.unusedSimpArgs false
set_option linter.unusedVariables false
set_option maxRecDepth 20000 in
set_option maxHeartbeats 2000000 in
theorem ledNamed_any (w : World) (s : ByteArray) :
    Calls Tryz.prog 57 #[sv s] w fun e w' => e = .returned (.bool (ruleOk s)) ∧ w = w' := by
  by_cases h1 : s.size < 1
  · have HN : Hid (ruleOk s = false) := by unfold Hid ruleOk; simp; omega
    obtain rfl : s = ⟨#[]⟩ := str_inj _ _ (by rw [strList_eq, strList_eq]; exact List.eq_nil_of_length_eq_zero (by rw [Array.length_toList]; show s.size = 0; omega))
    go_enter Tryz.func57, Tryz.ntmps57
    go_wp2_with fail
    go_ret
    exact ⟨by rw [HN.out]; rfl, rfl⟩
  · have q : (s.toList == ([] : List UInt8)) = false := by
      rw [beq_eq_false_iff_ne, strList_eq]
      intro q
      have := congrArg List.length q
      rw [Array.length_toList] at this
      have : s.size = 0 := this
      omega
    by_cases h2 : s.size ≤ 32
    · have q' : ¬ (32 : Int) < s.size := by omega
      go_enter Tryz.func57, Tryz.ntmps57
      go_wp2_with fail
      go_loopw [15] (fun i wr => ∃ k : Nat, k ≤ s.size ∧ i = .int .i64 k ∧ w = wr ∧ Hid (∀ j (h : j < s.size), j < k → ruleCh s[j] = true)) (fun i _ => s.size - (intOf i).toNat)
      case atStart => exact ⟨0, Nat.zero_le _, rfl, rfl, fun j _ h => absurd h (by omega)⟩
      case round =>
        obtain ⟨k, hk, rfl, rfl, hh⟩ := hrel
        by_cases hlt : k < s.size
        · have q0 : (0 : Int) ≤ k := by omega
          have q1 : (k : Int) < s.size := by omega
          have HT : Hid (ruleCh s[k] = true → ∀ j (h : j < s.size), j < k + 1 → ruleCh s[j] = true) := fun hb j hj hjk => by
            rcases Nat.lt_or_eq_of_le (Nat.le_of_lt_succ hjk) with h | h
            · exact hh.out j hj h
            · subst h; exact hb
          have HF : Hid (ruleCh s[k] = false → ruleOk s = false) := fun hb => by
            unfold ruleOk
            exact decide_eq_false (fun h => by have := h.2.2 k hlt; rw [hb] at this; exact absurd this (by simp))
          obtain ⟨d, hd⟩ : ∃ d : Int, ((s[k]).toNat : Int) = d := ⟨_, rfl⟩
          have HC : Hid (ruleCh s[k] = decide ((97 ≤ d ∧ d ≤ 122) ∨ (65 ≤ d ∧ d ≤ 90) ∨ (48 ≤ d ∧ d ≤ 57) ∨ d = 45 ∨ d = 95 ∨ d = 46)) := by
            unfold Hid ruleCh
            rw [← hd]
            exact decide_eq_decide.2 (by omega)
          have hd0 : 0 ≤ d := by omega
          rcases (show (97 ≤ d ∧ d ≤ 122) ∨ (122 < d) ∨ (65 ≤ d ∧ d ≤ 90) ∨ (d = 95) ∨ ((90 < d ∧ d < 97) ∧ d ≠ 95) ∨ (48 ≤ d ∧ d ≤ 57) ∨ (57 < d ∧ d < 65) ∨ (d = 45) ∨ (d = 46) ∨ (d < 48 ∧ d ≠ 45 ∧ d ≠ 46) by omega) with hc | hc | hc | hc | hc | hc | hc | hc | hc | hc
          · have f0 : (97 : Int) ≤ d := by omega
            have f1 : (65 : Int) ≤ d := by omega
            have f2 : (48 : Int) ≤ d := by omega
            have f3 : d ≤ (122 : Int) := by omega
            have f4 : ¬ d ≤ (90 : Int) := by omega
            have f5 : ¬ d ≤ (57 : Int) := by omega
            have f6 : (d == (45 : Int)) = false := by rw [beq_eq_false_iff_ne]; omega
            have f7 : (d == (95 : Int)) = false := by rw [beq_eq_false_iff_ne]; omega
            have f8 : (d == (46 : Int)) = false := by rw [beq_eq_false_iff_ne]; omega
            have HO := Lib.hid (HT.out (by rw [HC.out]; exact decide_eq_true (by omega)))
            clear hc HT HF hh
            go_wp2_with fail
            go_roundw
            case rel => exact ⟨k + 1, by omega, by go_num, by first | trivial | rfl, HO⟩
            case measure => simp [intOf]; omega
          · have f0 : (97 : Int) ≤ d := by omega
            have f1 : (65 : Int) ≤ d := by omega
            have f2 : (48 : Int) ≤ d := by omega
            have f3 : ¬ d ≤ (122 : Int) := by omega
            have f4 : ¬ d ≤ (90 : Int) := by omega
            have f5 : ¬ d ≤ (57 : Int) := by omega
            have f6 : (d == (45 : Int)) = false := by rw [beq_eq_false_iff_ne]; omega
            have f7 : (d == (95 : Int)) = false := by rw [beq_eq_false_iff_ne]; omega
            have f8 : (d == (46 : Int)) = false := by rw [beq_eq_false_iff_ne]; omega
            have HO := Lib.hid (HF.out (by rw [HC.out]; exact decide_eq_false (by omega)))
            clear hc HT HF hh
            go_wp2_with fail
            go_ret
            exact ⟨by rw [HO.out]; rfl, rfl⟩
          · have f0 : ¬ (97 : Int) ≤ d := by omega
            have f1 : (65 : Int) ≤ d := by omega
            have f2 : (48 : Int) ≤ d := by omega
            have f3 : d ≤ (122 : Int) := by omega
            have f4 : d ≤ (90 : Int) := by omega
            have f5 : ¬ d ≤ (57 : Int) := by omega
            have f6 : (d == (45 : Int)) = false := by rw [beq_eq_false_iff_ne]; omega
            have f7 : (d == (95 : Int)) = false := by rw [beq_eq_false_iff_ne]; omega
            have f8 : (d == (46 : Int)) = false := by rw [beq_eq_false_iff_ne]; omega
            have HO := Lib.hid (HT.out (by rw [HC.out]; exact decide_eq_true (by omega)))
            clear hc HT HF hh
            go_wp2_with fail
            go_roundw
            case rel => exact ⟨k + 1, by omega, by go_num, by first | trivial | rfl, HO⟩
            case measure => simp [intOf]; omega
          · have f0 : ¬ (97 : Int) ≤ d := by omega
            have f1 : (65 : Int) ≤ d := by omega
            have f2 : (48 : Int) ≤ d := by omega
            have f3 : d ≤ (122 : Int) := by omega
            have f4 : ¬ d ≤ (90 : Int) := by omega
            have f5 : ¬ d ≤ (57 : Int) := by omega
            have f6 : (d == (45 : Int)) = false := by rw [beq_eq_false_iff_ne]; omega
            have f7 : (d == (95 : Int)) = true := by rw [beq_iff_eq]; omega
            have f8 : (d == (46 : Int)) = false := by rw [beq_eq_false_iff_ne]; omega
            have HO := Lib.hid (HT.out (by rw [HC.out]; exact decide_eq_true (by omega)))
            clear hc HT HF hh
            go_wp2_with fail
            go_roundw
            case rel => exact ⟨k + 1, by omega, by go_num, by first | trivial | rfl, HO⟩
            case measure => simp [intOf]; omega
          · have f0 : ¬ (97 : Int) ≤ d := by omega
            have f1 : (65 : Int) ≤ d := by omega
            have f2 : (48 : Int) ≤ d := by omega
            have f3 : d ≤ (122 : Int) := by omega
            have f4 : ¬ d ≤ (90 : Int) := by omega
            have f5 : ¬ d ≤ (57 : Int) := by omega
            have f6 : (d == (45 : Int)) = false := by rw [beq_eq_false_iff_ne]; omega
            have f7 : (d == (95 : Int)) = false := by rw [beq_eq_false_iff_ne]; omega
            have f8 : (d == (46 : Int)) = false := by rw [beq_eq_false_iff_ne]; omega
            have HO := Lib.hid (HF.out (by rw [HC.out]; exact decide_eq_false (by omega)))
            clear hc HT HF hh
            go_wp2_with fail
            go_ret
            exact ⟨by rw [HO.out]; rfl, rfl⟩
          · have f0 : ¬ (97 : Int) ≤ d := by omega
            have f1 : ¬ (65 : Int) ≤ d := by omega
            have f2 : (48 : Int) ≤ d := by omega
            have f3 : d ≤ (122 : Int) := by omega
            have f4 : d ≤ (90 : Int) := by omega
            have f5 : d ≤ (57 : Int) := by omega
            have f6 : (d == (45 : Int)) = false := by rw [beq_eq_false_iff_ne]; omega
            have f7 : (d == (95 : Int)) = false := by rw [beq_eq_false_iff_ne]; omega
            have f8 : (d == (46 : Int)) = false := by rw [beq_eq_false_iff_ne]; omega
            have HO := Lib.hid (HT.out (by rw [HC.out]; exact decide_eq_true (by omega)))
            clear hc HT HF hh
            go_wp2_with fail
            go_roundw
            case rel => exact ⟨k + 1, by omega, by go_num, by first | trivial | rfl, HO⟩
            case measure => simp [intOf]; omega
          · have f0 : ¬ (97 : Int) ≤ d := by omega
            have f1 : ¬ (65 : Int) ≤ d := by omega
            have f2 : (48 : Int) ≤ d := by omega
            have f3 : d ≤ (122 : Int) := by omega
            have f4 : d ≤ (90 : Int) := by omega
            have f5 : ¬ d ≤ (57 : Int) := by omega
            have f6 : (d == (45 : Int)) = false := by rw [beq_eq_false_iff_ne]; omega
            have f7 : (d == (95 : Int)) = false := by rw [beq_eq_false_iff_ne]; omega
            have f8 : (d == (46 : Int)) = false := by rw [beq_eq_false_iff_ne]; omega
            have HO := Lib.hid (HF.out (by rw [HC.out]; exact decide_eq_false (by omega)))
            clear hc HT HF hh
            go_wp2_with fail
            go_ret
            exact ⟨by rw [HO.out]; rfl, rfl⟩
          · have f0 : ¬ (97 : Int) ≤ d := by omega
            have f1 : ¬ (65 : Int) ≤ d := by omega
            have f2 : ¬ (48 : Int) ≤ d := by omega
            have f3 : d ≤ (122 : Int) := by omega
            have f4 : d ≤ (90 : Int) := by omega
            have f5 : d ≤ (57 : Int) := by omega
            have f6 : (d == (45 : Int)) = true := by rw [beq_iff_eq]; omega
            have f7 : (d == (95 : Int)) = false := by rw [beq_eq_false_iff_ne]; omega
            have f8 : (d == (46 : Int)) = false := by rw [beq_eq_false_iff_ne]; omega
            have HO := Lib.hid (HT.out (by rw [HC.out]; exact decide_eq_true (by omega)))
            clear hc HT HF hh
            go_wp2_with fail
            go_roundw
            case rel => exact ⟨k + 1, by omega, by go_num, by first | trivial | rfl, HO⟩
            case measure => simp [intOf]; omega
          · have f0 : ¬ (97 : Int) ≤ d := by omega
            have f1 : ¬ (65 : Int) ≤ d := by omega
            have f2 : ¬ (48 : Int) ≤ d := by omega
            have f3 : d ≤ (122 : Int) := by omega
            have f4 : d ≤ (90 : Int) := by omega
            have f5 : d ≤ (57 : Int) := by omega
            have f6 : (d == (45 : Int)) = false := by rw [beq_eq_false_iff_ne]; omega
            have f7 : (d == (95 : Int)) = false := by rw [beq_eq_false_iff_ne]; omega
            have f8 : (d == (46 : Int)) = true := by rw [beq_iff_eq]; omega
            have HO := Lib.hid (HT.out (by rw [HC.out]; exact decide_eq_true (by omega)))
            clear hc HT HF hh
            go_wp2_with fail
            go_roundw
            case rel => exact ⟨k + 1, by omega, by go_num, by first | trivial | rfl, HO⟩
            case measure => simp [intOf]; omega
          · have f0 : ¬ (97 : Int) ≤ d := by omega
            have f1 : ¬ (65 : Int) ≤ d := by omega
            have f2 : ¬ (48 : Int) ≤ d := by omega
            have f3 : d ≤ (122 : Int) := by omega
            have f4 : d ≤ (90 : Int) := by omega
            have f5 : d ≤ (57 : Int) := by omega
            have f6 : (d == (45 : Int)) = false := by rw [beq_eq_false_iff_ne]; omega
            have f7 : (d == (95 : Int)) = false := by rw [beq_eq_false_iff_ne]; omega
            have f8 : (d == (46 : Int)) = false := by rw [beq_eq_false_iff_ne]; omega
            have HO := Lib.hid (HF.out (by rw [HC.out]; exact decide_eq_false (by omega)))
            clear hc HT HF hh
            go_wp2_with fail
            go_ret
            exact ⟨by rw [HO.out]; rfl, rfl⟩
        · obtain rfl : k = s.size := by omega
          have HN : Hid (ruleOk s = true) := by
            unfold Hid ruleOk
            exact decide_eq_true ⟨by omega, by omega, fun j hj => hh.out j hj hj⟩
          go_wp2_with fail
          go_ret
          exact ⟨by rw [HN.out]; rfl, rfl⟩
    · have HN : Hid (ruleOk s = false) := by unfold Hid ruleOk; exact decide_eq_false (fun h => h2 h.2.1)
      have q' : (32 : Int) < s.size := by omega
      go_enter Tryz.func57, Tryz.ntmps57
      go_wp2_with fail
      go_ret
      exact ⟨by rw [HN.out]; rfl, rfl⟩
end Go.Proofs.YtmhojaiajhdlcaaGreat
namespace Go.Proofs.YtmhojaiajhdlcaaGreat
open Go.RowKit
set_option linter.unusedSimpArgs false
set_option linter.unusedVariables false
abbrev mkRec (ino gen at_ : Int) (rule : ByteArray) (kind c0 c1 c2 c3 c4 c5 c6 c7 c8 c9 : Int) : Rec := ⟨⟨ino, gen, at_, rule⟩, kind, ⟨[c0, c1, c2, c3, c4, c5, c6, c7, c8, c9], rfl⟩⟩
abbrev mkVal (ino gen at_ : Int) (rule : ByteArray) (kind c0 c1 c2 c3 c4 c5 c6 c7 c8 c9 : Int) : Value := .agg #[.int .i64 ino, .int .i64 gen, .int .i64 at_, .string rule, .int .i64 kind, .int .i64 c0, .int .i64 c1, .int .i64 c2, .int .i64 c3, .int .i64 c4, .int .i64 c5, .int .i64 c6, .int .i64 c7, .int .i64 c8, .int .i64 c9]
theorem recVal_mk (ino gen at_ : Int) (rule : ByteArray) (kind c0 c1 c2 c3 c4 c5 c6 c7 c8 c9 : Int) : recVal (mkRec ino gen at_ rule kind c0 c1 c2 c3 c4 c5 c6 c7 c8 c9) = mkVal ino gen at_ rule kind c0 c1 c2 c3 c4 c5 c6 c7 c8 c9 := rfl
theorem rec_mk (r : Rec) : ∃ ino gen at_ rule kind c0 c1 c2 c3 c4 c5 c6 c7 c8 c9, r = mkRec ino gen at_ rule kind c0 c1 c2 c3 c4 c5 c6 c7 c8 c9 := by
  obtain ⟨⟨ino, gen, at_, rule⟩, kind, ⟨caps, hc⟩⟩ := r
  obtain ⟨c0, c1, c2, c3, c4, c5, c6, c7, c8, c9, rfl⟩ := ten hc
  exact ⟨ino, gen, at_, rule, kind, c0, c1, c2, c3, c4, c5, c6, c7, c8, c9, rfl⟩
theorem nth_in {α : Type} [Inhabited α] {l : List α} (k : Nat) (h : k < l.length) : nth l k ∈ l := by rw [nth_get l k h]; exact List.getElem_mem _
/-- Do a record's three numbers fit? -/
abbrev numOk (ino gen at_ : Int) : Bool := decide (1 ≤ ino ∧ ino ≤ 12 ∧ 1 ≤ gen ∧ gen ≤ 1099511627776 ∧ 0 ≤ at_ ∧ at_ ≤ 1099511627776)
theorem infoI : ∃ i, Tryz.prog.info? 3 = some i := by
  have : (Tryz.prog.info? 3).isSome = true := by kernel_rfl
  exact Option.isSome_iff_exists.1 this
theorem cellsI : Tryz.prog.cellsOf 3 = 1 := by kernel_rfl
theorem c10_eq (c0 c1 c2 c3 c4 c5 c6 c7 c8 c9 d0 d1 d2 d3 d4 d5 d6 d7 d8 d9 : Int) : ((⟨[c0, c1, c2, c3, c4, c5, c6, c7, c8, c9], rfl⟩ : C10) = ⟨[d0, d1, d2, d3, d4, d5, d6, d7, d8, d9], rfl⟩) ↔ (c0 = d0 ∧ c1 = d1 ∧ c2 = d2 ∧ c3 = d3 ∧ c4 = d4 ∧ c5 = d5 ∧ c6 = d6 ∧ c7 = d7 ∧ c8 = d8 ∧ c9 = d9) := by
  rw [Subtype.mk.injEq]; simp
set_option maxRecDepth 20000 in
theorem capsEq_run (w : World) (c0 c1 c2 c3 c4 c5 c6 c7 c8 c9 d0 d1 d2 d3 d4 d5 d6 d7 d8 d9 : Int) : (Op.equalIn 10000 25 (.agg #[.int .i64 c0, .int .i64 c1, .int .i64 c2, .int .i64 c3, .int .i64 c4, .int .i64 c5, .int .i64 c6, .int .i64 c7, .int .i64 c8, .int .i64 c9]) (.agg #[.int .i64 d0, .int .i64 d1, .int .i64 d2, .int .i64 d3, .int .i64 d4, .int .i64 d5, .int .i64 d6, .int .i64 d7, .int .i64 d8, .int .i64 d9])).run Tryz.prog w = .ok (decide (c0 = d0 ∧ c1 = d1 ∧ c2 = d2 ∧ c3 = d3 ∧ c4 = d4 ∧ c5 = d5 ∧ c6 = d6 ∧ c7 = d7 ∧ c8 = d8 ∧ c9 = d9)) w := by
  obtain ⟨i, hi⟩ := infoI
  rw [run_equalIn_array w 9999 _ _ Tryz.underlying25 hi, cellsI]
  simp only [Op.eqItems, List.range_succ, List.range_zero, List.nil_append, List.cons_append, part, go_sem]
  simp [Op.eqItems, List.range_succ, part, go_sem]
  repeat' split
  all_goals simp_all
set_option maxRecDepth 20000 in
theorem idx_caps (c0 c1 c2 c3 c4 c5 c6 c7 c8 c9 : Int) (k : Nat) (hk : k < 10) (W : World) : (Instr.index 25 (.agg #[.int .i64 c0, .int .i64 c1, .int .i64 c2, .int .i64 c3, .int .i64 c4, .int .i64 c5, .int .i64 c6, .int .i64 c7, .int .i64 c8, .int .i64 c9]) (.int .i64 (k : Int))).run Tryz.prog W = .ok (.int .i64 (nth [c0, c1, c2, c3, c4, c5, c6, c7, c8, c9] k)) W := by
  rcases (show k = 0 ∨ k = 1 ∨ k = 2 ∨ k = 3 ∨ k = 4 ∨ k = 5 ∨ k = 6 ∨ k = 7 ∨ k = 8 ∨ k = 9 by omega) with rfl | rfl | rfl | rfl | rfl | rfl | rfl | rfl | rfl | rfl <;> kernel_rfl
set_option maxRecDepth 20000 in
set_option maxHeartbeats 4000000 in
theorem ledRight_c (w : World) (ino gen at_ : Int) (rule : ByteArray) (kind c0 c1 c2 c3 c4 c5 c6 c7 c8 c9 : Int) :
    Calls Tryz.prog 12 #[mkVal ino gen at_ rule kind c0 c1 c2 c3 c4 c5 c6 c7 c8 c9] w fun e w' => e = .returned (.bool (recOk (mkRec ino gen at_ rule kind c0 c1 c2 c3 c4 c5 c6 c7 c8 c9))) ∧ Upd [] w w' := by
  have HU : Hid (Upd [] w (w.alloc (.cells #[.int .i64 ino, .int .i64 gen, .int .i64 at_, .string rule, .int .i64 kind, .int .i64 c0, .int .i64 c1, .int .i64 c2, .int .i64 c3, .int .i64 c4, .int .i64 c5, .int .i64 c6, .int .i64 c7, .int .i64 c8, .int .i64 c9] 27))) := (Upd.refl [] w).alloc _
  have hfalse : numOk ino gen at_ = false → recOk (mkRec ino gen at_ rule kind c0 c1 c2 c3 c4 c5 c6 c7 c8 c9) = false := fun h => by
    unfold recOk
    show (numOk ino gen at_ && _) = false
    rw [h]; rfl
  by_cases hn : 1 ≤ ino ∧ ino ≤ 12 ∧ 1 ≤ gen ∧ gen ≤ 1099511627776 ∧ 0 ≤ at_ ∧ at_ ≤ 1099511627776
  · have HN : Hid (numOk ino gen at_ = true) := decide_eq_true hn
    obtain ⟨n1, n2, n3, n4, n5, n6⟩ := hn
    have m1 : ¬ ino < 1 := by omega
    have m2 : ¬ (12 : Int) < ino := by omega
    have m3 : ¬ gen < 1 := by omega
    have m4 : ¬ (1099511627776 : Int) < gen := by omega
    have m5 : ¬ at_ < 0 := by omega
    have m6 : ¬ (1099511627776 : Int) < at_ := by omega
    clear n1 n2 n3 n4 n5 n6 hfalse
    by_cases k2 : kind = 2
    · subst k2
      have HR : Hid (recOk (mkRec ino gen at_ rule 2 c0 c1 c2 c3 c4 c5 c6 c7 c8 c9) = decide (rule = ⟨#[]⟩ ∧ (⟨[c0, c1, c2, c3, c4, c5, c6, c7, c8, c9], rfl⟩ : C10) = c10z)) := by
        unfold Hid recOk
        show (numOk ino gen at_ && _) = _
        rw [HN.out]; rfl
      by_cases hr : rule = ⟨#[]⟩
      · subst hr
        have hq := fun W => capsEq_run W c0 c1 c2 c3 c4 c5 c6 c7 c8 c9 0 0 0 0 0 0 0 0 0 0
        have HR2 : Hid (recOk (mkRec ino gen at_ ⟨#[]⟩ 2 c0 c1 c2 c3 c4 c5 c6 c7 c8 c9) = decide (c0 = 0 ∧ c1 = 0 ∧ c2 = 0 ∧ c3 = 0 ∧ c4 = 0 ∧ c5 = 0 ∧ c6 = 0 ∧ c7 = 0 ∧ c8 = 0 ∧ c9 = 0)) := by
          unfold Hid
          rw [HR.out]
          refine decide_eq_decide.2 ?_
          show (_ ∧ (⟨[c0, c1, c2, c3, c4, c5, c6, c7, c8, c9], rfl⟩ : C10) = ⟨[0, 0, 0, 0, 0, 0, 0, 0, 0, 0], rfl⟩) ↔ _
          rw [c10_eq]; simp
        obtain ⟨b, hb⟩ : ∃ b : Bool, decide (c0 = 0 ∧ c1 = 0 ∧ c2 = 0 ∧ c3 = 0 ∧ c4 = 0 ∧ c5 = 0 ∧ c6 = 0 ∧ c7 = 0 ∧ c8 = 0 ∧ c9 = 0) = b := ⟨_, rfl⟩
        have HB := Lib.hid hb
        rw [hb] at hq
        clear hb
        go_enter Tryz.func12, Tryz.ntmps12
        go_wp2_with fail
        go_ret
        exact ⟨by rw [HR2.out, HB.out]; rfl, HU.out⟩
      · have HR2 : Hid (recOk (mkRec ino gen at_ rule 2 c0 c1 c2 c3 c4 c5 c6 c7 c8 c9) = false) := by
          unfold Hid
          rw [HR.out]
          exact decide_eq_false (fun h => hr h.1)
        have q : (rule.toList == ([] : List UInt8)) = false := by
          rw [beq_eq_false_iff_ne, strList_eq]
          intro q
          exact hr (str_inj _ _ (by rw [strList_eq, strList_eq, q]))
        clear hr
        go_enter Tryz.func12, Tryz.ntmps12
        go_wp2_with fail
        go_ret
        exact ⟨by rw [HR2.out]; rfl, HU.out⟩
    · have e2 : (kind == 2) = false := by rw [beq_eq_false_iff_ne]; exact k2
      by_cases k1 : kind = 1
      · subst k1
        have HR : Hid (recOk (mkRec ino gen at_ rule 1 c0 c1 c2 c3 c4 c5 c6 c7 c8 c9) = ([c0, c1, c2, c3, c4, c5, c6, c7, c8, c9].all capOk && ruleOk rule)) := by
          unfold Hid recOk
          show (numOk ino gen at_ && _) = _
          rw [HN.out]; rfl
        go_enter Tryz.func12, Tryz.ntmps12
        go_wp2_with fail
        go_loopw [57] (fun i wr => ∃ k : Nat, k ≤ 10 ∧ i = .int .i64 k ∧ wr = (w.alloc (.cells #[.int .i64 ino, .int .i64 gen, .int .i64 at_, .string rule, .int .i64 1, .int .i64 c0, .int .i64 c1, .int .i64 c2, .int .i64 c3, .int .i64 c4, .int .i64 c5, .int .i64 c6, .int .i64 c7, .int .i64 c8, .int .i64 c9] 27)) ∧ Hid (∀ j, j < k → capOk (nth [c0, c1, c2, c3, c4, c5, c6, c7, c8, c9] j) = true)) (fun i _ => 10 - (intOf i).toNat)
        case atStart => exact ⟨0, Nat.zero_le _, rfl, rfl, fun j h => absurd h (by omega)⟩
        case round =>
          obtain ⟨k, hk, rfl, rfl, hh⟩ := hrel
          by_cases hlt : k < 10
          · have q0 : (0 : Int) ≤ k := by omega
            have q1 : (k : Int) < 10 := by omega
            have hix := fun W => idx_caps c0 c1 c2 c3 c4 c5 c6 c7 c8 c9 k hlt W
            have HT : Hid (capOk (nth [c0, c1, c2, c3, c4, c5, c6, c7, c8, c9] k) = true → ∀ j, j < k + 1 → capOk (nth [c0, c1, c2, c3, c4, c5, c6, c7, c8, c9] j) = true) := fun hb j hjk => by
              rcases Nat.lt_or_eq_of_le (Nat.le_of_lt_succ hjk) with h | h
              · exact hh.out j h
              · subst h; exact hb
            have HF : Hid (capOk (nth [c0, c1, c2, c3, c4, c5, c6, c7, c8, c9] k) = false → recOk (mkRec ino gen at_ rule 1 c0 c1 c2 c3 c4 c5 c6 c7 c8 c9) = false) := fun hb => by
              rw [HR.out]
              have : [c0, c1, c2, c3, c4, c5, c6, c7, c8, c9].all capOk = false := by
                rw [List.all_eq_false]
                exact ⟨_, nth_in (l := [c0, c1, c2, c3, c4, c5, c6, c7, c8, c9]) k hlt, by rw [hb]; simp⟩
              rw [this]; rfl
            generalize nth [c0, c1, c2, c3, c4, c5, c6, c7, c8, c9] k = d at *
            rcases (show d < -1 ∨ (¬ d < -1 ∧ 500 < d) ∨ (¬ d < -1 ∧ ¬ 500 < d) by omega) with hd | ⟨hd, hd2⟩ | ⟨hd, hd2⟩
            · have HO := Lib.hid (HF.out (decide_eq_false (by omega)))
              clear HT HF hh
              go_wp2_with fail
              go_ret
              exact ⟨by rw [HO.out]; rfl, HU.out⟩
            · have HO := Lib.hid (HF.out (decide_eq_false (by omega)))
              clear HT HF hh
              go_wp2_with fail
              go_ret
              exact ⟨by rw [HO.out]; rfl, HU.out⟩
            · have HO := Lib.hid (HT.out (decide_eq_true (by omega)))
              clear HT HF hh
              go_wp2_with fail
              go_roundw
              case rel => exact ⟨k + 1, by omega, by go_num, by first | trivial | rfl, HO⟩
              case measure => simp [intOf]; omega
          · obtain rfl : k = 10 := by omega
            have HO : Hid (recOk (mkRec ino gen at_ rule 1 c0 c1 c2 c3 c4 c5 c6 c7 c8 c9) = ruleOk rule) := by
              unfold Hid
              rw [HR.out]
              have : [c0, c1, c2, c3, c4, c5, c6, c7, c8, c9].all capOk = true := by
                rw [List.all_eq_true]
                intro x hx
                obtain ⟨j, hj, rfl⟩ := List.mem_iff_getElem.1 hx
                have := hh.out j hj
                rwa [nth_get _ j hj] at this
              rw [this, Bool.true_and]
            clear hh
            go_wp2_with fail
            (with_reducible refine (ledNamed_any _ rule).mono ?_)
            rintro e w1 ⟨rfl, rfl⟩
            go_wp2_with fail
            go_ret
            exact ⟨by rw [HO.out]; rfl, HU.out⟩
      · have e1 : (kind == 1) = false := by rw [beq_eq_false_iff_ne]; exact k1
        have HR : Hid (recOk (mkRec ino gen at_ rule kind c0 c1 c2 c3 c4 c5 c6 c7 c8 c9) = false) := by
          unfold Hid recOk
          show (numOk ino gen at_ && _) = _
          rw [HN.out]
          show (if kind = 2 then _ else if kind = 1 then _ else false) = false
          rw [if_neg k2, if_neg k1]
        clear k1 k2
        go_enter Tryz.func12, Tryz.ntmps12
        go_wp2_with fail
        go_ret
        exact ⟨by rw [HR.out]; rfl, HU.out⟩
  · have HR := Lib.hid (hfalse (decide_eq_false hn))
    rcases (show ino < 1 ∨ (¬ ino < 1 ∧ (12 : Int) < ino) ∨ (¬ ino < 1 ∧ ¬ (12 : Int) < ino ∧ gen < 1) ∨ (¬ ino < 1 ∧ ¬ (12 : Int) < ino ∧ ¬ gen < 1 ∧ (1099511627776 : Int) < gen) ∨ (¬ ino < 1 ∧ ¬ (12 : Int) < ino ∧ ¬ gen < 1 ∧ ¬ (1099511627776 : Int) < gen ∧ at_ < 0) ∨ (¬ ino < 1 ∧ ¬ (12 : Int) < ino ∧ ¬ gen < 1 ∧ ¬ (1099511627776 : Int) < gen ∧ ¬ at_ < 0 ∧ (1099511627776 : Int) < at_) by omega) with m1 | ⟨m1, m2⟩ | ⟨m1, m2, m3⟩ | ⟨m1, m2, m3, m4⟩ | ⟨m1, m2, m3, m4, m5⟩ | ⟨m1, m2, m3, m4, m5, m6⟩
    all_goals
      clear hfalse hn
      go_enter Tryz.func12, Tryz.ntmps12
      go_wp2_with fail
      go_ret
      exact ⟨by rw [HR.out]; rfl, HU.out⟩
theorem ledRight_any (w : World) (r : Rec) : Calls Tryz.prog 12 #[recVal r] w fun e w' => e = .returned (.bool (recOk r)) ∧ Upd [] w w' := by
  obtain ⟨ino, gen, at_, rule, kind, c0, c1, c2, c3, c4, c5, c6, c7, c8, c9, rfl⟩ := rec_mk r
  exact ledRight_c w ino gen at_ rule kind c0 c1 c2 c3 c4 c5 c6 c7 c8 c9
end Go.Proofs.YtmhojaiajhdlcaaGreat
namespace Go.Proofs.YtmhojaiajhdlcaaGreat
open Go.RowKit
set_option linter.unusedSimpArgs false
set_option linter.unusedVariables false
theorem run_cut {P : Program} {t e : TypeId} {size : Nat} (ht : P.underlying t = some (.slice e)) (hi : (P.info? e).map (·.size) = some size) (a : Option Addr) (n cap k : Nat) (hk : k ≤ n) (W : World) :
    (Instr.slice t (.slice a n cap) (some (.int .i64 (k : Int))) none none).run P W = .ok (.slice (if cap = k then a else a.map (·.add (k * size))) (n - k) (cap - k)) W := by
  have he : P.elem t = e := by simp [Program.elem, ht]
  obtain ⟨i, h1, h2⟩ : ∃ i, P.info? e = some i ∧ i.size = size := by
    cases hq : P.info? e with
    | none => simp [hq] at hi
    | some i => exact ⟨i, rfl, by simpa [hq] using hi⟩
  rw [run_slice_l (P := P) (w := W) t a n cap (by rw [he]; exact ht) .i64 (k : Int) (by omega) (by omega), he]
  simp [sizeOf, typeInfo, h1, h2, sliced]
theorem run_cut_h {P : Program} {t e : TypeId} {size : Nat} (ht : P.underlying t = some (.slice e)) (hi : (P.info? e).map (·.size) = some size) (a : Option Addr) (n cap k : Nat) (hk : k ≤ cap) (W : World) :
    (Instr.slice t (.slice a n cap) none (some (.int .i64 (k : Int))) none).run P W = .ok (.slice a k cap) W := by
  have he : P.elem t = e := by simp [Program.elem, ht]
  obtain ⟨i, h1, h2⟩ : ∃ i, P.info? e = some i ∧ i.size = size := by
    cases hq : P.info? e with
    | none => simp [hq] at hi
    | some i => exact ⟨i, rfl, by simpa [hq] using hi⟩
  rw [run_slice_h (P := P) (w := W) t a n cap (by rw [he]; exact ht) .i64 (k : Int) (by omega) (by omega), he]
  simp [sizeOf, typeInfo, h1, h2, sliced]
  intro _
  cases a with
  | none => rfl
  | some x => obtain ⟨b, off, arr⟩ := x; simp only [Option.map_some, Addr.add]; cases arr <;> simp
theorem run_cut_lh {P : Program} {t e : TypeId} {size : Nat} (ht : P.underlying t = some (.slice e)) (hi : (P.info? e).map (·.size) = some size) (a : Option Addr) (n cap k m : Nat) (hk : k ≤ m) (hm : m ≤ cap) (W : World) (K M : Int) (hK : K = (k : Int)) (hM : M = (m : Int)) :
    (Instr.slice t (.slice a n cap) (some (.int .i64 K)) (some (.int .i64 M)) none).run P W = .ok (.slice (if cap = k then a else a.map (·.add (k * size))) (m - k) (cap - k)) W := by
  subst hK; subst hM
  have he : P.elem t = e := by simp [Program.elem, ht]
  obtain ⟨i, h1, h2⟩ : ∃ i, P.info? e = some i ∧ i.size = size := by
    cases hq : P.info? e with
    | none => simp [hq] at hi
    | some i => exact ⟨i, rfl, by simpa [hq] using hi⟩
  rw [run_slice_lh (P := P) (w := W) t a n cap (by rw [he]; exact ht) .i64 .i64 (k : Int) (m : Int) (by omega) (by omega) (by omega), he]
  simp [sizeOf, typeInfo, h1, h2, sliced]
theorem run_cut_hm {P : Program} {t e : TypeId} {size : Nat} (ht : P.underlying t = some (.slice e)) (hi : (P.info? e).map (·.size) = some size) (a : Option Addr) (n cap m : Nat) (hm : m ≤ cap) (W : World) :
    (Instr.slice t (.slice a n cap) none (some (.int .i64 (m : Int))) (some (.int .i64 (m : Int)))).run P W = .ok (.slice a m m) W := by
  have he : P.elem t = e := by simp [Program.elem, ht]
  obtain ⟨i, h1, h2⟩ : ∃ i, P.info? e = some i ∧ i.size = size := by
    cases hq : P.info? e with
    | none => simp [hq] at hi
    | some i => exact ⟨i, rfl, by simpa [hq] using hi⟩
  rw [run_slice_hm (P := P) (w := W) t a n cap (by rw [he]; exact ht) .i64 .i64 (m : Int) (m : Int) (by omega) (by omega) (by omega), he]
  simp [sizeOf, typeInfo, h1, h2, sliced]
  intro _
  cases a with
  | none => rfl
  | some x => obtain ⟨b, off, arr⟩ := x; simp only [Option.map_some, Addr.add]; cases arr <;> simp
end Go.Proofs.YtmhojaiajhdlcaaGreat
namespace Go.Proofs.YtmhojaiajhdlcaaGreat
open Go.RowKit
set_option linter.unusedSimpArgs false
set_option linter.unusedVariables false

/-- A list that a slice's value shows in a world, an element so many cells. -/
def RdN {α : Type} [Inhabited α] (sz : Nat) (c : α → List Value) (w : World) (v : Value) (l : List α) : Prop :=
  ∃ a cap, v = .slice a l.length cap ∧ l.length ≤ cap ∧ cap ≤ maxLen ∧
    (l ≠ [] → ∃ b off, a = some ⟨b, off, none⟩ ∧ ∀ j, j < l.length → ∀ i, i < sz → w.cell? ⟨b, off + (j * sz + i), none⟩ = (c (nth l j))[i]?)
theorem RdN.upd {α : Type} [Inhabited α] {sz : Nat} {c : α → List Value} {w w' : World} {v : Value} {l : List α} (hsz : ∀ x, (c x).length = sz) (h : RdN sz c w v l) {S : List Nat} (hu : Upd S w w') (hs : ∀ x ∈ blk v, x ∉ S) : RdN sz c w' v l := by
  obtain ⟨a, cap, rfl, h1, h2, h3⟩ := h
  refine ⟨a, cap, rfl, h1, h2, fun hne => ?_⟩
  obtain ⟨b, off, rfl, hc⟩ := h3 hne
  refine ⟨b, off, rfl, fun j hj i hi => ?_⟩
  have hq := hc j hj i hi
  have hlt : i < (c (nth l j)).length := by rw [hsz]; exact hi
  rw [List.getElem?_eq_getElem hlt] at hq ⊢
  exact hu.cell hq (hs b (by simp [blk]))
theorem RdN.upd0 {α : Type} [Inhabited α] {sz : Nat} {c : α → List Value} {w w' : World} {v : Value} {l : List α} (hsz : ∀ x, (c x).length = sz) (h : RdN sz c w v l) (hu : Upd [] w w') : RdN sz c w' v l := h.upd hsz hu (by simp)

theorem Rd.at_ {α : Type} [Inhabited α] {c : α → Value} {w : World} {a : Option Addr} {n cap : Nat} {l : List α} (h : Rd c w (.slice a n cap) l) (k : Nat) (hk : k < l.length) :
    ∃ b off, a = some ⟨b, off, none⟩ ∧ w.cell? ⟨b, off + k, none⟩ = some (c (nth l k)) := by
  obtain ⟨a', cap', he, _, _, h3⟩ := h
  injection he with e1 e2 e3; subst e1
  obtain ⟨b, off, hb, hc⟩ := h3 (fun q => by rw [q] at hk; simp at hk)
  exact ⟨b, off, hb, hc k hk⟩
end Go.Proofs.YtmhojaiajhdlcaaGreat
namespace Go.Proofs.YtmhojaiajhdlcaaGreat
open Go.RowKit
set_option linter.unusedSimpArgs false
set_option linter.unusedVariables false

theorem flatMap_get {α : Type} [Inhabited α] {sz : Nat} {c : α → List Value} (hsz : ∀ x, (c x).length = sz) : ∀ (l : List α) (j i : Nat), j < l.length → i < sz → (l.flatMap c)[j * sz + i]? = (c (nth l j))[i]?
  | [], j, i, hj, hi => by simp at hj
  | x :: l, 0, i, hj, hi => by
    rw [List.flatMap_cons, Nat.zero_mul, Nat.zero_add, List.getElem?_append_left (by rw [hsz]; exact hi), nth_cons_zero]
  | x :: l, j + 1, i, hj, hi => by
    have hq : (j + 1) * sz + i = sz + (j * sz + i) := by rw [Nat.add_mul]; omega
    rw [List.flatMap_cons, hq, List.getElem?_append_right (by rw [hsz]; omega), hsz, Nat.add_sub_cancel_left, nth_cons_succ]
    exact flatMap_get hsz l j i (by simpa using hj) hi
theorem flatMap_len {α : Type} {sz : Nat} {c : α → List Value} (hsz : ∀ x, (c x).length = sz) (l : List α) : (l.flatMap c).length = l.length * sz := by
  induction l with
  | nil => simp
  | cons x l ih => rw [List.flatMap_cons, List.length_append, hsz, ih, List.length_cons, Nat.add_mul, Nat.one_mul]; omega
/-- A list in a block of the call's own, an element so many cells. -/
def OwnN {α : Type} (sz : Nat) (c : α → List Value) (base : Nat) (e : TypeId) (w : World) (v : Value) (l : List α) : Prop := w.ownsRow base e sz v l.length (l.flatMap c)
theorem OwnN.rd {α : Type} [Inhabited α] {sz : Nat} {c : α → List Value} {base : Nat} {e : TypeId} {w : World} {v : Value} {l : List α} (hsz : ∀ x, (c x).length = sz) (h : OwnN sz c base e w v l) : RdN sz c w v l := by
  obtain ⟨h1, h2⟩ := h
  rcases h2 with ⟨rfl, hn⟩ | ⟨g, cap, cur, rfl, hb, hg, hc, hm, hs, ht⟩
  · exact ⟨none, 0, by rw [hn], by omega, Nat.zero_le _, fun q => absurd (List.eq_nil_of_length_eq_zero hn) q⟩
  · refine ⟨_, cap, rfl, hc, hm, fun _ => ⟨g, 0, rfl, fun j hj i hi => ?_⟩⟩
    rw [cell_of_row w g (0 + (j * sz + i)) cur e (0, 0) hg, ← flatMap_get hsz l j i hj hi, ← ht, List.getElem?_take]
    have hlt : j * sz + i < l.length * sz := by
      have := Nat.mul_le_mul_right sz (show j + 1 ≤ l.length from hj)
      rw [Nat.add_mul] at this; omega
    simp [hlt]
theorem OwnN.upd {α : Type} {sz : Nat} {c : α → List Value} {base : Nat} {e : TypeId} {w w' : World} {v : Value} {l : List α} (h : OwnN sz c base e w v l) {S : List Nat} (hu : Upd S w w') (hs : ∀ x ∈ blk v, x ∉ S) : OwnN sz c base e w' v l := by
  obtain ⟨h1, h2⟩ := h
  refine ⟨h1, ?_⟩
  rcases h2 with h2 | ⟨g, cap, cur, rfl, hb, hg, r⟩
  · exact .inl h2
  · exact .inr ⟨g, cap, cur, rfl, hb, hu.heap hg (hs g (by simp [blk])), r⟩
theorem OwnN.ge {α : Type} {sz : Nat} {c : α → List Value} {base : Nat} {e : TypeId} {w : World} {v : Value} {l : List α} (h : OwnN sz c base e w v l) : ∀ x ∈ blk v, base ≤ x ∧ x < w.heap.size := by
  intro x hx
  rw [blk_own] at hx
  exact World.ownsRow.lt h x (by simpa using hx)
theorem OwnN.typ {α : Type} {sz : Nat} {c : α → List Value} {base : Nat} {e : TypeId} {w : World} {v : Value} {l : List α} (h : OwnN sz c base e w v l) : ∀ x ∈ blk v, ∃ C f, w.heap[x]? = some (.cells C e f) := by
  intro x hx
  rcases h.2 with ⟨rfl, _⟩ | ⟨g, cap, cur, rfl, hb, hg, r⟩
  · simp [blk] at hx
  · simp [blk] at hx; subst hx; exact ⟨_, _, hg⟩
theorem OwnN.nil {α : Type} {sz : Nat} {c : α → List Value} (base : Nat) (e : TypeId) (w : World) : OwnN sz c base e w (.slice none 0 0) ([] : List α) := World.ownsRow_nil _ _ _ _
theorem Blk.ne {w : World} {g : Nat} {e e' : TypeId} {xs C : _} {f : Nat × Nat} (h : Blk w g e xs) (x : Nat) (k : w.heap[x]? = some (.cells C e' f)) (hne : e ≠ e') : g ≠ x := by
  rintro rfl
  unfold Blk at h; rw [h] at k; simp at k; exact hne k.2.1
section
variable {P : Program} {ops : Array Oper} {rest : List Oper} {o : Oper} {a : Act} {w : World} {Q : Exit → Act → World → Prop}
/-- append of a list onto a list of the call's own. -/
theorem wpList_appN {α : Type} [Inhabited α] {sz : Nat} {c : α → List Value} (hsz : ∀ x, (c x).length = sz) (hpos : 0 < sz) (hone : ∀ x, ∀ u ∈ c x, u.oneCell' = true) (hgd : o.guard = none) (s x : Operand) {t e : TypeId} (ho : o.op = .call { callee := .builtin .append, args := #[s, x], argTypes := #[t, t] })
    {z : Value} {bytes base : Nat} (ht : P.underlying t = some (.slice e)) (hi : (P.info? e).map (fun i => (i.zero, i.size, i.bytes)) = some (some z, sz, bytes)) (hz : z.cells.size = sz)
    (v : Value) (l : List α) (y : α) (hs : a.eval s = v) (g k : Nat) (hx : a.eval x = .slice (some ⟨g, 0, none⟩) 1 k) (hv : OwnN sz c base e w v l) (hu : ∀ i u, (c y)[i]? = some u → w.cell? ⟨g, i, none⟩ = some u) (hb : (l.length + 1) * bytes ≤ 140737488355328) (hl : l.length + 1 ≤ maxLen) (hbase : base ≤ w.heap.size)
    (h : ∀ v' w', OwnN sz c base e w' v' (l ++ [y]) → Upd (blk v) w w' → (∀ x ∈ blk v', x ∈ blk v ∨ w.heap.size ≤ x) → wpList P ops Q rest (a.put o.dst v') w') : wpList P ops Q (o :: rest) a w := by
  obtain ⟨i, h1, h2, h3, h4⟩ := info_parts hi
  obtain ⟨v', w', hr, g1, g2, _, g3⟩ := run_append_own_at (P := P) (ty := o.type) w base t e i z sz bytes ht h1 h2 h3 h4 hz hpos v l.length (l.flatMap c) hv ⟨g, 0, none⟩ 1 k (c y) (by rw [hsz]; simp) (fun j u hj => by rw [add_none, Nat.zero_add]; exact hu j u hj) (hone y) hl hb hbase
  have hown : OwnN sz c base e w' v' (l ++ [y]) := by
    unfold OwnN; rw [List.length_append, List.flatMap_append]; simpa using g1
  refine wpList_plain hgd fun K hK => ?_
  unfold Oper.wp execOp
  simp only [ho, resolve, invoke, builtin, Sem.run_bind, Sem.run_pure, Result.andThen_ok, List.map_toArray, List.map_cons, List.map_nil, hs, hx, hr]
  refine hK _ _ (h v' w' hown (by rw [blk_own]; exact Upd.of_grown g2) ?_)
  intro x hx
  rw [blk_own] at hx
  rcases g3 with g3 | g3
  · rw [g3, ← blk_own] at hx; exact .inl hx
  · rw [g3] at hx; simp at hx; exact .inr (by omega)
theorem zeroCells_one {zc : Array Value} (h : ∀ u ∈ zc, u.oneCell' = true) (n : Nat) : ∀ u ∈ (Builtin.zeroCells zc n).toList, u.oneCell' = true := by
  intro u hu
  simp only [Builtin.zeroCells, Array.toList_map, List.mem_map] at hu
  obtain ⟨i, hi, rfl⟩ := hu
  have hi' : i < n * zc.size := by simpa using hi
  have hpos : 0 < zc.size := by
    rcases Nat.eq_zero_or_pos zc.size with h0 | h0
    · rw [h0] at hi'; omega
    · exact h0
  have hlt := Nat.mod_lt i hpos
  rw [getElem!_pos zc _ hlt]
  exact h _ (Array.getElem_mem hlt)
/-- clear of a list of the call's own: what was there is zero; cut to nothing it is a list of the call's own again. -/
theorem wpList_clearN {α : Type} {sz : Nat} {c : α → List Value} (hgd : o.guard = none) (s : Operand) {t e : TypeId} (ho : o.op = .call { callee := .builtin .clear, args := #[s], argTypes := #[t] })
    {z : Value} {bytes base : Nat} (ht : P.underlying t = some (.slice e)) (hi : (P.info? e).map (fun i => (i.zero, i.size, i.bytes)) = some (some z, sz, bytes)) (hz : z.cells.size = sz) (h1 : ∀ u ∈ z.cells, u.oneCell' = true)
    (v : Value) (l : List α) (hs : a.eval s = v) (hv : OwnN sz c base e w v l)
    (h : ∀ w', Upd (blk v) w w' → w'.heap.size = w.heap.size → (∀ ao cap, v = .slice ao l.length cap → OwnN sz c base e w' (.slice ao 0 cap) ([] : List α)) → wpList P ops Q rest (a.put o.dst (.tuple #[])) w') : wpList P ops Q (o :: rest) a w := by
  obtain ⟨i, i1, i2, i3, i4⟩ := info_parts hi
  have key : ∃ w', (Builtin.clear_ #[t] o.type #[v]).run P w = .ok (.tuple #[]) w' ∧ Upd (blk v) w w' ∧ w'.heap.size = w.heap.size ∧ (∀ ao cap, v = .slice ao l.length cap → OwnN sz c base e w' (.slice ao 0 cap) ([] : List α)) := by
    rcases hv.2 with ⟨rfl, hn⟩ | ⟨g, cap, cur, rfl, hb, hg, hc, hm, hsz, htk⟩
    · refine ⟨w, ?_, Upd.refl _ _, rfl, ?_⟩
      · simp [Builtin.clear_, run_underlying ht]
      · intro ao cap he; injection he with e1 e2 e3; subst e1; subst e3; exact World.ownsRow_nil _ _ _ _
    · by_cases h0 : l.length = 0
      · refine ⟨w, ?_, Upd.refl _ _, rfl, ?_⟩
        · rw [h0]; simp [Builtin.clear_, run_underlying ht]
        · intro ao cap' he; injection he with e1 e2 e3; subst e1; subst e3
          exact ⟨by simp, .inr ⟨g, _, cur, rfl, hb, hg, by simp, hm, hsz, by simp⟩⟩
      · have hzl : (Builtin.zeroCells z.cells l.length).toList.length = l.length * sz := by rw [Array.length_toList, size_zeroCells, hz]
        have hfit : 0 + 0 + (Builtin.zeroCells z.cells l.length).toList.length ≤ cur.size := by
          rw [hzl, hsz]; have := Nat.mul_le_mul_right sz hc; omega
        have hst := run_storeCells_at (P := P) g 0 e _ 0 cur w hg hfit (zeroCells_one h1 l.length)
        have hlen : (List.take (0 + 0) cur.toList ++ (Builtin.zeroCells z.cells l.length).toList ++ List.drop (0 + 0 + (Builtin.zeroCells z.cells l.length).toList.length) cur.toList).toArray.size = cap * sz := by
          simp only [List.size_toArray, List.length_append, List.length_take, List.length_drop, hzl]
          rw [Array.length_toList, hsz]
          have := Nat.mul_le_mul_right sz hc
          omega
        generalize (List.take (0 + 0) cur.toList ++ (Builtin.zeroCells z.cells l.length).toList ++ List.drop (0 + 0 + (Builtin.zeroCells z.cells l.length).toList.length) cur.toList).toArray = ys at hst hlen
        refine ⟨w.setRow g ys, ?_, ⟨rfl, rfl, rfl, by simp, fun k _ hk => setRow_other w g k _ (by simpa [blk] using hk)⟩, by simp, ?_⟩
        · obtain ⟨m, hm'⟩ : ∃ m, l.length = m + 1 := ⟨l.length - 1, by omega⟩
          rw [hm'] at hst ⊢
          have hzv : (zeroValue e).run P w = .ok z w := by simp [zeroValue, typeInfo, i1, i2]
          simp only [Builtin.clear_]
          simp [run_underlying ht, hzv, hst]
        · intro ao cap' he; injection he with e1 e2 e3; subst e1; subst e3
          exact ⟨by simp, .inr ⟨g, _, _, rfl, hb, setRow_heap w g cur _ e _ hg, by simp, hm, hlen, by simp⟩⟩
  obtain ⟨w', hr, k1, k2, k3⟩ := key
  refine wpList_plain hgd fun K hK => ?_
  unfold Oper.wp execOp
  simp only [ho, resolve, invoke, builtin, Sem.run_bind, Sem.run_pure, Result.andThen_ok, List.map_toArray, List.map_cons, List.map_nil, hs, hr]
  exact hK _ _ (h w' k1 k2 k3)
end
end Go.Proofs.YtmhojaiajhdlcaaGreat
namespace Go.Proofs.YtmhojaiajhdlcaaGreat
open Go.RowKit
set_option linter.unusedSimpArgs false
set_option linter.unusedVariables false
/-- A reader at g: its bytes, where it stands, its error. -/
structure RdrAt (T : TypeId) (base : Nat) (w : World) (g : Nat) (v : Value) (B : List UInt8) (s : RSt) : Prop where
  cells : Blk w g T [v, .int .i64 (s.1 : Int), .int .i64 (s.2 : Int)]
  own : Own bv base 5 w v B
  gb : base ≤ g
  at_ : s.1 ≤ B.length
  er : s.2 ≤ 5
  sz : B.length ≤ 140737488351232
theorem RdrAt.upd {T : TypeId} {base : Nat} {w w' : World} {g : Nat} {v : Value} {B : List UInt8} {s : RSt} (h : RdrAt T base w g v B s) (hu : Upd [] w w') : RdrAt T base w' g v B s :=
  ⟨h.cells.upd hu (by simp), h.own.upd hu (by simp), h.gb, h.at_, h.er, h.sz⟩
theorem RdrAt.ng {T : TypeId} {base : Nat} {w : World} {g : Nat} {v : Value} {B : List UInt8} {s : RSt} (h : RdrAt T base w g v B s) (hT : T ≠ 5) : g ∉ blk v := by
  intro hg
  rcases h.own.2 with ⟨rfl, _⟩ | ⟨g', cap, cur, rfl, hb, hg', _⟩
  · simp [blk] at hg
  · simp [blk] at hg; subst hg
    exact h.cells.ne g hg' hT rfl
/-- A store of the place, or of the error. -/
theorem RdrAt.set1 {T : TypeId} {base : Nat} {w : World} {g : Nat} {v : Value} {B : List UInt8} {s : RSt} (h : RdrAt T base w g v B s) (hT : T ≠ 5) (k : Nat) (hk : k ≤ B.length) : RdrAt T base (w.setCell ⟨g, 1, none⟩ (.int .i64 (k : Int))) g v B (k, s.2) :=
  ⟨by have := h.cells.set_ 1 (.int .i64 (k : Int)); exact this, h.own.upd (S := [g]) ((Upd.refl [g] w).setCell _ _ (.inl (by simp))) (fun x hx hS => by simp at hS; subst hS; exact h.ng hT hx), h.gb, hk, h.er, h.sz⟩
theorem RdrAt.set2 {T : TypeId} {base : Nat} {w : World} {g : Nat} {v : Value} {B : List UInt8} {s : RSt} (h : RdrAt T base w g v B s) (hT : T ≠ 5) (k : Nat) (hk : k ≤ 5) : RdrAt T base (w.setCell ⟨g, 2, none⟩ (.int .i64 (k : Int))) g v B (s.1, k) :=
  ⟨by have := h.cells.set_ 2 (.int .i64 (k : Int)); exact this, h.own.upd (S := [g]) ((Upd.refl [g] w).setCell _ _ (.inl (by simp))) (fun x hx hS => by simp at hS; subst hS; exact h.ng hT hx), h.gb, h.at_, hk, h.sz⟩
section
variable {base : Nat} {g : Nat} {v : Value} {B : List UInt8} {s : RSt}
theorem rWrong_any (w : World) (k e : Nat) (K E : Int) (hK : K = (k : Int)) (hE : E = (e : Int)) (h : RdrAt 165 base w g v B s) (hk : k ≤ B.length) (he : e ≤ 5) :
    Calls Tryz.prog 100 #[.pointer (some ⟨g, 0, none⟩), .int .i64 K, .int .i64 E] w fun x w' => x = .returned (.int .i64 0) ∧ RdrAt 165 base w' g v B (k, e) ∧ Upd [g] w w' := by
  subst hK; subst hE
  have H1 := Lib.hid ((h.set1 (by decide) k hk).set2 (by decide) e he)
  have HU := Lib.hid (((Upd.refl [g] w).setCell ⟨g, 1, none⟩ (.int .i64 (k : Int)) (.inl (by simp))).setCell ⟨g, 2, none⟩ (.int .i64 (e : Int)) (.inl (by simp)))
  have c1 : w.cell? ⟨g, 1, none⟩ = some (.int .i64 (s.1 : Int)) := h.cells.cell 1
  have c2 : w.cell? ⟨g, 2, none⟩ = some (.int .i64 (s.2 : Int)) := h.cells.cell 2
  have f1 := h.cells.frozen 1
  have f2 := h.cells.frozen 2
  go_enter Tryz.func100, Tryz.ntmps100
  go_wp2
  go_ret
  exact ⟨rfl, H1.out, HU.out⟩
theorem or64 (n : Nat) (x : UInt8) (h : n < 72057594037927936) : bits .or .u64 ((n : Int) * 256 % 18446744073709551616) ((x.toNat : Int) % 18446744073709551616) = ((n * 256 + x.toNat : Nat) : Int) := by
  have hx := x.toNat_lt
  have h1 : (n : Int) * 256 % 18446744073709551616 = ((n * 256 : Nat) : Int) := by omega
  have h2 : (x.toNat : Int) % 18446744073709551616 = ((x.toNat : Nat) : Int) := by omega
  rw [h1, h2, u64_hl _ _ 8 (by omega) (by omega) (by omega)]
theorem beN_take_succ (l : List UInt8) (j : Nat) (h : j < l.length) : beN (l.take (j + 1)) = beN (l.take j) * 256 + (nth l j).toNat := by
  rw [List.take_succ_eq_append_getElem h, beN_snoc, nth_get l j h]
theorem beN_take_lt (l : List UInt8) (j : Nat) (h : j ≤ 7) : beN (l.take j) < 72057594037927936 := by
  have h1 := beN_lt (l.take j)
  have h2 : (256 : Nat) ^ (l.take j).length ≤ 256 ^ 7 := Nat.pow_le_pow_right (by decide) (by rw [List.length_take]; omega)
  have h3 : (256 : Nat) ^ 7 = 72057594037927936 := by decide
  omega
theorem rdNum_0 (B : List UInt8) (k : Nat) : rdNum B (k, 0) = if (numAt (B.drop k)).2.2 ≠ 0 then (0, k, (numAt (B.drop k)).2.2) else ((numAt (B.drop k)).1, k + (numAt (B.drop k)).2.1, 0) := by
  unfold rdNum; rw [if_neg (by simp)]
set_option maxHeartbeats 4000000 in
/-- A number that can't be read, or a reader that has an error: the bad ways but the last. -/
theorem rNumBad_any (w : World) (h : RdrAt 165 base w g v B s) (hs : s.2 ≠ 0 ∨ (s.2 = 0 ∧ (B.drop s.1 = [] ∨ (∃ c t, B.drop s.1 = c :: t ∧ (8 < c.toNat ∨ t.length < c.toNat))))) :
    Calls Tryz.prog 50 #[.pointer (some ⟨g, 0, none⟩)] w fun x w' => x = .returned (.int .i64 ((rdNum B s).1 : Int)) ∧ RdrAt 165 base w' g v B (rdNum B s).2 ∧ Upd [g] w w' := by
  have H := Lib.hid h
  obtain ⟨a, k, rfl, -⟩ := h.own.rd
  have c0 : w.cell? ⟨g, 0, none⟩ = some (.slice a B.length k) := h.cells.cell 0
  have c1 : w.cell? ⟨g, 1, none⟩ = some (.int .i64 (s.1 : Int)) := h.cells.cell 1
  have c2 : w.cell? ⟨g, 2, none⟩ = some (.int .i64 (s.2 : Int)) := h.cells.cell 2
  have hat := h.at_
  have hsz := h.sz
  rcases hs with hs | ⟨hs, hb⟩
  · have hne : ((s.2 : Int) != 0) = true := by rw [bne_iff_ne]; omega
    have HR : Hid (rdNum B s = (0, s)) := by unfold Hid rdNum; rw [if_pos hs]
    clear h hs
    go_enter Tryz.func50, Tryz.ntmps50
    go_wp2_with fail
    go_ret
    exact ⟨by rw [HR.out]; rfl, by rw [HR.out]; exact H.out, Upd.refl _ _⟩
  · obtain ⟨at_, er⟩ := s
    dsimp only at *
    subst hs
    have hcut := run_cut (P := Tryz.prog) Tryz.underlying28 sizeByte a B.length k at_ hat
    simp only [Nat.mul_one] at hcut
    have HD := Lib.hid (h.own.rd.drop at_ hat)
    have hrl : B.length - at_ = (B.drop at_).length := by rw [List.length_drop]
    have HN : Hid (_ = _) := rdNum_0 B at_
    replace c2 : w.cell? ⟨g, 2, none⟩ = some (.int .i64 0) := c2
    rw [hrl] at HD hcut
    have hrs : (B.drop at_).length ≤ 140737488351232 := by rw [List.length_drop]; omega
    generalize B.drop at_ = r at *
    generalize (if k = at_ then a else a.map (·.add at_)) = ar at *
    generalize k - at_ = kr at *
    clear hrl h
    rcases hb with rfl | ⟨c, t, rfl, hct⟩
    · have HR : Hid (rdNum B (at_, 0) = (0, at_, 3)) := HN.out.trans (by simp [numAt])
      clear HN
      go_enter Tryz.func50, Tryz.ntmps50
      go_wp2_with fail
      go_quiet (fail)
      have HU := Lib.hid ((Upd.refl [] w).drewN nq)
      generalize w.drewN nq = w1 at *
      have d1 := HU.out.cell c1 (by simp)
      go_wp2_with fail
      with_reducible refine (rWrong_any _ at_ 3 _ 3 rfl rfl (H.out.upd HU.out) hat (by decide)).mono ?_
      rintro e w2 ⟨rfl, h2, hu2⟩
      go_wp2_with fail
      go_ret
      exact ⟨by rw [HR.out]; rfl, by rw [HR.out]; exact h2, HU.out.trans hu2 (by simp) (by simp)⟩
    · obtain ⟨b, off, hae, hc0⟩ := HD.out.at_ 0 (by simp)
      subst hae
      rw [nth_cons_zero] at hc0
      have hc0' : w.cell? ⟨b, off, none⟩ = some (bv c) := hc0
      clear hc0
      have hlen : (c :: t).length = t.length + 1 := rfl
      rw [hlen] at hcut hrs
      have hlt := c.toNat_lt
      by_cases h8 : 8 < c.toNat
      · have HR : Hid (rdNum B (at_, 0) = (0, at_, 4)) := HN.out.trans (by rw [numAt_cons, if_pos h8]; simp)
        have q8 : (8 : Int) < c.toNat := by omega
        clear HN hct h8
        go_enter Tryz.func50, Tryz.ntmps50
        go_wp2_with fail
        go_quiet (fail)
        have HU := Lib.hid ((Upd.refl [] w).drewN nq)
        generalize w.drewN nq = w1 at *
        have d1 := HU.out.cell c1 (by simp)
        have d0 := HU.out.cell hc0' (by simp)
        go_wp2_with fail
        with_reducible refine (rWrong_any _ at_ 4 _ 4 rfl rfl (H.out.upd HU.out) hat (by decide)).mono ?_
        rintro e w2 ⟨rfl, h2, hu2⟩
        go_wp2_with fail
        go_ret
        exact ⟨by rw [HR.out]; rfl, by rw [HR.out]; exact h2, HU.out.trans hu2 (by simp) (by simp)⟩
      · have hsh : t.length < c.toNat := by omega
        have HR : Hid (rdNum B (at_, 0) = (0, at_, 3)) := HN.out.trans (by rw [numAt_cons, if_neg h8, if_pos hsh]; simp)
        have q8 : ¬ (8 : Int) < c.toNat := by omega
        have qs : (t.length : Int) + 1 < 1 + c.toNat := by omega
        clear HN hct h8 hsh
        go_enter Tryz.func50, Tryz.ntmps50
        go_wp2_with fail
        go_quiet (fail)
        have HU := Lib.hid ((Upd.refl [] w).drewN nq)
        generalize w.drewN nq = w1 at *
        have d1 := HU.out.cell c1 (by simp)
        have d0 := HU.out.cell hc0' (by simp)
        go_wp2_with fail
        with_reducible refine (rWrong_any _ at_ 3 _ 3 rfl rfl (H.out.upd HU.out) hat (by decide)).mono ?_
        rintro e w2 ⟨rfl, h2, hu2⟩
        go_wp2_with fail
        go_ret
        exact ⟨by rw [HR.out]; rfl, by rw [HR.out]; exact h2, HU.out.trans hu2 (by simp) (by simp)⟩
set_option maxHeartbeats 4000000 in
/-- A number whose bytes are all there. -/
theorem rNumIn_any (w : World) (at_ : Nat) (c : UInt8) (t : List UInt8) (h : RdrAt 165 base w g v B (at_, 0)) (hr : B.drop at_ = c :: t) (h8 : ¬ 8 < c.toNat) (hsh : ¬ t.length < c.toNat) :
    Calls Tryz.prog 50 #[.pointer (some ⟨g, 0, none⟩)] w fun x w' => x = .returned (.int .i64 ((rdNum B (at_, 0)).1 : Int)) ∧ RdrAt 165 base w' g v B (rdNum B (at_, 0)).2 ∧ Upd [g] w w' := by
  have H := Lib.hid h
  obtain ⟨a, k, rfl, -⟩ := h.own.rd
  have c0 : w.cell? ⟨g, 0, none⟩ = some (.slice a B.length k) := h.cells.cell 0
  have c1 : w.cell? ⟨g, 1, none⟩ = some (.int .i64 (at_ : Int)) := h.cells.cell 1
  have c2 : w.cell? ⟨g, 2, none⟩ = some (.int .i64 0) := h.cells.cell 2
  have hat : at_ ≤ B.length := h.at_
  have hsz := h.sz
  have hcut := run_cut (P := Tryz.prog) Tryz.underlying28 sizeByte a B.length k at_ hat
  simp only [Nat.mul_one] at hcut
  have HD := Lib.hid (h.own.rd.drop at_ hat)
  have hrl : B.length - at_ = (B.drop at_).length := by rw [List.length_drop]
  have HN : Hid (_ = _) := rdNum_0 B at_
  rw [hrl] at HD hcut
  have hrs : (B.drop at_).length ≤ 140737488351232 := by rw [List.length_drop]; omega
  have hrs2 : (B.drop at_).length + at_ = B.length := by rw [List.length_drop]; omega
  rw [hr] at HD hcut hrs HN hrs2
  have hkr : (c :: t).length ≤ k - at_ := by obtain ⟨_, _, he, h1, _⟩ := HD.out; have := (Value.slice.inj he).2.2; omega
  generalize (if k = at_ then a else a.map (·.add at_)) = ar at *
  generalize k - at_ = kr at *
  clear hrl h hr
  obtain ⟨b, off, hae, hc0⟩ := HD.out.at_ 0 (by simp)
  subst hae
  rw [nth_cons_zero] at hc0
  have hc0' : w.cell? ⟨b, off, none⟩ = some (bv c) := hc0
  have HT := Lib.hid (fun j (hj : j < t.length) => show w.cell? ⟨b, off + 1 + j, none⟩ = some (bv (nth t j)) by
    obtain ⟨b', off', he, hcj⟩ := HD.out.at_ (j + 1) (by simp; omega)
    cases he
    rw [nth_cons_succ] at hcj
    rwa [Nat.add_assoc, Nat.add_comm 1 j])
  have hlen : (c :: t).length = t.length + 1 := rfl
  rw [hlen] at hcut hrs hkr hrs2
  have hlt := c.toNat_lt
  have q8 : ¬ (8 : Int) < c.toNat := by omega
  have qs : ¬ (t.length : Int) + 1 < 1 + c.toNat := by omega
  have hc2 := fun W => run_cut_lh (P := Tryz.prog) Tryz.underlying28 sizeByte (some ⟨b, off, none⟩) (t.length + 1) kr 1 (1 + c.toNat) (by omega) (by omega) W 1 (1 + (c.toNat : Int)) rfl (by omega)
  simp only [Nat.mul_one, Nat.add_sub_cancel_left] at hc2
  have HA1 : Hid (0 < c.toNat → (if kr = 1 then (some ⟨b, off, none⟩ : Option Addr) else (some ⟨b, off, none⟩ : Option Addr).map (·.add 1)) = some ⟨b, off + 1, none⟩) := fun hc => by rw [if_neg (by omega)]; simp [add_none]
  generalize (if kr = 1 then (some ⟨b, off, none⟩ : Option Addr) else (some ⟨b, off, none⟩ : Option Addr).map (·.add 1)) = a1 at *
  rw [numAt_cons, if_neg h8, if_neg hsh] at HN
  have HB7 := Lib.hid (fun j (hj : j ≤ 7) => beN_take_lt t j hj)
  have HBS := Lib.hid (fun j (hj : j < t.length) => beN_take_succ t j hj)
  generalize hcn : c.toNat = cn at *
  go_enter Tryz.func50, Tryz.ntmps50
  go_wp2_with fail
  go_quiet (fail)
  have HU := Lib.hid ((Upd.refl [] w).drewN nq)
  generalize w.drewN nq = w1 at *
  have d1 := HU.out.cell c1 (by simp)
  have d0 := HU.out.cell hc0' (by simp)
  go_wp2_with fail
  have hHN : Hid (rdNum B (at_, 0) = if (0 < cn ∧ nth t 0 = 0) ∨ 9223372036854775808 ≤ beN (t.take cn) then (0, at_, 4) else (beN (t.take cn), at_ + (1 + cn), 0)) := by
    unfold Hid; rw [HN.out]; split <;> simp
  clear HN
  have hcn8 : cn ≤ 8 := by omega
  have hcnt : cn ≤ t.length := by omega
  go_loop [5, 7, 59] (fun u x i => ∃ j : Nat, i = .int .i64 (j : Int) ∧ j ≤ cn ∧ u = .int .u64 ((beN (t.take j) : Nat) : Int)) (fun _ _ i => cn - (intOf i).toNat)
  case atStart => exact ⟨0, rfl, Nat.zero_le _, rfl⟩
  case round =>
    obtain ⟨j, rfl, hj, rfl⟩ := hrel
    by_cases hlj : j < cn
    · have ha1 := HA1.out (by omega)
      subst ha1
      have hcj := HU.out.cell (HT.out j (by omega)) (by simp)
      have HST := Lib.hid ((or64 (beN (t.take j)) (nth t j) (HB7.out j (by omega))).trans (by rw [← HBS.out j (by omega)]))
      generalize nth t j = x at *
      obtain ⟨n, HNE⟩ : ∃ n, Hid (beN (t.take j) = n) := ⟨_, rfl⟩
      rw [HNE.out] at HST
      rw [HNE.out]
      go_wp2_with fail
      go_round
      case rel => exact ⟨j + 1, by go_num, by omega, congrArg _ HST.out⟩
      case measure => simp [intOf]; omega
    · obtain rfl : j = cn := by omega
      have hU64 : beN (t.take j) < 18446744073709551616 := by
        have h1 := beN_lt (t.take j)
        have h2 : (256 : Nat) ^ (t.take j).length ≤ 256 ^ 8 := Nat.pow_le_pow_right (by decide) (by rw [List.length_take]; omega)
        have h3 : (256 : Nat) ^ 8 = 18446744073709551616 := by decide
        omega
      have h0U : j = 0 → beN (t.take j) = 0 := fun e => by subst e; rfl
      generalize beN (t.take j) = U at *
      by_cases hA : 0 < j ∧ nth t 0 = 0
      · have HR : Hid (rdNum B (at_, 0) = (0, at_, 4)) := hHN.out.trans (if_pos (.inl hA))
        obtain ⟨hA1, hA2⟩ := hA
        have hcj : w1.cell? ⟨b, off + 1, none⟩ = some (bv 0) := by have := HU.out.cell (HT.out 0 (by omega)) (by simp); rw [hA2] at this; exact this
        have q1 : (0 : Int) < j := by omega
        have q2 : (1 : Int) < (t.length : Int) + 1 := by omega
        clear hA2
        go_wp2_with fail
        with_reducible refine (rWrong_any _ at_ 4 _ 4 rfl rfl (H.out.upd HU.out) hat (by decide)).mono ?_
        rintro e w2 ⟨rfl, h2, hu2⟩
        go_wp2_with fail
        go_ret
        exact ⟨by rw [HR.out]; rfl, by rw [HR.out]; exact h2, HU.out.trans hu2 (by simp) (by simp)⟩
      · have hx : (j = 0 ∧ U = 0) ∨ (0 < j ∧ nth t 0 ≠ 0) := by
          rcases Nat.eq_zero_or_pos j with e | e
          · exact .inl ⟨e, h0U e⟩
          · exact .inr ⟨e, fun q => hA ⟨e, q⟩⟩
        have hN2 : Hid (rdNum B (at_, 0) = if 9223372036854775808 ≤ U then (0, at_, 4) else (U, at_ + (1 + j), 0)) := by
          unfold Hid; rw [hHN.out]
          by_cases hq : 9223372036854775808 ≤ U
          · rw [if_pos (.inr hq), if_pos hq]
          · rw [if_neg (by rintro (q | q); exact hA q; exact hq q), if_neg hq]
        clear hHN hA
        rcases hx with ⟨rfl, rfl⟩ | ⟨hj0, ht0⟩
        · have HR : Hid (rdNum B (at_, 0) = (0, at_ + 1, 0)) := hN2.out.trans (by simp)
          have HS := Lib.hid ((H.out.upd HU.out).set1 (by decide) (at_ + 1) (by omega))
          have HSU := Lib.hid ((Upd.mono (T := [g]) HU.out (by simp)).setCell ⟨g, 1, none⟩ (.int .i64 ((at_ + 1 : Nat) : Int)) (.inl (by simp)))
          have hfr := (H.out.upd HU.out).cells.frozen 1
          have hc1' : ((at_ + 1 : Nat) : Int) = (at_ : Int) + 1 := by omega
          rw [hc1'] at HS HSU
          clear hN2 hc1'
          go_wp2_with fail
          go_ret
          exact ⟨by rw [HR.out]; rfl, by rw [HR.out]; exact HS.out, HSU.out⟩
        · have hcj : w1.cell? ⟨b, off + 1, none⟩ = some (bv (nth t 0)) := HU.out.cell (HT.out 0 (by omega)) (by simp)
          have hx0 : (((nth t 0).toNat : Int) == 0) = false := by
            rw [beq_eq_false_iff_ne]; intro e; exact ht0 (UInt8.toNat_inj.1 (show (nth t 0).toNat = 0 by omega))
          generalize nth t 0 = x0 at *
          have q1 : (0 : Int) < j := by omega
          have q2 : (1 : Int) < (t.length : Int) + 1 := by omega
          clear ht0
          by_cases hq : 9223372036854775808 ≤ U
          · have HR : Hid (rdNum B (at_, 0) = (0, at_, 4)) := hN2.out.trans (if_pos hq)
            have hU1 : (U : Int) / 9223372036854775808 = 1 := by omega
            clear hN2
            go_wp2_with fail
            with_reducible refine (rWrong_any _ at_ 4 _ 4 rfl rfl (H.out.upd HU.out) hat (by decide)).mono ?_
            rintro e w2 ⟨rfl, h2, hu2⟩
            go_wp2_with fail
            go_ret
            exact ⟨by rw [HR.out]; rfl, by rw [HR.out]; exact h2, HU.out.trans hu2 (by simp) (by simp)⟩
          · have HR : Hid (rdNum B (at_, 0) = (U, at_ + (1 + j), 0)) := hN2.out.trans (if_neg hq)
            have hU1 : (U : Int) / 9223372036854775808 = 0 := by omega
            have HS := Lib.hid ((H.out.upd HU.out).set1 (by decide) (at_ + (1 + j)) (by omega))
            have HSU := Lib.hid ((Upd.mono (T := [g]) HU.out (by simp)).setCell ⟨g, 1, none⟩ (.int .i64 ((at_ + (1 + j) : Nat) : Int)) (.inl (by simp)))
            have hfr := (H.out.upd HU.out).cells.frozen 1
            have hc1' : ((at_ + (1 + j) : Nat) : Int) = (at_ : Int) + (1 + (j : Int)) := by omega
            rw [hc1'] at HS HSU
            clear hN2 hc1'
            go_wp2_with fail
            go_ret
            exact ⟨by rw [HR.out]; rfl, by rw [HR.out]; exact HS.out, HSU.out⟩
theorem rNum_any (w : World) (h : RdrAt 165 base w g v B s) :
    Calls Tryz.prog 50 #[.pointer (some ⟨g, 0, none⟩)] w fun x w' => x = .returned (.int .i64 ((rdNum B s).1 : Int)) ∧ RdrAt 165 base w' g v B (rdNum B s).2 ∧ Upd [g] w w' := by
  by_cases hs : s.2 = 0
  · cases hr : B.drop s.1 with
    | nil => exact rNumBad_any w h (.inr ⟨hs, .inl hr⟩)
    | cons c t =>
      by_cases hb : 8 < c.toNat ∨ t.length < c.toNat
      · exact rNumBad_any w h (.inr ⟨hs, .inr ⟨c, t, hr, hb⟩⟩)
      · obtain ⟨k, e⟩ := s
        dsimp only at hs hr
        subst hs
        exact rNumIn_any w k c t h hr (fun q => hb (.inl q)) (fun q => hb (.inr q))
  · exact rNumBad_any w h (.inl hs)
end
end Go.Proofs.YtmhojaiajhdlcaaGreat
namespace Go.Proofs.YtmhojaiajhdlcaaGreat
open Go.RowKit
set_option linter.unusedSimpArgs false
set_option linter.unusedVariables false

/-- A later world in which what was there is as it was. -/
structure Wx (w : World) where
  val : World
  prop : Upd [] w val
instance (w : World) : Inhabited (Wx w) := ⟨⟨w, Upd.refl [] w⟩⟩
theorem Wx.cell {w : World} {p : Addr} {v : Value} (h : w.cell? p = some v) (x : Wx w) : x.val.cell? p = some v := x.prop.cell h (by simp)
section
variable {P : Program} {w : World} {x : Wx w} {f : FuncId} {args : Array Value} {v : Value}
theorem Wx.upd (h : Calls P f args x.val fun e w' => e = .returned v ∧ Upd [] x.val w') : Calls P f args x.val fun e w'' => e = .returned v ∧ ∃ y : Wx w, w'' = y.val :=
  h.mono fun _ w' ⟨he, hu⟩ => ⟨he, ⟨w', x.prop.seq hu⟩, rfl⟩
theorem Wx.draws (h : Calls P f args x.val fun e w' => e = .returned v ∧ ∃ n, w' = x.val.drewN n) : Calls P f args x.val fun e w'' => e = .returned v ∧ ∃ y : Wx w, w'' = y.val :=
  h.mono fun _ w' ⟨he, n, hw⟩ => ⟨he, ⟨w', by rw [hw]; exact x.prop.drewN n⟩, rfl⟩
theorem Wx.same (h : Calls P f args x.val fun e w' => e = .returned v ∧ x.val = w') : Calls P f args x.val fun e w'' => e = .returned v ∧ ∃ y : Wx w, w'' = y.val :=
  h.mono fun _ w' ⟨he, hw⟩ => ⟨he, x, hw.symm⟩
theorem wp_region_wx {ops : List Oper} {id : Nat} {Q : Exit → Act → World → Prop} {a : Act} (hm : P.follows .mixedOrders = true) (hB : Region.lexB .any ops.toArray = true)
    (h : wpQuiet P ops.toArray (fun w' => ∃ x : Wx w, w' = x.val) (fun a' => ∀ w', (∃ x : Wx w, w' = x.val) → Q .normal a' w') ops a) : (Code.region id ops.toArray true).wp P Q a w :=
  wp_region_quiet (C := fun w' => ∃ x : Wx w, w' = x.val) hm hB ⟨⟨w.drew, (Upd.refl [] w).drew⟩, rfl⟩ (by simpa using h)
end
end Go.Proofs.YtmhojaiajhdlcaaGreat
namespace Go.Proofs.YtmhojaiajhdlcaaGreat
open Go.RowKit
set_option linter.unusedSimpArgs false
set_option linter.unusedVariables false
section
variable {base : Nat} {g : Nat} {v : Value} {B : List UInt8} {s : RSt}
theorem Upd.gg {g : Nat} {a b c : World} (h : Upd [g] a b) (k : Upd [g] b c) : Upd [g] a c := h.trans k (fun x hx => hx) (fun x hx => .inl hx)
theorem Upd.up {g : Nat} {a b : World} (h : Upd [] a b) : Upd [g] a b := h.mono (by simp)
set_option maxHeartbeats 2000000 in
theorem rUpto_any (w : World) (most : Int) (hm : I64 most) (h : RdrAt 165 base w g v B s) :
    Calls Tryz.prog 101 #[.pointer (some ⟨g, 0, none⟩), .int .i64 most] w fun x w' => x = .returned (.int .i64 ((rdUpto B most s).1 : Int)) ∧ RdrAt 165 base w' g v B (rdUpto B most s).2 ∧ Upd [g] w w' := by
  have H := Lib.hid h
  have c1 : w.cell? ⟨g, 1, none⟩ = some (.int .i64 (s.1 : Int)) := h.cells.cell 1
  have hat := h.at_
  have hle := rdNum_le B s h.at_ h.er
  go_enter Tryz.func101, Tryz.ntmps101
  go_wp2_with fail
  with_reducible refine (rNum_any _ H.out).mono ?_
  rintro e w1 ⟨rfl, h1, hu1⟩
  have c2 := h1.cells.cell 2
  have HU1 := Lib.hid hu1
  have H1 := Lib.hid h1
  clear h1 hu1 h
  by_cases hb : (rdNum B s).2.2 = 0 ∧ most < ((rdNum B s).1 : Int)
  · have HR : Hid (rdUpto B most s = (0, s.1, 2)) := if_pos hb
    obtain ⟨hb1, hb2⟩ := hb
    generalize rdNum B s = r at *
    obtain ⟨n, at1, er1⟩ := r
    dsimp only at hb1 hb2 hle
    subst hb1
    replace c2 : w1.cell? ⟨g, 2, none⟩ = some (.int .i64 0) := c2
    dsimp only
    go_wp2_with fail
    with_reducible refine (rWrong_any _ s.1 2 _ 2 rfl rfl H1.out hat (by decide)).mono ?_
    rintro e w2 ⟨rfl, h2, hu2⟩
    go_wp2_with fail
    go_ret
    exact ⟨by rw [HR.out]; rfl, by rw [HR.out]; exact h2, HU1.out.gg hu2⟩
  · have HR : Hid (rdUpto B most s = rdNum B s) := if_neg hb
    generalize rdNum B s = r at *
    obtain ⟨n, at1, er1⟩ := r
    dsimp only at hb hle
    replace c2 : w1.cell? ⟨g, 2, none⟩ = some (.int .i64 (er1 : Int)) := c2
    dsimp only
    by_cases he : er1 = 0
    · subst he
      have hb2 : ¬ most < (n : Int) := fun q => hb ⟨rfl, q⟩
      replace c2 : w1.cell? ⟨g, 2, none⟩ = some (.int .i64 0) := c2
      clear hb
      go_wp2_with fail
      go_ret
      exact ⟨by rw [HR.out]; rfl, by rw [HR.out]; exact H1.out, HU1.out⟩
    · have he2 : ((er1 : Int) == 0) = false := by rw [beq_eq_false_iff_ne]; omega
      clear hb he
      go_wp2_with fail
      go_ret
      exact ⟨by rw [HR.out]; rfl, by rw [HR.out]; exact H1.out, HU1.out⟩
set_option maxHeartbeats 2000000 in
theorem rEnd_any (w : World) (h : RdrAt 165 base w g v B s) :
    Calls Tryz.prog 52 #[.pointer (some ⟨g, 0, none⟩)] w fun x w' => x = .returned (.int .i64 ((rdEnd B s).2 : Int)) ∧ RdrAt 165 base w' g v B (rdEnd B s) ∧ Upd [g] w w' := by
  have H := Lib.hid h
  obtain ⟨a, k, rfl, -⟩ := h.own.rd
  have c0 : w.cell? ⟨g, 0, none⟩ = some (.slice a B.length k) := h.cells.cell 0
  have c1 : w.cell? ⟨g, 1, none⟩ = some (.int .i64 (s.1 : Int)) := h.cells.cell 1
  have c2 : w.cell? ⟨g, 2, none⟩ = some (.int .i64 (s.2 : Int)) := h.cells.cell 2
  have hat := h.at_
  obtain ⟨at_, er⟩ := s
  dsimp only at *
  clear h
  by_cases hb : er = 0 ∧ at_ < B.length
  · have HR : Hid (rdEnd B (at_, er) = (at_, 5)) := if_pos hb
    obtain ⟨rfl, hb2⟩ := hb
    replace c2 : w.cell? ⟨g, 2, none⟩ = some (.int .i64 0) := c2
    have hb3 : (at_ : Int) < B.length := by omega
    go_enter Tryz.func52, Tryz.ntmps52
    go_wp2_with fail
    go_quiet (fail)
    have HU := Lib.hid ((Upd.refl [] w).drewN nq)
    generalize w.drewN nq = w1 at *
    have d2 := HU.out.cell c2 (by simp)
    have hfr := (H.out.upd HU.out).cells.frozen 2
    have HS := Lib.hid ((H.out.upd HU.out).set2 (by decide) 5 (by decide))
    have HSU := Lib.hid ((Upd.up (g := g) HU.out).setCell ⟨g, 2, none⟩ (.int .i64 ((5 : Nat) : Int)) (.inl (by simp)))
    go_wp2_with fail
    go_ret
    exact ⟨by rw [HR.out]; rfl, by rw [HR.out]; exact HS.out, HSU.out⟩
  · have HR : Hid (rdEnd B (at_, er) = (at_, er)) := if_neg hb
    by_cases he : er = 0
    · subst he
      have hb3 : ¬ (at_ : Int) < B.length := fun q => hb ⟨rfl, by omega⟩
      replace c2 : w.cell? ⟨g, 2, none⟩ = some (.int .i64 0) := c2
      clear hb
      go_enter Tryz.func52, Tryz.ntmps52
      go_wp2_with fail
      go_quiet (fail)
      have HU := Lib.hid ((Upd.refl [] w).drewN nq)
      generalize w.drewN nq = w1 at *
      have d2 := HU.out.cell c2 (by simp)
      go_wp2_with fail
      go_ret
      exact ⟨by rw [HR.out]; rfl, by rw [HR.out]; exact H.out.upd HU.out, HU.out.up⟩
    · have he2 : ((er : Int) == 0) = false := by rw [beq_eq_false_iff_ne]; omega
      clear hb he
      go_enter Tryz.func52, Tryz.ntmps52
      go_wp2_with fail
      go_quiet (fail)
      have HU := Lib.hid ((Upd.refl [] w).drewN nq)
      generalize w.drewN nq = w1 at *
      have d2 := HU.out.cell c2 (by simp)
      go_wp2_with fail
      go_ret
      exact ⟨by rw [HR.out]; rfl, by rw [HR.out]; exact H.out.upd HU.out, HU.out.up⟩
theorem rRead_any (w : World) (u : Value) (l : List UInt8) (h : Bytes w u l) (hz : l.length ≤ 140737488351232) :
    Calls Tryz.prog 49 #[u] w fun x w' => ∃ g v, x = .returned (.pointer (some ⟨g, 0, none⟩)) ∧ RdrAt 165 w.heap.size w' g v l (0, 0) ∧ Upd [] w w' := by
  have H := Lib.hid h
  obtain ⟨a, cap, rfl, -, -, -⟩ := h
  go_enter Tryz.func49, Tryz.ntmps49
  go_wp2_with (at_builtin; refine wpList_app bv_one rfl (.const (.slice none 0 0)) (.tmp 3) rfl Tryz.underlying28 infoByte rfl (.slice none 0 0) (.slice a l.length cap) [] l rfl rfl (Own.nil w.heap.size _ _) H.out (by simp; omega) (by unfold maxLen; simp; omega) (Nat.le_refl _) ?_; intro v3 w3 ho hu hbk; rw [List.nil_append] at ho; have HU3 : Hid (Upd [] w w3) := (Upd.refl [] w).trans hu (by simp) (by simp [blk]); have HO3 := Lib.hid ho; obtain ⟨a3, c3, rfl, -⟩ := ho.rd; clear ho hu hbk)
  go_ret
  exact ⟨_, _, rfl, ⟨Blk.new w3 _ [.slice a3 l.length c3, .int .i64 0, .int .i64 0], HO3.out.upd ((Upd.refl [] w3).alloc _) (by simp), HU3.out.size, Nat.zero_le _, Nat.zero_le _, hz⟩, HU3.out.alloc _⟩
end
end Go.Proofs.YtmhojaiajhdlcaaGreat
namespace Go.Proofs.YtmhojaiajhdlcaaGreat
open Go.RowKit
set_option linter.unusedSimpArgs false
set_option linter.unusedVariables false
theorem infoInt8 : (Tryz.prog.info? 3).map (fun i => (i.zero, i.size, i.bytes)) = some (some (.int .i64 0), 1, 8) := by kernel_rfl
theorem strOf_nil : strOf [] = ⟨#[]⟩ := rfl
section
variable {base : Nat} {g : Nat} {v : Value} {B : List UInt8} {s : RSt}
set_option maxHeartbeats 4000000 in
theorem rText_any (w : World) (most : Int) (hm : I64 most) (h : RdrAt 165 base w g v B s) :
    Calls Tryz.prog 51 #[.pointer (some ⟨g, 0, none⟩), .int .i64 most] w fun x w' => x = .returned (.string (strOf (rdText B most s).1)) ∧ RdrAt 165 base w' g v B (rdText B most s).2 ∧ Upd [g] w w' := by
  have H := Lib.hid h
  obtain ⟨a, k, rfl, hBk, -⟩ := h.own.rd
  have c1 : w.cell? ⟨g, 1, none⟩ = some (.int .i64 (s.1 : Int)) := h.cells.cell 1
  have hat := h.at_
  have hsz := h.sz
  have hle := rdUpto_le B most s h.at_ h.er
  go_enter Tryz.func51, Tryz.ntmps51
  go_wp2_with fail
  with_reducible refine (rUpto_any _ most hm H.out).mono ?_
  rintro e w1 ⟨rfl, h1, hu1⟩
  have c2 := h1.cells.cell 2
  have c0 : w1.cell? ⟨g, 0, none⟩ = some (.slice a B.length k) := h1.cells.cell 0
  have d1 := h1.cells.cell 1
  have HU1 := Lib.hid hu1
  have H1 := Lib.hid h1
  have HT : Hid (rdText B most s = if (rdUpto B most s).2.2 ≠ 0 then ([], (rdUpto B most s).2)
    else if B.length - (rdUpto B most s).2.1 < (rdUpto B most s).1 then ([], s.1, 3)
    else ((B.drop (rdUpto B most s).2.1).take (rdUpto B most s).1, (rdUpto B most s).2.1 + (rdUpto B most s).1, 0)) := rfl
  clear h1 hu1 h
  generalize rdUpto B most s = r at *
  obtain ⟨n, at1, er1⟩ := r
  dsimp only at hle HT
  replace c2 : w1.cell? ⟨g, 2, none⟩ = some (.int .i64 (er1 : Int)) := c2
  replace d1 : w1.cell? ⟨g, 1, none⟩ = some (.int .i64 (at1 : Int)) := d1
  dsimp only
  by_cases he : er1 = 0
  · subst he
    replace c2 : w1.cell? ⟨g, 2, none⟩ = some (.int .i64 0) := c2
    have HT := Lib.hid (HT.out.trans (if_neg (by simp)))
    have hat1 : at1 ≤ B.length := hle.2.2.1
    by_cases hb : B.length - at1 < n
    · have HR := Lib.hid (HT.out.trans (if_pos hb))
      have hb2 : (B.length : Int) - at1 < n := by omega
      clear HT
      go_wp2_with fail
      go_quiet (fail)
      have HU := Lib.hid ((Upd.refl [] w1).drewN nq)
      generalize w1.drewN nq = w2 at *
      go_wp2_with fail
      with_reducible refine (rWrong_any _ s.1 3 _ 3 rfl rfl (H1.out.upd HU.out) hat (by decide)).mono ?_
      rintro e w3 ⟨rfl, h3, hu3⟩
      go_wp2_with fail
      go_ret
      exact ⟨by rw [HR.out, strOf_nil]; rfl, by rw [HR.out]; exact h3, (HU1.out.gg HU.out.up).gg hu3⟩
    · have HR := Lib.hid (HT.out.trans (if_neg hb))
      have hb2 : ¬ (B.length : Int) - at1 < n := by omega
      have hc2 := fun W => run_cut_lh (P := Tryz.prog) Tryz.underlying28 sizeByte a B.length k at1 (at1 + n) (by omega) (by omega) W (at1 : Int) ((at1 : Int) + (n : Int)) rfl (by omega)
      simp only [Nat.mul_one, Nat.add_sub_cancel_left] at hc2
      have HP := Lib.hid (H1.out.own.rd.sub at1 (at1 + n) (by omega) (by omega))
      rw [Nat.add_sub_cancel_left] at HP
      generalize (if k = at1 then a else a.map (·.add at1)) = a2 at *
      generalize (B.drop at1).take n = pl at *
      clear HT
      go_wp2_with fail
      go_quiet (fail)
      have HU := Lib.hid ((Upd.refl [] w1).drewN nq)
      generalize w1.drewN nq = w2 at *
      have d2 := HU.out.cell d1 (by simp)
      have e0 : ∀ x : Wx w2, x.val.cell? ⟨g, 0, none⟩ = some (.slice a B.length k) := Wx.cell (HU.out.cell c0 (by simp))
      have e1 : ∀ x : Wx w2, x.val.cell? ⟨g, 1, none⟩ = some (.int .i64 (at1 : Int)) := Wx.cell d2
      have hcv : ∀ x : Wx w2, (convert 28 9 (.slice a2 n (k - at1))).run Tryz.prog x.val = .ok (.string (strOf pl)) x.val := fun x => convb_str Tryz.underlying28 Tryz.underlying5 Tryz.underlying9 _ _ _ ((HP.out.upd0 HU.out).upd0 x.prop)
      go_wp2_with fail
      refine wp_region_wx (by kernel_rfl) (by kernel_rfl) ?_
      repeat (go_big_quiet_step (fail))
      refine wpQuiet_nil ?_
      rintro _ ⟨x, rfl⟩
      have HX := Lib.hid (HU.out.seq x.prop)
      have d3 := e1 x
      have hfr := (H1.out.upd HX.out).cells.frozen 1
      have HS := Lib.hid ((H1.out.upd HX.out).set1 (by decide) (at1 + n) (by omega))
      have HSU := Lib.hid ((HU1.out.gg (Upd.up (g := g) HX.out)).setCell ⟨g, 1, none⟩ (.int .i64 ((at1 + n : Nat) : Int)) (.inl (by simp)))
      have hc1' : ((at1 + n : Nat) : Int) = (at1 : Int) + n := by omega
      rw [hc1'] at HS HSU
      generalize x.val = w4 at *
      clear hc1' e0 e1 hcv
      go_wp2_with fail
      go_ret
      exact ⟨by rw [HR.out]; rfl, by rw [HR.out]; exact HS.out, HSU.out⟩
  · have he2 : ((er1 : Int) != 0) = true := by rw [bne_iff_ne]; omega
    have HR := Lib.hid (HT.out.trans (if_pos he))
    clear HT he
    go_wp2_with fail
    go_ret
    exact ⟨by rw [HR.out, strOf_nil]; rfl, by rw [HR.out]; exact H1.out, HU1.out⟩
end
end Go.Proofs.YtmhojaiajhdlcaaGreat
