/- Texts of the proof, joined: Chapter 25 as plain law: records, their bytes, and back. A rule's name: the program's look at it. Which records may be: the program's look. Chapter 25: the keys of a ledger as a map. Slices whose elements have several cells. Slices of the call's own whose elements have several cells. Footprints that share no block. Chapter 25: a ledger in memory; is a key there?. append onto a list of the call's own, at the run, at a step of a region that draws, and at a plain list. Chapter 25: a record more. A slice cut at its beginning, or at its end: the run. -/
import Derived.Test.YtmhojaiajhdlcaaGreatMp1
import Derived.ChangeKeysEq
import Derived.Maps.OwnOps
import Derived.Maps.Views
import Derived.DeepKeys4
import Derived.Deep.RegionHeld3
import Derived.StillTailTactics
import Derived.Deep.RegionLaw
namespace Go.Proofs.YtmhojaiajhdlcaaGreat
open Go.RowKit
set_option linter.unusedSimpArgs false
set_option linter.unusedVariables false
/-- Ten places. -/
abbrev C10 := {l : List Int // l.length = 10}
def c10z : C10 := ⟨[0, 0, 0, 0, 0, 0, 0, 0, 0, 0], rfl⟩
structure Key where
  ino : Int
  gen : Int
  at_ : Int
  rule : ByteArray
structure Rec where
  key : Key
  kind : Int
  caps : C10
theorem Key.ext' {a b : Key} (h1 : a.ino = b.ino) (h2 : a.gen = b.gen) (h3 : a.at_ = b.at_) (h4 : a.rule = b.rule) : a = b := by
  obtain ⟨a1, a2, a3, a4⟩ := a
  obtain ⟨b1, b2, b3, b4⟩ := b
  dsimp only at h1 h2 h3 h4
  rw [h1, h2, h3, h4]
instance : DecidableEq Key := fun a b => decidable_of_iff (a.ino = b.ino ∧ a.gen = b.gen ∧ a.at_ = b.at_ ∧ a.rule = b.rule) ⟨fun h => Key.ext' h.1 h.2.1 h.2.2.1 h.2.2.2, fun h => by rw [h]; exact ⟨rfl, rfl, rfl, rfl⟩⟩
theorem Rec.ext' {a b : Rec} (h1 : a.key = b.key) (h2 : a.kind = b.kind) (h3 : a.caps = b.caps) : a = b := by
  obtain ⟨a1, a2, a3⟩ := a
  obtain ⟨b1, b2, b3⟩ := b
  dsimp only at h1 h2 h3
  rw [h1, h2, h3]
instance : DecidableEq Rec := fun a b => decidable_of_iff (a.key = b.key ∧ a.kind = b.kind ∧ a.caps = b.caps) ⟨fun h => Rec.ext' h.1 h.2.1 h.2.2, fun h => by rw [h]; exact ⟨rfl, rfl, rfl⟩⟩
def kz : Key := ⟨0, 0, 0, ⟨#[]⟩⟩
def rz : Rec := ⟨kz, 0, c10z⟩
instance : Inhabited Key := ⟨kz⟩
instance : Inhabited Rec := ⟨rz⟩
abbrev keyCells (k : Key) : List Value := [.int .i64 k.ino, .int .i64 k.gen, .int .i64 k.at_, .string k.rule]
abbrev recCells (r : Rec) : List Value := keyCells r.key ++ .int .i64 r.kind :: r.caps.1.map iv
abbrev keyVal (k : Key) : Value := .agg (keyCells k).toArray
abbrev recVal (r : Rec) : Value := .agg (recCells r).toArray
theorem recCells_len (r : Rec) : (recCells r).length = 15 := by
  have := r.caps.2
  simp [this]
theorem recCells_one : ∀ x, ∀ u ∈ recCells x, u.oneCell' = true := by
  intro x u hu
  simp only [List.mem_append, List.mem_cons, List.not_mem_nil, or_false, List.mem_map] at hu
  rcases hu with (rfl | rfl | rfl | rfl) | rfl | ⟨c, _, rfl⟩ <;> rfl
theorem ten {l : List Int} (h : l.length = 10) : ∃ c0 c1 c2 c3 c4 c5 c6 c7 c8 c9, l = [c0, c1, c2, c3, c4, c5, c6, c7, c8, c9] := by
  match l, h with
  | [c0, c1, c2, c3, c4, c5, c6, c7, c8, c9], _ => exact ⟨c0, c1, c2, c3, c4, c5, c6, c7, c8, c9, rfl⟩
/-- Numbers of a record that are numbers of the machine. -/
structure Rec64 (r : Rec) : Prop where
  ino : I64 r.key.ino
  gen : I64 r.key.gen
  at_ : I64 r.key.at_
  kind : I64 r.kind
  caps : ∀ c ∈ r.caps.1, I64 c
/-- A byte of a rule's name. -/
def ruleCh (c : UInt8) : Bool := decide ((97 ≤ c.toNat ∧ c.toNat ≤ 122) ∨ (65 ≤ c.toNat ∧ c.toNat ≤ 90) ∨ (48 ≤ c.toNat ∧ c.toNat ≤ 57) ∨ c.toNat = 45 ∨ c.toNat = 95 ∨ c.toNat = 46)
def ruleOk (s : ByteArray) : Bool := decide (1 ≤ s.size ∧ s.size ≤ 32 ∧ ∀ j (h : j < s.size), ruleCh s[j] = true)
def capOk (c : Int) : Bool := decide (-1 ≤ c ∧ c ≤ 500)
def recOk (r : Rec) : Bool :=
  decide (1 ≤ r.key.ino ∧ r.key.ino ≤ 12 ∧ 1 ≤ r.key.gen ∧ r.key.gen ≤ 1099511627776 ∧ 0 ≤ r.key.at_ ∧ r.key.at_ ≤ 1099511627776) &&
  (if r.kind = 2 then decide (r.key.rule = ⟨#[]⟩ ∧ r.caps = c10z) else if r.kind = 1 then r.caps.1.all capOk && ruleOk r.key.rule else false)
/-- A record as bytes. -/
def encCaps (l : List Int) : List UInt8 := l.flatMap fun c => encNum (c + 1).toNat
def encRec (r : Rec) : List UInt8 := encNum r.key.ino.toNat ++ encNum r.key.gen.toNat ++ encNum r.key.at_.toNat ++ encText r.key.rule ++ encNum r.kind.toNat ++ encCaps r.caps.1
/-- Ten numbers, each less one. -/
def rdCaps (B : List UInt8) : Nat → RSt → List Int × RSt
  | 0, s => ([], s)
  | n + 1, s => ((rdCaps B n s).1 ++ [((rdNum B (rdCaps B n s).2).1 : Int) - 1], (rdNum B (rdCaps B n s).2).2)
theorem rdCaps_len (B : List UInt8) : ∀ n s, (rdCaps B n s).1.length = n
  | 0, s => rfl
  | n + 1, s => by
    have := rdCaps_len B n s
    simp [rdCaps, this]
def rdA (B : List UInt8) : Nat × RSt := rdNum B (0, 0)
def rdB (B : List UInt8) : Nat × RSt := rdNum B (rdA B).2
def rdC (B : List UInt8) : Nat × RSt := rdNum B (rdB B).2
def rdT (B : List UInt8) : List UInt8 × RSt := rdText B 32 (rdC B).2
def rdK (B : List UInt8) : Nat × RSt := rdNum B (rdT B).2
def rdX (B : List UInt8) : List Int × RSt := rdCaps B 10 (rdK B).2
theorem rdX_len (B : List UInt8) : (rdX B).1.length = 10 := rdCaps_len B 10 _
/-- What is read of bytes, whatever they are. -/
def rawRec (B : List UInt8) : Rec := ⟨⟨(rdA B).1, (rdB B).1, (rdC B).1, strOf (rdT B).1⟩, (rdK B).1, ⟨(rdX B).1, rdX_len B⟩⟩
def getRec (B : List UInt8) : Rec × Bool := if (rdEnd B (rdX B).2).2 = 0 ∧ recOk (rawRec B) = true then (rawRec B, true) else (rz, false)
/-- A reader that is right, and stands ahead of r. -/
structure Ahead (B : List UInt8) (s : RSt) (r : List UInt8) : Prop where
  er : s.2 = 0
  le : s.1 ≤ B.length
  eq : B.drop s.1 = r
theorem Ahead.zero (B : List UInt8) : Ahead B (0, 0) B := ⟨rfl, Nat.zero_le _, rfl⟩
theorem Ahead.step {B : List UInt8} {s : RSt} {a r : List UInt8} (h : Ahead B s (a ++ r)) : Ahead B (s.1 + a.length, 0) r := by
  have hl : (B.drop s.1).length = a.length + r.length := by rw [h.eq, List.length_append]
  rw [List.length_drop] at hl
  have := h.le
  refine ⟨rfl, by show s.1 + a.length ≤ _; omega, ?_⟩
  show B.drop (s.1 + a.length) = r
  rw [← List.drop_drop, h.eq, List.drop_left]
theorem rdNum_at {B : List UInt8} {s : RSt} {n : Nat} {r : List UInt8} (h : Ahead B s (encNum n ++ r)) (hn : n < 9223372036854775808) : ∃ s', rdNum B s = (n, s') ∧ Ahead B s' r := by
  refine ⟨(s.1 + (encNum n).length, 0), ?_, h.step⟩
  unfold rdNum
  rw [h.er, h.eq, numAt_enc n hn r, encNum_len]
  simp
theorem rdText_at {B : List UInt8} {s : RSt} {t r : List UInt8} {most : Int} (h : Ahead B s (encNum t.length ++ (t ++ r))) (hn : t.length < 9223372036854775808) (hm : (t.length : Int) ≤ most) : ∃ s', rdText B most s = (t, s') ∧ Ahead B s' r := by
  obtain ⟨s1, h1, h2⟩ := rdNum_at h hn
  have hu : rdUpto B most s = (t.length, s1) := by
    unfold rdUpto
    rw [h1, if_neg]
    rintro ⟨_, q⟩
    dsimp only at q; omega
  have hl : (B.drop s1.1).length = t.length + r.length := by rw [h2.eq, List.length_append]
  rw [List.length_drop] at hl
  refine ⟨(s1.1 + t.length, 0), ?_, h2.step⟩
  unfold rdText
  rw [hu]
  dsimp only
  rw [if_neg (by rw [h2.er]; simp), if_neg (by omega), h2.eq, List.take_left]
theorem encCaps_cons (c : Int) (l : List Int) : encCaps (c :: l) = encNum (c + 1).toNat ++ encCaps l := rfl
theorem encCaps_app (l m : List Int) : encCaps (l ++ m) = encCaps l ++ encCaps m := by unfold encCaps; rw [List.flatMap_append]
theorem rdCaps_at {B : List UInt8} {l : List Int} {s : RSt} {r : List UInt8} (hc : ∀ c ∈ l, -1 ≤ c ∧ c < 9223372036854775807) (h : Ahead B s (encCaps l ++ r)) : ∀ n, n ≤ l.length → ∃ s', rdCaps B n s = (l.take n, s') ∧ Ahead B s' (encCaps (l.drop n) ++ r)
  | 0, _ => ⟨s, by simp [rdCaps], by simpa using h⟩
  | n + 1, hn => by
    obtain ⟨s1, h1, h2⟩ := rdCaps_at hc h n (by omega)
    have hd : l.drop n = l[n] :: l.drop (n + 1) := (List.drop_eq_getElem_cons (by omega))
    rw [hd, encCaps_cons, List.append_assoc] at h2
    have hcc := hc l[n] (List.getElem_mem _)
    obtain ⟨s2, h3, h4⟩ := rdNum_at h2 (by omega)
    refine ⟨s2, ?_, h4⟩
    show ((rdCaps B n s).1 ++ [((rdNum B (rdCaps B n s).2).1 : Int) - 1], (rdNum B (rdCaps B n s).2).2) = _
    rw [h1]
    dsimp only
    rw [h3]
    dsimp only
    rw [show (((l[n] + 1).toNat : Nat) : Int) - 1 = l[n] by omega, List.take_succ_eq_append_getElem (by omega)]
theorem rdEnd_at {B : List UInt8} {s : RSt} (h : Ahead B s []) : (rdEnd B s).2 = 0 := by
  have h1 := h.le
  have h2 : (B.drop s.1).length = 0 := by rw [h.eq]; rfl
  rw [List.length_drop] at h2
  unfold rdEnd
  rw [if_neg (by omega)]
  exact h.er
/-- Numbers that a right record has. -/
structure RecIn (r : Rec) : Prop where
  ino : 1 ≤ r.key.ino ∧ r.key.ino ≤ 12
  gen : 1 ≤ r.key.gen ∧ r.key.gen ≤ 1099511627776
  at_ : 0 ≤ r.key.at_ ∧ r.key.at_ ≤ 1099511627776
  kind : r.kind = 1 ∨ r.kind = 2
  caps : ∀ c ∈ r.caps.1, -1 ≤ c ∧ c ≤ 500
  rule : r.key.rule.size ≤ 32
theorem recOk_in {r : Rec} (h : recOk r = true) : RecIn r := by
  unfold recOk at h
  rw [Bool.and_eq_true, decide_eq_true_eq] at h
  obtain ⟨⟨h1, h2, h3, h4, h5, h6⟩, h7⟩ := h
  split at h7
  · rename_i hk
    obtain ⟨e1, e2⟩ := of_decide_eq_true h7
    refine ⟨⟨h1, h2⟩, ⟨h3, h4⟩, ⟨h5, h6⟩, .inr hk, fun c hc => ?_, by rw [e1]; decide⟩
    rw [e2] at hc
    simp [c10z] at hc
    omega
  · split at h7
    · rename_i hk
      rw [Bool.and_eq_true] at h7
      obtain ⟨e1, e2⟩ := h7
      refine ⟨⟨h1, h2⟩, ⟨h3, h4⟩, ⟨h5, h6⟩, .inl hk, fun c hc => ?_, ?_⟩
      · exact of_decide_eq_true (List.all_eq_true.1 e1 c hc)
      · exact (of_decide_eq_true e2).2.1
    · exact absurd h7 (by simp)
theorem strOf_toList (s : ByteArray) : strOf s.data.toList = s := by
  unfold strOf; rfl
theorem size_toList (s : ByteArray) : s.data.toList.length = s.size := by rw [Array.length_toList]; rfl
/-- What is written of a record is read. -/
theorem get_enc {r : Rec} (h : recOk r = true) : getRec (encRec r) = (r, true) := by
  have hi := recOk_in h
  have h0 : Ahead (encRec r) (0, 0) (encNum r.key.ino.toNat ++ (encNum r.key.gen.toNat ++ (encNum r.key.at_.toNat ++ (encNum r.key.rule.data.toList.length ++ (r.key.rule.data.toList ++ (encNum r.kind.toNat ++ (encCaps r.caps.1 ++ []))))))) := by
    have := Ahead.zero (encRec r)
    unfold encRec encText at this ⊢
    simpa only [List.append_assoc, List.append_nil, size_toList] using this
  have i1 := hi.ino
  have i2 := hi.gen
  have i3 := hi.at_
  have i4 := hi.rule
  have i5 := hi.kind
  have i6 := size_toList r.key.rule
  obtain ⟨s1, a1, h1⟩ := rdNum_at h0 (by omega)
  obtain ⟨s2, a2, h2⟩ := rdNum_at h1 (by omega)
  obtain ⟨s3, a3, h3⟩ := rdNum_at h2 (by omega)
  obtain ⟨s4, a4, h4⟩ := rdText_at (most := 32) h3 (by omega) (by omega)
  obtain ⟨s5, a5, h5⟩ := rdNum_at h4 (by omega)
  obtain ⟨s6, a6, h6⟩ := rdCaps_at (fun c hc => by have := hi.caps c hc; omega) h5 10 (by rw [r.caps.2]; omega)
  rw [List.take_of_length_le (by rw [r.caps.2]; omega)] at a6
  rw [List.drop_of_length_le (by rw [r.caps.2]; omega)] at h6
  have e1 : rdA (encRec r) = (r.key.ino.toNat, s1) := a1
  have e2 : rdB (encRec r) = (r.key.gen.toNat, s2) := by unfold rdB; rw [e1]; exact a2
  have e3 : rdC (encRec r) = (r.key.at_.toNat, s3) := by unfold rdC; rw [e2]; exact a3
  have e4 : rdT (encRec r) = (r.key.rule.data.toList, s4) := by unfold rdT; rw [e3]; exact a4
  have e5 : rdK (encRec r) = (r.kind.toNat, s5) := by unfold rdK; rw [e4]; exact a5
  have e6 : rdX (encRec r) = (r.caps.1, s6) := by unfold rdX; rw [e5]; exact a6
  have er : rawRec (encRec r) = r := by
    refine Rec.ext' (Key.ext' ?_ ?_ ?_ ?_) ?_ (Subtype.ext ?_)
    · show ((rdA (encRec r)).1 : Int) = _; rw [e1]; show ((r.key.ino.toNat : Nat) : Int) = _; omega
    · show ((rdB (encRec r)).1 : Int) = _; rw [e2]; show ((r.key.gen.toNat : Nat) : Int) = _; omega
    · show ((rdC (encRec r)).1 : Int) = _; rw [e3]; show ((r.key.at_.toNat : Nat) : Int) = _; omega
    · show strOf (rdT (encRec r)).1 = _; rw [e4]; exact strOf_toList _
    · show ((rdK (encRec r)).1 : Int) = _; rw [e5]; show ((r.kind.toNat : Nat) : Int) = _; omega
    · show (rdX (encRec r)).1 = _; rw [e6]
  unfold getRec
  rw [er, e6, if_pos ⟨rdEnd_at (by simpa [encCaps] using h6), h⟩]
/-- What was read without an error. -/
theorem rdNum_of {B : List UInt8} {s : RSt} (h : (rdNum B s).2.2 = 0) (hs : s.1 ≤ B.length) : s.2 = 0 ∧ (rdNum B s).2.1 ≤ B.length ∧ B.drop s.1 = encNum (rdNum B s).1 ++ B.drop (rdNum B s).2.1 := by
  have hz : s.2 = 0 := by
    rcases Nat.eq_zero_or_pos s.2 with q | q
    · exact q
    · unfold rdNum at h
      rw [if_pos (by omega)] at h
      exact h
  have hn : (numAt (B.drop s.1)).2.2 = 0 := by
    rcases Nat.eq_zero_or_pos (numAt (B.drop s.1)).2.2 with q | q
    · exact q
    · unfold rdNum at h
      rw [if_neg (by omega), if_pos (by omega)] at h
      exact h
  have he : rdNum B s = ((numAt (B.drop s.1)).1, s.1 + (numAt (B.drop s.1)).2.1, 0) := by
    unfold rdNum
    rw [if_neg (by omega), if_neg (by omega)]
  have hu := numAt_used _ hn
  rw [List.length_drop] at hu
  rw [he]
  refine ⟨hz, by dsimp only; omega, ?_⟩
  dsimp only
  rw [enc_of_numAt _ hn, ← List.drop_drop, List.take_append_drop]
theorem rdText_of {B : List UInt8} {m : Int} {s : RSt} (h : (rdText B m s).2.2 = 0) (hs : s.1 ≤ B.length) : s.2 = 0 ∧ (rdText B m s).2.1 ≤ B.length ∧ B.drop s.1 = encNum (rdText B m s).1.length ++ ((rdText B m s).1 ++ B.drop (rdText B m s).2.1) := by
  have hu : (rdUpto B m s).2.2 = 0 := by
    rcases Nat.eq_zero_or_pos (rdUpto B m s).2.2 with q | q
    · exact q
    · unfold rdText at h
      rw [if_pos (by omega)] at h
      exact h
  have he : rdUpto B m s = rdNum B s := by
    unfold rdUpto at hu ⊢
    split at hu
    · exact absurd hu (by simp)
    · rename_i hc; rw [if_neg hc]
  have hl : ¬ B.length - (rdUpto B m s).2.1 < (rdUpto B m s).1 := fun q => by
    unfold rdText at h
    rw [if_neg (by omega), if_pos q] at h
    exact absurd h (by simp)
  have hq : rdText B m s = ((B.drop (rdUpto B m s).2.1).take (rdUpto B m s).1, (rdUpto B m s).2.1 + (rdUpto B m s).1, 0) := by
    unfold rdText
    rw [if_neg (by omega), if_neg hl]
  rw [he] at hq hl hu
  obtain ⟨h1, h2, h3⟩ := rdNum_of hu hs
  rw [hq]
  refine ⟨h1, by dsimp only; omega, ?_⟩
  dsimp only
  have hlen : ((B.drop (rdNum B s).2.1).take (rdNum B s).1).length = (rdNum B s).1 := by rw [List.length_take, List.length_drop]; omega
  rw [hlen, ← List.drop_drop, List.take_append_drop]
  exact h3
theorem rdCaps_of {B : List UInt8} : ∀ (n : Nat) {s : RSt}, (rdCaps B n s).2.2 = 0 → s.1 ≤ B.length → s.2 = 0 ∧ (rdCaps B n s).2.1 ≤ B.length ∧ B.drop s.1 = encCaps (rdCaps B n s).1 ++ B.drop (rdCaps B n s).2.1
  | 0, s, h, hs => ⟨h, hs, by simp [rdCaps, encCaps]⟩
  | n + 1, s, h, hs => by
    have hm : (rdCaps B n s).2.1 ≤ B.length ∨ B.length < (rdCaps B n s).2.1 := by omega
    have h' : (rdNum B (rdCaps B n s).2).2.2 = 0 := h
    have hz : (rdCaps B n s).2.2 = 0 := by
      rcases Nat.eq_zero_or_pos (rdCaps B n s).2.2 with q | q
      · exact q
      · unfold rdNum at h'
        rw [if_pos (by omega)] at h'
        exact h'
    obtain ⟨h1, h2, h3⟩ := rdCaps_of n hz hs
    obtain ⟨k1, k2, k3⟩ := rdNum_of h' h2
    refine ⟨h1, k2, ?_⟩
    show B.drop s.1 = encCaps ((rdCaps B n s).1 ++ [((rdNum B (rdCaps B n s).2).1 : Int) - 1]) ++ B.drop (rdNum B (rdCaps B n s).2).2.1
    rw [h3, k3, encCaps_app, encCaps_cons, List.append_assoc, List.append_assoc]
    rw [show ((((rdNum B (rdCaps B n s).2).1 : Int) - 1 + 1).toNat) = (rdNum B (rdCaps B n s).2).1 by omega]
    simp [encCaps]
theorem rdEnd_of {B : List UInt8} {s : RSt} (h : (rdEnd B s).2 = 0) (hs : s.1 ≤ B.length) : s.2 = 0 ∧ B.drop s.1 = [] := by
  unfold rdEnd at h
  split at h
  · exact absurd h (by simp)
  · rename_i hc
    exact ⟨h, List.drop_of_length_le (by omega)⟩
theorem rdText_le' (B : List UInt8) (m : Int) (s : RSt) (h : s.1 ≤ B.length) (h2 : s.2 ≤ 5) : (rdText B m s).2.1 ≤ B.length ∧ (rdText B m s).2.2 ≤ 5 := by
  have := rdUpto_le B m s h h2
  unfold rdText
  split
  · exact ⟨this.2.2.1, this.2.2.2.1⟩
  · split
    · exact ⟨h, by show 3 ≤ 5; omega⟩
    · exact ⟨by dsimp only; omega, by show 0 ≤ 5; omega⟩
theorem rdCaps_le (B : List UInt8) : ∀ (n : Nat) (s : RSt), s.1 ≤ B.length → s.2 ≤ 5 → (rdCaps B n s).2.1 ≤ B.length ∧ (rdCaps B n s).2.2 ≤ 5
  | 0, s, h, h2 => ⟨h, h2⟩
  | n + 1, s, h, h2 => by
    obtain ⟨k1, k2⟩ := rdCaps_le B n s h h2
    have := rdNum_le B (rdCaps B n s).2 k1 k2
    exact ⟨this.2.2.1, this.2.2.2.1⟩
/-- Where the readings stand. -/
theorem rdAll_le (B : List UInt8) : (rdA B).2.1 ≤ B.length ∧ (rdB B).2.1 ≤ B.length ∧ (rdC B).2.1 ≤ B.length ∧ (rdT B).2.1 ≤ B.length ∧ (rdK B).2.1 ≤ B.length ∧ (rdX B).2.1 ≤ B.length := by
  have a0 := rdNum_le B (0, 0) (Nat.zero_le _) (by show 0 ≤ 5; omega)
  have a : (rdA B).2.1 ≤ B.length ∧ (rdA B).2.2 ≤ 5 := by unfold rdA; exact ⟨a0.2.2.1, a0.2.2.2.1⟩
  have b0 := rdNum_le B (rdA B).2 a.1 a.2
  have b : (rdB B).2.1 ≤ B.length ∧ (rdB B).2.2 ≤ 5 := by unfold rdB; exact ⟨b0.2.2.1, b0.2.2.2.1⟩
  have c0 := rdNum_le B (rdB B).2 b.1 b.2
  have c : (rdC B).2.1 ≤ B.length ∧ (rdC B).2.2 ≤ 5 := by unfold rdC; exact ⟨c0.2.2.1, c0.2.2.2.1⟩
  have t0 := rdText_le' B 32 (rdC B).2 c.1 c.2
  have t : (rdT B).2.1 ≤ B.length ∧ (rdT B).2.2 ≤ 5 := by unfold rdT; exact t0
  have k0 := rdNum_le B (rdT B).2 t.1 t.2
  have k : (rdK B).2.1 ≤ B.length ∧ (rdK B).2.2 ≤ 5 := by unfold rdK; exact ⟨k0.2.2.1, k0.2.2.2.1⟩
  have x0 := rdCaps_le B 10 (rdK B).2 k.1 k.2
  have x : (rdX B).2.1 ≤ B.length := by unfold rdX; exact x0.1
  exact ⟨a.1, b.1, c.1, t.1, k.1, x⟩
/-- Bytes that are read as a record are those that write it. -/
theorem enc_get {B : List UInt8} (h : (getRec B).2 = true) : recOk (getRec B).1 = true ∧ encRec (getRec B).1 = B := by
  unfold getRec at h ⊢
  split at h
  · rename_i hc
    obtain ⟨he, hok⟩ := hc
    rw [if_pos ⟨he, hok⟩]
    refine ⟨hok, ?_⟩
    obtain ⟨l1, l2, l3, l4, l5, l6⟩ := rdAll_le B
    obtain ⟨z6, q7⟩ := rdEnd_of he l6
    have z6' : (rdCaps B 10 (rdK B).2).2.2 = 0 := by unfold rdX at z6; exact z6
    obtain ⟨z5, -, q6⟩ := rdCaps_of (B := B) 10 (s := (rdK B).2) z6' l5
    have p6 : B.drop (rdK B).2.1 = encCaps (rdX B).1 ++ B.drop (rdX B).2.1 := by unfold rdX; exact q6
    have z5' : (rdNum B (rdT B).2).2.2 = 0 := by unfold rdK at z5; exact z5
    obtain ⟨z4, -, q5⟩ := rdNum_of (B := B) (s := (rdT B).2) z5' l4
    have p5 : B.drop (rdT B).2.1 = encNum (rdK B).1 ++ B.drop (rdK B).2.1 := by unfold rdK; exact q5
    have z4' : (rdText B 32 (rdC B).2).2.2 = 0 := by unfold rdT at z4; exact z4
    obtain ⟨z3, -, q4⟩ := rdText_of (B := B) (m := 32) (s := (rdC B).2) z4' l3
    have p4 : B.drop (rdC B).2.1 = encNum (rdT B).1.length ++ ((rdT B).1 ++ B.drop (rdT B).2.1) := by unfold rdT; exact q4
    have z3' : (rdNum B (rdB B).2).2.2 = 0 := by unfold rdC at z3; exact z3
    obtain ⟨z2, -, q3⟩ := rdNum_of (B := B) (s := (rdB B).2) z3' l2
    have p3 : B.drop (rdB B).2.1 = encNum (rdC B).1 ++ B.drop (rdC B).2.1 := by unfold rdC; exact q3
    have z2' : (rdNum B (rdA B).2).2.2 = 0 := by unfold rdB at z2; exact z2
    obtain ⟨z1, -, q2⟩ := rdNum_of (B := B) (s := (rdA B).2) z2' l1
    have p2 : B.drop (rdA B).2.1 = encNum (rdB B).1 ++ B.drop (rdB B).2.1 := by unfold rdB; exact q2
    have z1' : (rdNum B (0, 0)).2.2 = 0 := by unfold rdA at z1; exact z1
    obtain ⟨-, -, q1⟩ := rdNum_of (B := B) (s := (0, 0)) z1' (Nat.zero_le _)
    have p1 : B = encNum (rdA B).1 ++ B.drop (rdA B).2.1 := by unfold rdA; exact q1
    have e : B = encNum (rdA B).1 ++ (encNum (rdB B).1 ++ (encNum (rdC B).1 ++ (encNum (rdT B).1.length ++ ((rdT B).1 ++ (encNum (rdK B).1 ++ (encCaps (rdX B).1 ++ [])))))) := by
      rw [← q7, ← p6, ← p5, ← p4, ← p3, ← p2, ← p1]
    conv => rhs; rw [e]
    unfold encRec encText rawRec
    dsimp only
    have ht : (strOf (rdT B).1).size = (rdT B).1.length := by show ((rdT B).1.toArray).size = _; simp
    have ht2 : (strOf (rdT B).1).data.toList = (rdT B).1 := by simp [strOf]
    rw [ht, ht2]
    simp only [Int.toNat_natCast, List.append_assoc, List.append_nil]
  · exact absurd h (by simp)
theorem encRec_len {r : Rec} (h : recOk r = true) : (encRec r).length ≤ 200 ∧ 0 < (encRec r).length := by
  have hi := recOk_in h
  have hb : ∀ n : Nat, n < 18446744073709551616 → (encNum n).length ≤ 9 ∧ 0 < (encNum n).length := fun n hn => by
    have := nb_le8 n hn; rw [encNum_len]; omega
  have hc : ∀ l : List Int, (∀ c ∈ l, c ≤ 500) → (encCaps l).length ≤ 9 * l.length := by
    intro l
    induction l with
    | nil => intro _; simp [encCaps]
    | cons c l ih =>
      intro hl
      have h1 := ih (fun x hx => hl x (by simp [hx]))
      have h2 := hl c (by simp)
      have h3 := hb (c + 1).toNat (by omega)
      rw [encCaps_cons, List.length_append, List.length_cons]; omega
  have i1 := hi.ino
  have i2 := hi.gen
  have i3 := hi.at_
  have i4 := hi.rule
  have i5 := hi.kind
  have i6 := size_toList r.key.rule
  have b1 := hb r.key.ino.toNat (by omega)
  have b2 := hb r.key.gen.toNat (by omega)
  have b3 := hb r.key.at_.toNat (by omega)
  have b4 := hb r.key.rule.size (by omega)
  have b5 := hb r.kind.toNat (by omega)
  have b6 := hc r.caps.1 (fun c hc => (hi.caps c hc).2)
  rw [r.caps.2] at b6
  unfold encRec encText
  simp only [List.length_append, i6]
  omega
end Go.Proofs.YtmhojaiajhdlcaaGreat
namespace Go.Proofs.YtmhojaiajhdlcaaGreat
open Go.RowKit
set_option linter.unusedSimpArgs false
set_option linter.unusedVariables false
set_option maxRecDepth 20000 in
set_option maxHeartbeats 2000000 in
theorem ledNamed_any (w : World) (s : ByteArray) :
    Calls Tryz.prog 57 #[sv s] w fun e w' => e = .returned (.bool (ruleOk s)) ∧ w = w' := by
  by_cases h1 : s.size < 1
  · have HN : Hid (ruleOk s = false) := by unfold Hid ruleOk; simp; omega
    obtain rfl : s = ⟨#[]⟩ := str_inj _ _ (by rw [strList_eq, strList_eq]; exact List.eq_nil_of_length_eq_zero (by rw [Array.length_toList]; show s.size = 0; omega))
    go_enter Tryz.func57, Tryz.ntmps57
    go_wp2_with fail
    go_ret
    exact ⟨by rw [HN.out]; rfl, rfl⟩
  · have q : (s.toList == ([] : List UInt8)) = false := by
      rw [beq_eq_false_iff_ne, strList_eq]
      intro q
      have := congrArg List.length q
      rw [Array.length_toList] at this
      have : s.size = 0 := this
      omega
    by_cases h2 : s.size ≤ 32
    · have q' : ¬ (32 : Int) < s.size := by omega
      go_enter Tryz.func57, Tryz.ntmps57
      go_wp2_with fail
      go_loopw [15] (fun i wr => ∃ k : Nat, k ≤ s.size ∧ i = .int .i64 k ∧ w = wr ∧ Hid (∀ j (h : j < s.size), j < k → ruleCh s[j] = true)) (fun i _ => s.size - (intOf i).toNat)
      case atStart => exact ⟨0, Nat.zero_le _, rfl, rfl, fun j _ h => absurd h (by omega)⟩
      case round =>
        obtain ⟨k, hk, rfl, rfl, hh⟩ := hrel
        by_cases hlt : k < s.size
        · have q0 : (0 : Int) ≤ k := by omega
          have q1 : (k : Int) < s.size := by omega
          have HT : Hid (ruleCh s[k] = true → ∀ j (h : j < s.size), j < k + 1 → ruleCh s[j] = true) := fun hb j hj hjk => by
            rcases Nat.lt_or_eq_of_le (Nat.le_of_lt_succ hjk) with h | h
            · exact hh.out j hj h
            · subst h; exact hb
          have HF : Hid (ruleCh s[k] = false → ruleOk s = false) := fun hb => by
            unfold ruleOk
            exact decide_eq_false (fun h => by have := h.2.2 k hlt; rw [hb] at this; exact absurd this (by simp))
          obtain ⟨d, hd⟩ : ∃ d : Int, ((s[k]).toNat : Int) = d := ⟨_, rfl⟩
          have HC : Hid (ruleCh s[k] = decide ((97 ≤ d ∧ d ≤ 122) ∨ (65 ≤ d ∧ d ≤ 90) ∨ (48 ≤ d ∧ d ≤ 57) ∨ d = 45 ∨ d = 95 ∨ d = 46)) := by
            unfold Hid ruleCh
            rw [← hd]
            exact decide_eq_decide.2 (by omega)
          have hd0 : 0 ≤ d := by omega
          rcases (show (97 ≤ d ∧ d ≤ 122) ∨ (122 < d) ∨ (65 ≤ d ∧ d ≤ 90) ∨ (d = 95) ∨ ((90 < d ∧ d < 97) ∧ d ≠ 95) ∨ (48 ≤ d ∧ d ≤ 57) ∨ (57 < d ∧ d < 65) ∨ (d = 45) ∨ (d = 46) ∨ (d < 48 ∧ d ≠ 45 ∧ d ≠ 46) by omega) with hc | hc | hc | hc | hc | hc | hc | hc | hc | hc
          · have f0 : (97 : Int) ≤ d := by omega
            have f1 : (65 : Int) ≤ d := by omega
            have f2 : (48 : Int) ≤ d := by omega
            have f3 : d ≤ (122 : Int) := by omega
            have f4 : ¬ d ≤ (90 : Int) := by omega
            have f5 : ¬ d ≤ (57 : Int) := by omega
            have f6 : (d == (45 : Int)) = false := by rw [beq_eq_false_iff_ne]; omega
            have f7 : (d == (95 : Int)) = false := by rw [beq_eq_false_iff_ne]; omega
            have f8 : (d == (46 : Int)) = false := by rw [beq_eq_false_iff_ne]; omega
            have HO := Lib.hid (HT.out (by rw [HC.out]; exact decide_eq_true (by omega)))
            clear hc HT HF hh
            go_wp2_with fail
            go_roundw
            case rel => exact ⟨k + 1, by omega, by go_num, by first | trivial | rfl, HO⟩
            case measure => simp [intOf]; omega
          · have f0 : (97 : Int) ≤ d := by omega
            have f1 : (65 : Int) ≤ d := by omega
            have f2 : (48 : Int) ≤ d := by omega
            have f3 : ¬ d ≤ (122 : Int) := by omega
            have f4 : ¬ d ≤ (90 : Int) := by omega
            have f5 : ¬ d ≤ (57 : Int) := by omega
            have f6 : (d == (45 : Int)) = false := by rw [beq_eq_false_iff_ne]; omega
            have f7 : (d == (95 : Int)) = false := by rw [beq_eq_false_iff_ne]; omega
            have f8 : (d == (46 : Int)) = false := by rw [beq_eq_false_iff_ne]; omega
            have HO := Lib.hid (HF.out (by rw [HC.out]; exact decide_eq_false (by omega)))
            clear hc HT HF hh
            go_wp2_with fail
            go_ret
            exact ⟨by rw [HO.out]; rfl, rfl⟩
          · have f0 : ¬ (97 : Int) ≤ d := by omega
            have f1 : (65 : Int) ≤ d := by omega
            have f2 : (48 : Int) ≤ d := by omega
            have f3 : d ≤ (122 : Int) := by omega
            have f4 : d ≤ (90 : Int) := by omega
            have f5 : ¬ d ≤ (57 : Int) := by omega
            have f6 : (d == (45 : Int)) = false := by rw [beq_eq_false_iff_ne]; omega
            have f7 : (d == (95 : Int)) = false := by rw [beq_eq_false_iff_ne]; omega
            have f8 : (d == (46 : Int)) = false := by rw [beq_eq_false_iff_ne]; omega
            have HO := Lib.hid (HT.out (by rw [HC.out]; exact decide_eq_true (by omega)))
            clear hc HT HF hh
            go_wp2_with fail
            go_roundw
            case rel => exact ⟨k + 1, by omega, by go_num, by first | trivial | rfl, HO⟩
            case measure => simp [intOf]; omega
          · have f0 : ¬ (97 : Int) ≤ d := by omega
            have f1 : (65 : Int) ≤ d := by omega
            have f2 : (48 : Int) ≤ d := by omega
            have f3 : d ≤ (122 : Int) := by omega
            have f4 : ¬ d ≤ (90 : Int) := by omega
            have f5 : ¬ d ≤ (57 : Int) := by omega
            have f6 : (d == (45 : Int)) = false := by rw [beq_eq_false_iff_ne]; omega
            have f7 : (d == (95 : Int)) = true := by rw [beq_iff_eq]; omega
            have f8 : (d == (46 : Int)) = false := by rw [beq_eq_false_iff_ne]; omega
            have HO := Lib.hid (HT.out (by rw [HC.out]; exact decide_eq_true (by omega)))
            clear hc HT HF hh
            go_wp2_with fail
            go_roundw
            case rel => exact ⟨k + 1, by omega, by go_num, by first | trivial | rfl, HO⟩
            case measure => simp [intOf]; omega
          · have f0 : ¬ (97 : Int) ≤ d := by omega
            have f1 : (65 : Int) ≤ d := by omega
            have f2 : (48 : Int) ≤ d := by omega
            have f3 : d ≤ (122 : Int) := by omega
            have f4 : ¬ d ≤ (90 : Int) := by omega
            have f5 : ¬ d ≤ (57 : Int) := by omega
            have f6 : (d == (45 : Int)) = false := by rw [beq_eq_false_iff_ne]; omega
            have f7 : (d == (95 : Int)) = false := by rw [beq_eq_false_iff_ne]; omega
            have f8 : (d == (46 : Int)) = false := by rw [beq_eq_false_iff_ne]; omega
            have HO := Lib.hid (HF.out (by rw [HC.out]; exact decide_eq_false (by omega)))
            clear hc HT HF hh
            go_wp2_with fail
            go_ret
            exact ⟨by rw [HO.out]; rfl, rfl⟩
          · have f0 : ¬ (97 : Int) ≤ d := by omega
            have f1 : ¬ (65 : Int) ≤ d := by omega
            have f2 : (48 : Int) ≤ d := by omega
            have f3 : d ≤ (122 : Int) := by omega
            have f4 : d ≤ (90 : Int) := by omega
            have f5 : d ≤ (57 : Int) := by omega
            have f6 : (d == (45 : Int)) = false := by rw [beq_eq_false_iff_ne]; omega
            have f7 : (d == (95 : Int)) = false := by rw [beq_eq_false_iff_ne]; omega
            have f8 : (d == (46 : Int)) = false := by rw [beq_eq_false_iff_ne]; omega
            have HO := Lib.hid (HT.out (by rw [HC.out]; exact decide_eq_true (by omega)))
            clear hc HT HF hh
            go_wp2_with fail
            go_roundw
            case rel => exact ⟨k + 1, by omega, by go_num, by first | trivial | rfl, HO⟩
            case measure => simp [intOf]; omega
          · have f0 : ¬ (97 : Int) ≤ d := by omega
            have f1 : ¬ (65 : Int) ≤ d := by omega
            have f2 : (48 : Int) ≤ d := by omega
            have f3 : d ≤ (122 : Int) := by omega
            have f4 : d ≤ (90 : Int) := by omega
            have f5 : ¬ d ≤ (57 : Int) := by omega
            have f6 : (d == (45 : Int)) = false := by rw [beq_eq_false_iff_ne]; omega
            have f7 : (d == (95 : Int)) = false := by rw [beq_eq_false_iff_ne]; omega
            have f8 : (d == (46 : Int)) = false := by rw [beq_eq_false_iff_ne]; omega
            have HO := Lib.hid (HF.out (by rw [HC.out]; exact decide_eq_false (by omega)))
            clear hc HT HF hh
            go_wp2_with fail
            go_ret
            exact ⟨by rw [HO.out]; rfl, rfl⟩
          · have f0 : ¬ (97 : Int) ≤ d := by omega
            have f1 : ¬ (65 : Int) ≤ d := by omega
            have f2 : ¬ (48 : Int) ≤ d := by omega
            have f3 : d ≤ (122 : Int) := by omega
            have f4 : d ≤ (90 : Int) := by omega
            have f5 : d ≤ (57 : Int) := by omega
            have f6 : (d == (45 : Int)) = true := by rw [beq_iff_eq]; omega
            have f7 : (d == (95 : Int)) = false := by rw [beq_eq_false_iff_ne]; omega
            have f8 : (d == (46 : Int)) = false := by rw [beq_eq_false_iff_ne]; omega
            have HO := Lib.hid (HT.out (by rw [HC.out]; exact decide_eq_true (by omega)))
            clear hc HT HF hh
            go_wp2_with fail
            go_roundw
            case rel => exact ⟨k + 1, by omega, by go_num, by first | trivial | rfl, HO⟩
            case measure => simp [intOf]; omega
          · have f0 : ¬ (97 : Int) ≤ d := by omega
            have f1 : ¬ (65 : Int) ≤ d := by omega
            have f2 : ¬ (48 : Int) ≤ d := by omega
            have f3 : d ≤ (122 : Int) := by omega
            have f4 : d ≤ (90 : Int) := by omega
            have f5 : d ≤ (57 : Int) := by omega
            have f6 : (d == (45 : Int)) = false := by rw [beq_eq_false_iff_ne]; omega
            have f7 : (d == (95 : Int)) = false := by rw [beq_eq_false_iff_ne]; omega
            have f8 : (d == (46 : Int)) = true := by rw [beq_iff_eq]; omega
            have HO := Lib.hid (HT.out (by rw [HC.out]; exact decide_eq_true (by omega)))
            clear hc HT HF hh
            go_wp2_with fail
            go_roundw
            case rel => exact ⟨k + 1, by omega, by go_num, by first | trivial | rfl, HO⟩
            case measure => simp [intOf]; omega
          · have f0 : ¬ (97 : Int) ≤ d := by omega
            have f1 : ¬ (65 : Int) ≤ d := by omega
            have f2 : ¬ (48 : Int) ≤ d := by omega
            have f3 : d ≤ (122 : Int) := by omega
            have f4 : d ≤ (90 : Int) := by omega
            have f5 : d ≤ (57 : Int) := by omega
            have f6 : (d == (45 : Int)) = false := by rw [beq_eq_false_iff_ne]; omega
            have f7 : (d == (95 : Int)) = false := by rw [beq_eq_false_iff_ne]; omega
            have f8 : (d == (46 : Int)) = false := by rw [beq_eq_false_iff_ne]; omega
            have HO := Lib.hid (HF.out (by rw [HC.out]; exact decide_eq_false (by omega)))
            clear hc HT HF hh
            go_wp2_with fail
            go_ret
            exact ⟨by rw [HO.out]; rfl, rfl⟩
        · obtain rfl : k = s.size := by omega
          have HN : Hid (ruleOk s = true) := by
            unfold Hid ruleOk
            exact decide_eq_true ⟨by omega, by omega, fun j hj => hh.out j hj hj⟩
          go_wp2_with fail
          go_ret
          exact ⟨by rw [HN.out]; rfl, rfl⟩
    · have HN : Hid (ruleOk s = false) := by unfold Hid ruleOk; exact decide_eq_false (fun h => h2 h.2.1)
      have q' : (32 : Int) < s.size := by omega
      go_enter Tryz.func57, Tryz.ntmps57
      go_wp2_with fail
      go_ret
      exact ⟨by rw [HN.out]; rfl, rfl⟩
end Go.Proofs.YtmhojaiajhdlcaaGreat
namespace Go.Proofs.YtmhojaiajhdlcaaGreat
open Go.RowKit
set_option linter.unusedSimpArgs false
set_option linter.unusedVariables false
abbrev mkRec (ino gen at_ : Int) (rule : ByteArray) (kind c0 c1 c2 c3 c4 c5 c6 c7 c8 c9 : Int) : Rec := ⟨⟨ino, gen, at_, rule⟩, kind, ⟨[c0, c1, c2, c3, c4, c5, c6, c7, c8, c9], rfl⟩⟩
abbrev mkVal (ino gen at_ : Int) (rule : ByteArray) (kind c0 c1 c2 c3 c4 c5 c6 c7 c8 c9 : Int) : Value := .agg #[.int .i64 ino, .int .i64 gen, .int .i64 at_, .string rule, .int .i64 kind, .int .i64 c0, .int .i64 c1, .int .i64 c2, .int .i64 c3, .int .i64 c4, .int .i64 c5, .int .i64 c6, .int .i64 c7, .int .i64 c8, .int .i64 c9]
theorem recVal_mk (ino gen at_ : Int) (rule : ByteArray) (kind c0 c1 c2 c3 c4 c5 c6 c7 c8 c9 : Int) : recVal (mkRec ino gen at_ rule kind c0 c1 c2 c3 c4 c5 c6 c7 c8 c9) = mkVal ino gen at_ rule kind c0 c1 c2 c3 c4 c5 c6 c7 c8 c9 := rfl
theorem rec_mk (r : Rec) : ∃ ino gen at_ rule kind c0 c1 c2 c3 c4 c5 c6 c7 c8 c9, r = mkRec ino gen at_ rule kind c0 c1 c2 c3 c4 c5 c6 c7 c8 c9 := by
  obtain ⟨⟨ino, gen, at_, rule⟩, kind, ⟨caps, hc⟩⟩ := r
  obtain ⟨c0, c1, c2, c3, c4, c5, c6, c7, c8, c9, rfl⟩ := ten hc
  exact ⟨ino, gen, at_, rule, kind, c0, c1, c2, c3, c4, c5, c6, c7, c8, c9, rfl⟩
theorem nth_in {α : Type} [Inhabited α] {l : List α} (k : Nat) (h : k < l.length) : nth l k ∈ l := by rw [nth_get l k h]; exact List.getElem_mem _
/-- Do a record's three numbers fit? -/
abbrev numOk (ino gen at_ : Int) : Bool := decide (1 ≤ ino ∧ ino ≤ 12 ∧ 1 ≤ gen ∧ gen ≤ 1099511627776 ∧ 0 ≤ at_ ∧ at_ ≤ 1099511627776)
theorem infoI : ∃ i, Tryz.prog.info? 3 = some i := by
  have : (Tryz.prog.info? 3).isSome = true := by kernel_rfl
  exact Option.isSome_iff_exists.1 this
theorem cellsI : Tryz.prog.cellsOf 3 = 1 := by kernel_rfl
theorem c10_eq (c0 c1 c2 c3 c4 c5 c6 c7 c8 c9 d0 d1 d2 d3 d4 d5 d6 d7 d8 d9 : Int) : ((⟨[c0, c1, c2, c3, c4, c5, c6, c7, c8, c9], rfl⟩ : C10) = ⟨[d0, d1, d2, d3, d4, d5, d6, d7, d8, d9], rfl⟩) ↔ (c0 = d0 ∧ c1 = d1 ∧ c2 = d2 ∧ c3 = d3 ∧ c4 = d4 ∧ c5 = d5 ∧ c6 = d6 ∧ c7 = d7 ∧ c8 = d8 ∧ c9 = d9) := by
  rw [Subtype.mk.injEq]; simp
set_option maxRecDepth 20000 in
theorem capsEq_run (w : World) (c0 c1 c2 c3 c4 c5 c6 c7 c8 c9 d0 d1 d2 d3 d4 d5 d6 d7 d8 d9 : Int) : (Op.equalIn 10000 25 (.agg #[.int .i64 c0, .int .i64 c1, .int .i64 c2, .int .i64 c3, .int .i64 c4, .int .i64 c5, .int .i64 c6, .int .i64 c7, .int .i64 c8, .int .i64 c9]) (.agg #[.int .i64 d0, .int .i64 d1, .int .i64 d2, .int .i64 d3, .int .i64 d4, .int .i64 d5, .int .i64 d6, .int .i64 d7, .int .i64 d8, .int .i64 d9])).run Tryz.prog w = .ok (decide (c0 = d0 ∧ c1 = d1 ∧ c2 = d2 ∧ c3 = d3 ∧ c4 = d4 ∧ c5 = d5 ∧ c6 = d6 ∧ c7 = d7 ∧ c8 = d8 ∧ c9 = d9)) w := by
  obtain ⟨i, hi⟩ := infoI
  rw [run_equalIn_array w 9999 _ _ Tryz.underlying25 hi, cellsI]
  simp only [Op.eqItems, List.range_succ, List.range_zero, List.nil_append, List.cons_append, part, go_sem]
  simp [Op.eqItems, List.range_succ, part, go_sem]
  repeat' split
  all_goals simp_all
set_option maxRecDepth 20000 in
theorem idx_caps (c0 c1 c2 c3 c4 c5 c6 c7 c8 c9 : Int) (k : Nat) (hk : k < 10) (W : World) : (Instr.index 25 (.agg #[.int .i64 c0, .int .i64 c1, .int .i64 c2, .int .i64 c3, .int .i64 c4, .int .i64 c5, .int .i64 c6, .int .i64 c7, .int .i64 c8, .int .i64 c9]) (.int .i64 (k : Int))).run Tryz.prog W = .ok (.int .i64 (nth [c0, c1, c2, c3, c4, c5, c6, c7, c8, c9] k)) W := by
  rcases (show k = 0 ∨ k = 1 ∨ k = 2 ∨ k = 3 ∨ k = 4 ∨ k = 5 ∨ k = 6 ∨ k = 7 ∨ k = 8 ∨ k = 9 by omega) with rfl | rfl | rfl | rfl | rfl | rfl | rfl | rfl | rfl | rfl <;> kernel_rfl
set_option maxRecDepth 20000 in
set_option maxHeartbeats 4000000 in
theorem ledRight_c (w : World) (ino gen at_ : Int) (rule : ByteArray) (kind c0 c1 c2 c3 c4 c5 c6 c7 c8 c9 : Int) :
    Calls Tryz.prog 12 #[mkVal ino gen at_ rule kind c0 c1 c2 c3 c4 c5 c6 c7 c8 c9] w fun e w' => e = .returned (.bool (recOk (mkRec ino gen at_ rule kind c0 c1 c2 c3 c4 c5 c6 c7 c8 c9))) ∧ Upd [] w w' := by
  have HU : Hid (Upd [] w (w.alloc (.cells #[.int .i64 ino, .int .i64 gen, .int .i64 at_, .string rule, .int .i64 kind, .int .i64 c0, .int .i64 c1, .int .i64 c2, .int .i64 c3, .int .i64 c4, .int .i64 c5, .int .i64 c6, .int .i64 c7, .int .i64 c8, .int .i64 c9] 27))) := (Upd.refl [] w).alloc _
  have hfalse : numOk ino gen at_ = false → recOk (mkRec ino gen at_ rule kind c0 c1 c2 c3 c4 c5 c6 c7 c8 c9) = false := fun h => by
    unfold recOk
    show (numOk ino gen at_ && _) = false
    rw [h]; rfl
  by_cases hn : 1 ≤ ino ∧ ino ≤ 12 ∧ 1 ≤ gen ∧ gen ≤ 1099511627776 ∧ 0 ≤ at_ ∧ at_ ≤ 1099511627776
  · have HN : Hid (numOk ino gen at_ = true) := decide_eq_true hn
    obtain ⟨n1, n2, n3, n4, n5, n6⟩ := hn
    have m1 : ¬ ino < 1 := by omega
    have m2 : ¬ (12 : Int) < ino := by omega
    have m3 : ¬ gen < 1 := by omega
    have m4 : ¬ (1099511627776 : Int) < gen := by omega
    have m5 : ¬ at_ < 0 := by omega
    have m6 : ¬ (1099511627776 : Int) < at_ := by omega
    clear n1 n2 n3 n4 n5 n6 hfalse
    by_cases k2 : kind = 2
    · subst k2
      have HR : Hid (recOk (mkRec ino gen at_ rule 2 c0 c1 c2 c3 c4 c5 c6 c7 c8 c9) = decide (rule = ⟨#[]⟩ ∧ (⟨[c0, c1, c2, c3, c4, c5, c6, c7, c8, c9], rfl⟩ : C10) = c10z)) := by
        unfold Hid recOk
        show (numOk ino gen at_ && _) = _
        rw [HN.out]; rfl
      by_cases hr : rule = ⟨#[]⟩
      · subst hr
        have hq := fun W => capsEq_run W c0 c1 c2 c3 c4 c5 c6 c7 c8 c9 0 0 0 0 0 0 0 0 0 0
        have HR2 : Hid (recOk (mkRec ino gen at_ ⟨#[]⟩ 2 c0 c1 c2 c3 c4 c5 c6 c7 c8 c9) = decide (c0 = 0 ∧ c1 = 0 ∧ c2 = 0 ∧ c3 = 0 ∧ c4 = 0 ∧ c5 = 0 ∧ c6 = 0 ∧ c7 = 0 ∧ c8 = 0 ∧ c9 = 0)) := by
          unfold Hid
          rw [HR.out]
          refine decide_eq_decide.2 ?_
          show (_ ∧ (⟨[c0, c1, c2, c3, c4, c5, c6, c7, c8, c9], rfl⟩ : C10) = ⟨[0, 0, 0, 0, 0, 0, 0, 0, 0, 0], rfl⟩) ↔ _
          rw [c10_eq]; simp
        obtain ⟨b, hb⟩ : ∃ b : Bool, decide (c0 = 0 ∧ c1 = 0 ∧ c2 = 0 ∧ c3 = 0 ∧ c4 = 0 ∧ c5 = 0 ∧ c6 = 0 ∧ c7 = 0 ∧ c8 = 0 ∧ c9 = 0) = b := ⟨_, rfl⟩
        have HB := Lib.hid hb
        rw [hb] at hq
        clear hb
        go_enter Tryz.func12, Tryz.ntmps12
        go_wp2_with fail
        go_ret
        exact ⟨by rw [HR2.out, HB.out]; rfl, HU.out⟩
      · have HR2 : Hid (recOk (mkRec ino gen at_ rule 2 c0 c1 c2 c3 c4 c5 c6 c7 c8 c9) = false) := by
          unfold Hid
          rw [HR.out]
          exact decide_eq_false (fun h => hr h.1)
        have q : (rule.toList == ([] : List UInt8)) = false := by
          rw [beq_eq_false_iff_ne, strList_eq]
          intro q
          exact hr (str_inj _ _ (by rw [strList_eq, strList_eq, q]))
        clear hr
        go_enter Tryz.func12, Tryz.ntmps12
        go_wp2_with fail
        go_ret
        exact ⟨by rw [HR2.out]; rfl, HU.out⟩
    · have e2 : (kind == 2) = false := by rw [beq_eq_false_iff_ne]; exact k2
      by_cases k1 : kind = 1
      · subst k1
        have HR : Hid (recOk (mkRec ino gen at_ rule 1 c0 c1 c2 c3 c4 c5 c6 c7 c8 c9) = ([c0, c1, c2, c3, c4, c5, c6, c7, c8, c9].all capOk && ruleOk rule)) := by
          unfold Hid recOk
          show (numOk ino gen at_ && _) = _
          rw [HN.out]; rfl
        go_enter Tryz.func12, Tryz.ntmps12
        go_wp2_with fail
        go_loopw [57] (fun i wr => ∃ k : Nat, k ≤ 10 ∧ i = .int .i64 k ∧ wr = (w.alloc (.cells #[.int .i64 ino, .int .i64 gen, .int .i64 at_, .string rule, .int .i64 1, .int .i64 c0, .int .i64 c1, .int .i64 c2, .int .i64 c3, .int .i64 c4, .int .i64 c5, .int .i64 c6, .int .i64 c7, .int .i64 c8, .int .i64 c9] 27)) ∧ Hid (∀ j, j < k → capOk (nth [c0, c1, c2, c3, c4, c5, c6, c7, c8, c9] j) = true)) (fun i _ => 10 - (intOf i).toNat)
        case atStart => exact ⟨0, Nat.zero_le _, rfl, rfl, fun j h => absurd h (by omega)⟩
        case round =>
          obtain ⟨k, hk, rfl, rfl, hh⟩ := hrel
          by_cases hlt : k < 10
          · have q0 : (0 : Int) ≤ k := by omega
            have q1 : (k : Int) < 10 := by omega
            have hix := fun W => idx_caps c0 c1 c2 c3 c4 c5 c6 c7 c8 c9 k hlt W
            have HT : Hid (capOk (nth [c0, c1, c2, c3, c4, c5, c6, c7, c8, c9] k) = true → ∀ j, j < k + 1 → capOk (nth [c0, c1, c2, c3, c4, c5, c6, c7, c8, c9] j) = true) := fun hb j hjk => by
              rcases Nat.lt_or_eq_of_le (Nat.le_of_lt_succ hjk) with h | h
              · exact hh.out j h
              · subst h; exact hb
            have HF : Hid (capOk (nth [c0, c1, c2, c3, c4, c5, c6, c7, c8, c9] k) = false → recOk (mkRec ino gen at_ rule 1 c0 c1 c2 c3 c4 c5 c6 c7 c8 c9) = false) := fun hb => by
              rw [HR.out]
              have : [c0, c1, c2, c3, c4, c5, c6, c7, c8, c9].all capOk = false := by
                rw [List.all_eq_false]
                exact ⟨_, nth_in (l := [c0, c1, c2, c3, c4, c5, c6, c7, c8, c9]) k hlt, by rw [hb]; simp⟩
              rw [this]; rfl
            generalize nth [c0, c1, c2, c3, c4, c5, c6, c7, c8, c9] k = d at *
            rcases (show d < -1 ∨ (¬ d < -1 ∧ 500 < d) ∨ (¬ d < -1 ∧ ¬ 500 < d) by omega) with hd | ⟨hd, hd2⟩ | ⟨hd, hd2⟩
            · have HO := Lib.hid (HF.out (decide_eq_false (by omega)))
              clear HT HF hh
              go_wp2_with fail
              go_ret
              exact ⟨by rw [HO.out]; rfl, HU.out⟩
            · have HO := Lib.hid (HF.out (decide_eq_false (by omega)))
              clear HT HF hh
              go_wp2_with fail
              go_ret
              exact ⟨by rw [HO.out]; rfl, HU.out⟩
            · have HO := Lib.hid (HT.out (decide_eq_true (by omega)))
              clear HT HF hh
              go_wp2_with fail
              go_roundw
              case rel => exact ⟨k + 1, by omega, by go_num, by first | trivial | rfl, HO⟩
              case measure => simp [intOf]; omega
          · obtain rfl : k = 10 := by omega
            have HO : Hid (recOk (mkRec ino gen at_ rule 1 c0 c1 c2 c3 c4 c5 c6 c7 c8 c9) = ruleOk rule) := by
              unfold Hid
              rw [HR.out]
              have : [c0, c1, c2, c3, c4, c5, c6, c7, c8, c9].all capOk = true := by
                rw [List.all_eq_true]
                intro x hx
                obtain ⟨j, hj, rfl⟩ := List.mem_iff_getElem.1 hx
                have := hh.out j hj
                rwa [nth_get _ j hj] at this
              rw [this, Bool.true_and]
            clear hh
            go_wp2_with fail
            (with_reducible refine (ledNamed_any _ rule).mono ?_)
            rintro e w1 ⟨rfl, rfl⟩
            go_wp2_with fail
            go_ret
            exact ⟨by rw [HO.out]; rfl, HU.out⟩
      · have e1 : (kind == 1) = false := by rw [beq_eq_false_iff_ne]; exact k1
        have HR : Hid (recOk (mkRec ino gen at_ rule kind c0 c1 c2 c3 c4 c5 c6 c7 c8 c9) = false) := by
          unfold Hid recOk
          show (numOk ino gen at_ && _) = _
          rw [HN.out]
          show (if kind = 2 then _ else if kind = 1 then _ else false) = false
          rw [if_neg k2, if_neg k1]
        clear k1 k2
        go_enter Tryz.func12, Tryz.ntmps12
        go_wp2_with fail
        go_ret
        exact ⟨by rw [HR.out]; rfl, HU.out⟩
  · have HR := Lib.hid (hfalse (decide_eq_false hn))
    rcases (show ino < 1 ∨ (¬ ino < 1 ∧ (12 : Int) < ino) ∨ (¬ ino < 1 ∧ ¬ (12 : Int) < ino ∧ gen < 1) ∨ (¬ ino < 1 ∧ ¬ (12 : Int) < ino ∧ ¬ gen < 1 ∧ (1099511627776 : Int) < gen) ∨ (¬ ino < 1 ∧ ¬ (12 : Int) < ino ∧ ¬ gen < 1 ∧ ¬ (1099511627776 : Int) < gen ∧ at_ < 0) ∨ (¬ ino < 1 ∧ ¬ (12 : Int) < ino ∧ ¬ gen < 1 ∧ ¬ (1099511627776 : Int) < gen ∧ ¬ at_ < 0 ∧ (1099511627776 : Int) < at_) by omega) with m1 | ⟨m1, m2⟩ | ⟨m1, m2, m3⟩ | ⟨m1, m2, m3, m4⟩ | ⟨m1, m2, m3, m4, m5⟩ | ⟨m1, m2, m3, m4, m5, m6⟩
    all_goals
      clear hfalse hn
      go_enter Tryz.func12, Tryz.ntmps12
      go_wp2_with fail
      go_ret
      exact ⟨by rw [HR.out]; rfl, HU.out⟩
theorem ledRight_any (w : World) (r : Rec) : Calls Tryz.prog 12 #[recVal r] w fun e w' => e = .returned (.bool (recOk r)) ∧ Upd [] w w' := by
  obtain ⟨ino, gen, at_, rule, kind, c0, c1, c2, c3, c4, c5, c6, c7, c8, c9, rfl⟩ := rec_mk r
  exact ledRight_c w ino gen at_ rule kind c0 c1 c2 c3 c4 c5 c6 c7 c8 c9
end Go.Proofs.YtmhojaiajhdlcaaGreat
namespace Go.Proofs.YtmhojaiajhdlcaaGreat
open Go.RowKit
set_option linter.unusedSimpArgs false
set_option linter.unusedVariables false
structure Key64 (k : Key) : Prop where
  ino : I64 k.ino
  gen : I64 k.gen
  at_ : I64 k.at_
  rule : k.rule.size ≤ maxLen
def klOf (k : Key) : Lit := .string (keyBytes [.int .i64 k.ino, .int .i64 k.gen, .int .i64 k.at_, .string k.rule.data.toList])
theorem laidOutK : laidOutB Tryz.prog = true := by kernel_rfl
theorem keyRow : (23 : TypeId) < Tryz.prog.types.size := of_decide_eq_true (by kernel_rfl)
theorem keyLaw : Maps.Keyed Tryz.prog 23 := Maps.Keyed.of_law (deep_law_laid laidOutK (m := 2) (by omega) keyRow (by kernel_rfl) (by kernel_rfl))
theorem keyType29 : Tryz.prog.keyType 23 = true := by kernel_rfl
theorem keyCellsOf : Tryz.prog.cellsOf 23 = 4 := by kernel_rfl
theorem intCellsOf : Tryz.prog.cellsOf 3 = 1 := by kernel_rfl
theorem strCellsOf : Tryz.prog.cellsOf 9 = 1 := by kernel_rfl
theorem wf_i64 {x : Int} (h : I64 x) : (Lit.int .i64 x).wf = true := WalkArith.wf_i64 ⟨h.1, h.2⟩
theorem pos_succ {n m : Nat} (h : m < n) : ∃ k, n = k + 1 := ⟨n - 1, by omega⟩
theorem keyOf_key (k : Key) (h : Key64 k) : keyOf Tryz.prog 23 (keyVal k) = some (klOf k) := by
  obtain ⟨m, hm⟩ := pos_succ keyRow
  unfold keyOf klOf
  rw [Tryz.underlying23]
  dsimp only
  rw [keyType29, hm]
  simp [Value.formed, Tryz.underlying23, Tryz.underlying3, Tryz.underlying9, keyCellsOf, intCellsOf, strCellsOf, Program.keyLits, Value.cells, wf_i64 h.ino, wf_i64 h.gen, wf_i64 h.at_, h.rule]
theorem keyVal_inj {a b : Key} (h : keyVal a = keyVal b) : a = b := by
  obtain ⟨a1, a2, a3, a4⟩ := a
  obtain ⟨b1, b2, b3, b4⟩ := b
  simp at h
  obtain ⟨rfl, rfl, rfl, rfl⟩ := h
  rfl
theorem klOf_inj {a b : Key} (ha : Key64 a) (hb : Key64 b) (h : klOf a = klOf b) : a = b :=
  keyVal_inj (keyLaw.inj (keyOf_key a ha) (by rw [h]; exact keyOf_key b hb))
def hasK (rl : List Rec) (k : Key) : Bool := rl.any fun r => decide (r.key = k)
theorem hasK_snoc (rl : List Rec) (r : Rec) (k : Key) : hasK (rl ++ [r]) k = (hasK rl k || decide (r.key = k)) := by unfold hasK; simp
abbrev nul : DataW Unit := .lit (.int .i64 0)
/-- The map of a ledger's keys. -/
structure KMap (w : World) (gm : Nat) (rl : List Rec) : Prop where
  ex : ∃ (n : Nat) (D : DataW Unit), w.ownsMap Tryz.prog 23 (plainElem Tryz.prog 3) gm n D ∧ n ≤ rl.length ∧ Maps.IsMap D ∧ ∀ k, Key64 k → ∃ c : Int, D.atKey (klOf k) nul = .lit (.int .i64 c) ∧ (0 < c ↔ hasK rl k = true)
theorem KMap.new (w : World) : KMap (w.alloc (.map #[] 0)) w.heap.size [] :=
  ⟨0, .map [], World.ownsMap_made _ _ _ _, Nat.le_refl _, Maps.isMap_empty, fun k _ => ⟨0, rfl, by simp [hasK]⟩⟩
theorem KMap.lt {w : World} {gm : Nat} {rl : List Rec} (h : KMap w gm rl) : gm < w.heap.size := by
  obtain ⟨n, D, h1, -⟩ := h.ex
  exact h1.lt
theorem KMap.heap {w w' : World} {gm : Nat} {rl : List Rec} (h : KMap w gm rl) (hb : w'.heap[gm]? = w.heap[gm]?) : KMap w' gm rl := by
  obtain ⟨n, D, ⟨es, clock, h1, h2⟩, h3⟩ := h.ex
  exact ⟨n, D, ⟨es, clock, by rw [hb]; exact h1, h2⟩, h3⟩
theorem KMap.upd {w w' : World} {gm : Nat} {rl : List Rec} (h : KMap w gm rl) {S : List Nat} (hu : Upd S w w') (hs : gm ∉ S) : KMap w' gm rl := h.heap (hu.block gm h.lt hs)
theorem KMap.typ {w : World} {gm : Nat} {rl : List Rec} (h : KMap w gm rl) : ∃ es clock, w.heap[gm]? = some (.map es clock) := by
  obtain ⟨n, D, ⟨es, clock, h1, h2⟩, h3⟩ := h.ex
  exact ⟨es, clock, h1⟩
theorem zeroInt (w : World) : (zeroValue 3).run Tryz.prog w = .ok (.int .i64 0) w := by kernel_rfl
theorem KMap.look {w : World} {gm : Nat} {rl : List Rec} (h : KMap w gm rl) (k : Key) (hk : Key64 k) :
    ∃ c : Int, (∀ W, Upd [] w W → (Instr.lookup 121 (.map (some gm)) (keyVal k) false).run Tryz.prog W = .ok (.int .i64 c) W) ∧ (0 < c ↔ hasK rl k = true) := by
  obtain ⟨n, D, h1, h2, h3, h4⟩ := h.ex
  obtain ⟨c, hc, hi⟩ := h4 k hk
  refine ⟨c, fun W hW => ?_, hi⟩
  have hW' : W.ownsMap Tryz.prog 23 (plainElem (H := Unit) Tryz.prog 3) gm n D := by
    obtain ⟨es, clock, q1, q2⟩ := h1
    exact ⟨es, clock, hW.heap q1 (by simp), q2⟩
  obtain ⟨c', r1, r2, -⟩ := hW'.lookup_int keyLaw Tryz.underlying121 Tryz.underlying3 (zeroInt W) (keyOf_key k hk)
  have : (DataW.lit (.int .i64 c) : DataW Unit) = .lit (.int .i64 c') := by rw [← hc]; exact r2
  have e : c = c' := by simpa using this
  rw [e]; exact r1
theorem KMap.put {w : World} {gm : Nat} {rl : List Rec} (h : KMap w gm rl) (r : Rec) (hk : Key64 r.key) (hl : rl.length < 1000000000) (N : Int) (hN : N = ((rl ++ [r]).length : Int)) :
    ∃ w', (Instr.mapUpdate 121 (.map (some gm)) (keyVal r.key) (.int .i64 N)).run Tryz.prog w = .ok () w' ∧ KMap w' gm (rl ++ [r]) ∧ Upd [gm] w w' := by
  obtain ⟨n, D, h1, h2, h3, h4⟩ := h.ex
  rw [List.length_append, List.length_singleton] at hN
  have hN64 : I64 N := ⟨by omega, by omega⟩
  obtain ⟨w', r1, r2, r3⟩ := h1.update keyLaw Tryz.underlying121 (by unfold maxLen; omega) (keyOf_key r.key hk) (plainElem_int Tryz.underlying3 (wf_i64 hN64))
  refine ⟨w', r1, ⟨n + 1, _, r2, by rw [List.length_append, List.length_singleton]; omega, h3.put _ _, fun k hk2 => ?_⟩, ?_⟩
  · by_cases he : r.key = k
    · subst he
      exact ⟨N, by rw [Maps.atKey_put_same h3 (keyLaw.key (keyOf_key _ hk))], by rw [hasK_snoc]; simp; omega⟩
    · obtain ⟨c, hc, hi⟩ := h4 k hk2
      refine ⟨c, ?_, ?_⟩
      · rw [Maps.atKey_put_other (fun q => he (klOf_inj hk hk2 q.symm)), hc]
      · rw [hasK_snoc, hi]; simp [he]
  · have := Upd.of_grown r3
    simpa using this
end Go.Proofs.YtmhojaiajhdlcaaGreat
namespace Go.Proofs.YtmhojaiajhdlcaaGreat
open Go.RowKit
set_option linter.unusedSimpArgs false
set_option linter.unusedVariables false

/-- A list that a slice's value shows in a world, an element so many cells. -/
def RdN {α : Type} [Inhabited α] (sz : Nat) (c : α → List Value) (w : World) (v : Value) (l : List α) : Prop :=
  ∃ a cap, v = .slice a l.length cap ∧ l.length ≤ cap ∧ cap ≤ maxLen ∧
    (l ≠ [] → ∃ b off, a = some ⟨b, off, none⟩ ∧ ∀ j, j < l.length → ∀ i, i < sz → w.cell? ⟨b, off + (j * sz + i), none⟩ = (c (nth l j))[i]?)
theorem RdN.upd {α : Type} [Inhabited α] {sz : Nat} {c : α → List Value} {w w' : World} {v : Value} {l : List α} (hsz : ∀ x, (c x).length = sz) (h : RdN sz c w v l) {S : List Nat} (hu : Upd S w w') (hs : ∀ x ∈ blk v, x ∉ S) : RdN sz c w' v l := by
  obtain ⟨a, cap, rfl, h1, h2, h3⟩ := h
  refine ⟨a, cap, rfl, h1, h2, fun hne => ?_⟩
  obtain ⟨b, off, rfl, hc⟩ := h3 hne
  refine ⟨b, off, rfl, fun j hj i hi => ?_⟩
  have hq := hc j hj i hi
  have hlt : i < (c (nth l j)).length := by rw [hsz]; exact hi
  rw [List.getElem?_eq_getElem hlt] at hq ⊢
  exact hu.cell hq (hs b (by simp [blk]))
theorem RdN.upd0 {α : Type} [Inhabited α] {sz : Nat} {c : α → List Value} {w w' : World} {v : Value} {l : List α} (hsz : ∀ x, (c x).length = sz) (h : RdN sz c w v l) (hu : Upd [] w w') : RdN sz c w' v l := h.upd hsz hu (by simp)

theorem Rd.at_ {α : Type} [Inhabited α] {c : α → Value} {w : World} {a : Option Addr} {n cap : Nat} {l : List α} (h : Rd c w (.slice a n cap) l) (k : Nat) (hk : k < l.length) :
    ∃ b off, a = some ⟨b, off, none⟩ ∧ w.cell? ⟨b, off + k, none⟩ = some (c (nth l k)) := by
  obtain ⟨a', cap', he, _, _, h3⟩ := h
  injection he with e1 e2 e3; subst e1
  obtain ⟨b, off, hb, hc⟩ := h3 (fun q => by rw [q] at hk; simp at hk)
  exact ⟨b, off, hb, hc k hk⟩
end Go.Proofs.YtmhojaiajhdlcaaGreat
namespace Go.Proofs.YtmhojaiajhdlcaaGreat
open Go.RowKit
set_option linter.unusedSimpArgs false
set_option linter.unusedVariables false

theorem flatMap_get {α : Type} [Inhabited α] {sz : Nat} {c : α → List Value} (hsz : ∀ x, (c x).length = sz) : ∀ (l : List α) (j i : Nat), j < l.length → i < sz → (l.flatMap c)[j * sz + i]? = (c (nth l j))[i]?
  | [], j, i, hj, hi => by simp at hj
  | x :: l, 0, i, hj, hi => by
    rw [List.flatMap_cons, Nat.zero_mul, Nat.zero_add, List.getElem?_append_left (by rw [hsz]; exact hi), nth_cons_zero]
  | x :: l, j + 1, i, hj, hi => by
    have hq : (j + 1) * sz + i = sz + (j * sz + i) := by rw [Nat.add_mul]; omega
    rw [List.flatMap_cons, hq, List.getElem?_append_right (by rw [hsz]; omega), hsz, Nat.add_sub_cancel_left, nth_cons_succ]
    exact flatMap_get hsz l j i (by simpa using hj) hi
theorem flatMap_len {α : Type} {sz : Nat} {c : α → List Value} (hsz : ∀ x, (c x).length = sz) (l : List α) : (l.flatMap c).length = l.length * sz := by
  induction l with
  | nil => simp
  | cons x l ih => rw [List.flatMap_cons, List.length_append, hsz, ih, List.length_cons, Nat.add_mul, Nat.one_mul]; omega
/-- A list in a block of the call's own, an element so many cells. -/
def OwnN {α : Type} (sz : Nat) (c : α → List Value) (base : Nat) (e : TypeId) (w : World) (v : Value) (l : List α) : Prop := w.ownsRow base e sz v l.length (l.flatMap c)
theorem OwnN.rd {α : Type} [Inhabited α] {sz : Nat} {c : α → List Value} {base : Nat} {e : TypeId} {w : World} {v : Value} {l : List α} (hsz : ∀ x, (c x).length = sz) (h : OwnN sz c base e w v l) : RdN sz c w v l := by
  obtain ⟨h1, h2⟩ := h
  rcases h2 with ⟨rfl, hn⟩ | ⟨g, cap, cur, rfl, hb, hg, hc, hm, hs, ht⟩
  · exact ⟨none, 0, by rw [hn], by omega, Nat.zero_le _, fun q => absurd (List.eq_nil_of_length_eq_zero hn) q⟩
  · refine ⟨_, cap, rfl, hc, hm, fun _ => ⟨g, 0, rfl, fun j hj i hi => ?_⟩⟩
    rw [cell_of_row w g (0 + (j * sz + i)) cur e (0, 0) hg, ← flatMap_get hsz l j i hj hi, ← ht, List.getElem?_take]
    have hlt : j * sz + i < l.length * sz := by
      have := Nat.mul_le_mul_right sz (show j + 1 ≤ l.length from hj)
      rw [Nat.add_mul] at this; omega
    simp [hlt]
theorem OwnN.upd {α : Type} {sz : Nat} {c : α → List Value} {base : Nat} {e : TypeId} {w w' : World} {v : Value} {l : List α} (h : OwnN sz c base e w v l) {S : List Nat} (hu : Upd S w w') (hs : ∀ x ∈ blk v, x ∉ S) : OwnN sz c base e w' v l := by
  obtain ⟨h1, h2⟩ := h
  refine ⟨h1, ?_⟩
  rcases h2 with h2 | ⟨g, cap, cur, rfl, hb, hg, r⟩
  · exact .inl h2
  · exact .inr ⟨g, cap, cur, rfl, hb, hu.heap hg (hs g (by simp [blk])), r⟩
theorem OwnN.ge {α : Type} {sz : Nat} {c : α → List Value} {base : Nat} {e : TypeId} {w : World} {v : Value} {l : List α} (h : OwnN sz c base e w v l) : ∀ x ∈ blk v, base ≤ x ∧ x < w.heap.size := by
  intro x hx
  rw [blk_own] at hx
  exact World.ownsRow.lt h x (by simpa using hx)
theorem OwnN.typ {α : Type} {sz : Nat} {c : α → List Value} {base : Nat} {e : TypeId} {w : World} {v : Value} {l : List α} (h : OwnN sz c base e w v l) : ∀ x ∈ blk v, ∃ C f, w.heap[x]? = some (.cells C e f) := by
  intro x hx
  rcases h.2 with ⟨rfl, _⟩ | ⟨g, cap, cur, rfl, hb, hg, r⟩
  · simp [blk] at hx
  · simp [blk] at hx; subst hx; exact ⟨_, _, hg⟩
theorem OwnN.nil {α : Type} {sz : Nat} {c : α → List Value} (base : Nat) (e : TypeId) (w : World) : OwnN sz c base e w (.slice none 0 0) ([] : List α) := World.ownsRow_nil _ _ _ _
theorem Blk.ne {w : World} {g : Nat} {e e' : TypeId} {xs C : _} {f : Nat × Nat} (h : Blk w g e xs) (x : Nat) (k : w.heap[x]? = some (.cells C e' f)) (hne : e ≠ e') : g ≠ x := by
  rintro rfl
  unfold Blk at h; rw [h] at k; simp at k; exact hne k.2.1
section
variable {P : Program} {ops : Array Oper} {rest : List Oper} {o : Oper} {a : Act} {w : World} {Q : Exit → Act → World → Prop}
/-- append of a list onto a list of the call's own. -/
theorem wpList_appN {α : Type} [Inhabited α] {sz : Nat} {c : α → List Value} (hsz : ∀ x, (c x).length = sz) (hpos : 0 < sz) (hone : ∀ x, ∀ u ∈ c x, u.oneCell' = true) (hgd : o.guard = none) (s x : Operand) {t e : TypeId} (ho : o.op = .call { callee := .builtin .append, args := #[s, x], argTypes := #[t, t] })
    {z : Value} {bytes base : Nat} (ht : P.underlying t = some (.slice e)) (hi : (P.info? e).map (fun i => (i.zero, i.size, i.bytes)) = some (some z, sz, bytes)) (hz : z.cells.size = sz)
    (v : Value) (l : List α) (y : α) (hs : a.eval s = v) (g k : Nat) (hx : a.eval x = .slice (some ⟨g, 0, none⟩) 1 k) (hv : OwnN sz c base e w v l) (hu : ∀ i u, (c y)[i]? = some u → w.cell? ⟨g, i, none⟩ = some u) (hb : (l.length + 1) * bytes ≤ 140737488355328) (hl : l.length + 1 ≤ maxLen) (hbase : base ≤ w.heap.size)
    (h : ∀ v' w', OwnN sz c base e w' v' (l ++ [y]) → Upd (blk v) w w' → (∀ x ∈ blk v', x ∈ blk v ∨ w.heap.size ≤ x) → wpList P ops Q rest (a.put o.dst v') w') : wpList P ops Q (o :: rest) a w := by
  obtain ⟨i, h1, h2, h3, h4⟩ := info_parts hi
  obtain ⟨v', w', hr, g1, g2, _, g3⟩ := run_append_own_at (P := P) (ty := o.type) w base t e i z sz bytes ht h1 h2 h3 h4 hz hpos v l.length (l.flatMap c) hv ⟨g, 0, none⟩ 1 k (c y) (by rw [hsz]; simp) (fun j u hj => by rw [add_none, Nat.zero_add]; exact hu j u hj) (hone y) hl hb hbase
  have hown : OwnN sz c base e w' v' (l ++ [y]) := by
    unfold OwnN; rw [List.length_append, List.flatMap_append]; simpa using g1
  refine wpList_plain hgd fun K hK => ?_
  unfold Oper.wp execOp
  simp only [ho, resolve, invoke, builtin, Sem.run_bind, Sem.run_pure, Result.andThen_ok, List.map_toArray, List.map_cons, List.map_nil, hs, hx, hr]
  refine hK _ _ (h v' w' hown (by rw [blk_own]; exact Upd.of_grown g2) ?_)
  intro x hx
  rw [blk_own] at hx
  rcases g3 with g3 | g3
  · rw [g3, ← blk_own] at hx; exact .inl hx
  · rw [g3] at hx; simp at hx; exact .inr (by omega)
theorem zeroCells_one {zc : Array Value} (h : ∀ u ∈ zc, u.oneCell' = true) (n : Nat) : ∀ u ∈ (Builtin.zeroCells zc n).toList, u.oneCell' = true := by
  intro u hu
  simp only [Builtin.zeroCells, Array.toList_map, List.mem_map] at hu
  obtain ⟨i, hi, rfl⟩ := hu
  have hi' : i < n * zc.size := by simpa using hi
  have hpos : 0 < zc.size := by
    rcases Nat.eq_zero_or_pos zc.size with h0 | h0
    · rw [h0] at hi'; omega
    · exact h0
  have hlt := Nat.mod_lt i hpos
  rw [getElem!_pos zc _ hlt]
  exact h _ (Array.getElem_mem hlt)
/-- clear of a list of the call's own: what was there is zero; cut to nothing it is a list of the call's own again. -/
theorem wpList_clearN {α : Type} {sz : Nat} {c : α → List Value} (hgd : o.guard = none) (s : Operand) {t e : TypeId} (ho : o.op = .call { callee := .builtin .clear, args := #[s], argTypes := #[t] })
    {z : Value} {bytes base : Nat} (ht : P.underlying t = some (.slice e)) (hi : (P.info? e).map (fun i => (i.zero, i.size, i.bytes)) = some (some z, sz, bytes)) (hz : z.cells.size = sz) (h1 : ∀ u ∈ z.cells, u.oneCell' = true)
    (v : Value) (l : List α) (hs : a.eval s = v) (hv : OwnN sz c base e w v l)
    (h : ∀ w', Upd (blk v) w w' → w'.heap.size = w.heap.size → (∀ ao cap, v = .slice ao l.length cap → OwnN sz c base e w' (.slice ao 0 cap) ([] : List α)) → wpList P ops Q rest (a.put o.dst (.tuple #[])) w') : wpList P ops Q (o :: rest) a w := by
  obtain ⟨i, i1, i2, i3, i4⟩ := info_parts hi
  have key : ∃ w', (Builtin.clear_ #[t] o.type #[v]).run P w = .ok (.tuple #[]) w' ∧ Upd (blk v) w w' ∧ w'.heap.size = w.heap.size ∧ (∀ ao cap, v = .slice ao l.length cap → OwnN sz c base e w' (.slice ao 0 cap) ([] : List α)) := by
    rcases hv.2 with ⟨rfl, hn⟩ | ⟨g, cap, cur, rfl, hb, hg, hc, hm, hsz, htk⟩
    · refine ⟨w, ?_, Upd.refl _ _, rfl, ?_⟩
      · simp [Builtin.clear_, run_underlying ht]
      · intro ao cap he; injection he with e1 e2 e3; subst e1; subst e3; exact World.ownsRow_nil _ _ _ _
    · by_cases h0 : l.length = 0
      · refine ⟨w, ?_, Upd.refl _ _, rfl, ?_⟩
        · rw [h0]; simp [Builtin.clear_, run_underlying ht]
        · intro ao cap' he; injection he with e1 e2 e3; subst e1; subst e3
          exact ⟨by simp, .inr ⟨g, _, cur, rfl, hb, hg, by simp, hm, hsz, by simp⟩⟩
      · have hzl : (Builtin.zeroCells z.cells l.length).toList.length = l.length * sz := by rw [Array.length_toList, size_zeroCells, hz]
        have hfit : 0 + 0 + (Builtin.zeroCells z.cells l.length).toList.length ≤ cur.size := by
          rw [hzl, hsz]; have := Nat.mul_le_mul_right sz hc; omega
        have hst := run_storeCells_at (P := P) g 0 e _ 0 cur w hg hfit (zeroCells_one h1 l.length)
        have hlen : (List.take (0 + 0) cur.toList ++ (Builtin.zeroCells z.cells l.length).toList ++ List.drop (0 + 0 + (Builtin.zeroCells z.cells l.length).toList.length) cur.toList).toArray.size = cap * sz := by
          simp only [List.size_toArray, List.length_append, List.length_take, List.length_drop, hzl]
          rw [Array.length_toList, hsz]
          have := Nat.mul_le_mul_right sz hc
          omega
        generalize (List.take (0 + 0) cur.toList ++ (Builtin.zeroCells z.cells l.length).toList ++ List.drop (0 + 0 + (Builtin.zeroCells z.cells l.length).toList.length) cur.toList).toArray = ys at hst hlen
        refine ⟨w.setRow g ys, ?_, ⟨rfl, rfl, rfl, by simp, fun k _ hk => setRow_other w g k _ (by simpa [blk] using hk)⟩, by simp, ?_⟩
        · obtain ⟨m, hm'⟩ : ∃ m, l.length = m + 1 := ⟨l.length - 1, by omega⟩
          rw [hm'] at hst ⊢
          have hzv : (zeroValue e).run P w = .ok z w := by simp [zeroValue, typeInfo, i1, i2]
          simp only [Builtin.clear_]
          simp [run_underlying ht, hzv, hst]
        · intro ao cap' he; injection he with e1 e2 e3; subst e1; subst e3
          exact ⟨by simp, .inr ⟨g, _, _, rfl, hb, setRow_heap w g cur _ e _ hg, by simp, hm, hlen, by simp⟩⟩
  obtain ⟨w', hr, k1, k2, k3⟩ := key
  refine wpList_plain hgd fun K hK => ?_
  unfold Oper.wp execOp
  simp only [ho, resolve, invoke, builtin, Sem.run_bind, Sem.run_pure, Result.andThen_ok, List.map_toArray, List.map_cons, List.map_nil, hs, hr]
  exact hK _ _ (h w' k1 k2 k3)
end
end Go.Proofs.YtmhojaiajhdlcaaGreat
namespace Go.Proofs.YtmhojaiajhdlcaaGreat
open Go.RowKit
set_option linter.unusedSimpArgs false
set_option linter.unusedVariables false
def Ap (F G : List Nat) : Prop := ∀ x ∈ F, x ∉ G
theorem Ap.symm {F G : List Nat} (h : Ap F G) : Ap G F := fun x hx hF => h x hF hx
theorem Ap.nil {G : List Nat} : Ap [] G := fun x hx => by simp at hx
theorem Ap.new {F G : List Nat} {n : Nat} (hf : ∀ y ∈ F, n ≤ y) (hg : ∀ x ∈ G, x < n) : Ap F G := fun x hx hG => by have := hf x hx; have := hg x hG; omega
theorem Ap.next {F F' G : List Nat} {n : Nat} (h : Ap F G) (hf : ∀ y ∈ F', y ∈ F ∨ n ≤ y) (hg : ∀ x ∈ G, x < n) : Ap F' G := fun x hx hG => by
  rcases hf x hx with q | q
  · exact h x q hG
  · have := hg x hG; omega
end Go.Proofs.YtmhojaiajhdlcaaGreat
namespace Go.Proofs.YtmhojaiajhdlcaaGreat
open Go.RowKit
set_option linter.unusedSimpArgs false
set_option linter.unusedVariables false
/-- A ledger at gl, on the disk at gd; its map, its rows. -/
structure LC (w0 w : World) (gl gd gm : Nat) (lv : Value) (rl : List Rec) : Prop where
  top : Blk w gl 123 [.pointer (some ⟨gd, 0, none⟩), lv, .map (some gm)]
  rows : OwnN 15 recCells w0.heap.size 27 w lv rl
  map : KMap w gm rl
  glb : w0.heap.size ≤ gl
  gmb : w0.heap.size ≤ gm
  old : Upd [] w0 w
abbrev lfoot (gl gm : Nat) (lv : Value) : List Nat := gl :: gm :: blk lv
theorem lf_top (gl gm : Nat) (lv : Value) : gl ∈ lfoot gl gm lv := List.mem_cons_self
theorem lf_map (gl gm : Nat) (lv : Value) : gm ∈ lfoot gl gm lv := List.mem_cons_of_mem _ List.mem_cons_self
theorem lf_row {gl gm : Nat} {lv : Value} {x : Nat} (h : x ∈ blk lv) : x ∈ lfoot gl gm lv := List.mem_cons_of_mem _ (List.mem_cons_of_mem _ h)
section
variable {w0 w w' : World} {gl gd gm : Nat} {lv : Value} {rl : List Rec}
theorem LC.glm (h : LC w0 w gl gd gm lv rl) : gl ≠ gm := by
  intro e
  obtain ⟨es, clock, h1⟩ := h.map.typ
  have h2 : w.heap[gl]? = some (.cells _ _ _) := h.top
  rw [e, h1] at h2; exact absurd h2 (by simp)
theorem LC.gll (h : LC w0 w gl gd gm lv rl) : gl ∉ blk lv := by
  intro hx
  obtain ⟨C, f, h1⟩ := h.rows.typ gl hx
  have h2 : w.heap[gl]? = some (.cells _ _ _) := h.top
  rw [h1] at h2
  injection h2 with h2; injection h2 with _ h2
  exact absurd h2 (by decide)
theorem LC.gml (h : LC w0 w gl gd gm lv rl) : gm ∉ blk lv := by
  intro hx
  obtain ⟨C, f, h1⟩ := h.rows.typ gm hx
  obtain ⟨es, clock, h2⟩ := h.map.typ
  rw [h1] at h2; exact absurd h2 (by simp)
theorem LC.upd (h : LC w0 w gl gd gm lv rl) {S : List Nat} (hu : Upd S w w') (hs : ∀ x ∈ lfoot gl gm lv, x ∉ S) (hS : ∀ x ∈ S, w0.heap.size ≤ x) : LC w0 w' gl gd gm lv rl :=
  ⟨h.top.upd hu (hs gl (by simp)), h.rows.upd hu (fun x hx => hs x (by simp [hx])), h.map.upd hu (hs gm (by simp)), h.glb, h.gmb, h.old.trans hu (by simp) (fun x hx => .inr (hS x hx))⟩
theorem LC.upd0 (h : LC w0 w gl gd gm lv rl) (hu : Upd [] w w') : LC w0 w' gl gd gm lv rl := h.upd hu (by simp) (by simp)
theorem LC.ge (h : LC w0 w gl gd gm lv rl) : ∀ x ∈ lfoot gl gm lv, w0.heap.size ≤ x ∧ x < w.heap.size := by
  intro x hx
  rcases List.mem_cons.1 hx with rfl | hx
  · exact ⟨h.glb, h.top.lt⟩
  · rcases List.mem_cons.1 hx with rfl | hx
    · exact ⟨h.gmb, h.map.lt⟩
    · exact h.rows.ge x hx
set_option maxRecDepth 20000 in
set_option maxHeartbeats 1000000 in
theorem ledHas_c (h : LC w0 w gl gd gm lv rl) (ino gen at_ : Int) (rule : ByteArray) (hk : Key64 ⟨ino, gen, at_, rule⟩) :
    Calls Tryz.prog 33 #[.pointer (some ⟨gl, 0, none⟩), .agg #[.int .i64 ino, .int .i64 gen, .int .i64 at_, .string rule]] w fun e w' => e = .returned (.bool (hasK rl ⟨ino, gen, at_, rule⟩)) ∧ Upd [] w w' := by
  have hu : Upd [] w (w.alloc (.cells #[.int .i64 ino, .int .i64 gen, .int .i64 at_, .string rule] 23)) := (Upd.refl [] w).alloc _
  have HU := Lib.hid hu
  obtain ⟨c, hc, hi⟩ := h.map.look _ hk
  have hlk := hc _ hu.drew
  have c2 : (w.alloc (.cells #[.int .i64 ino, .int .i64 gen, .int .i64 at_, .string rule] 23)).cell? ⟨gl, 2, none⟩ = some (.map (some gm)) := (h.upd0 hu).top.cell 2
  have hb := Blk.new w 23 [.int .i64 ino, .int .i64 gen, .int .i64 at_, .string rule]
  have d0 := hb.cell 0
  have d1 := hb.cell 1
  have d2 := hb.cell 2
  have d3 := hb.cell 3
  simp only [List.getElem?_cons_zero, List.getElem?_cons_succ] at d0 d1 d2 d3
  have HI : Hid (hasK rl ⟨ino, gen, at_, rule⟩ = decide (0 < c)) := by
    unfold Hid
    cases hb : hasK rl ⟨ino, gen, at_, rule⟩ with
    | true => exact (decide_eq_true (hi.2 hb)).symm
    | false => exact (decide_eq_false (fun q => by have := hi.1 q; rw [hb] at this; exact absurd this (by simp))).symm
  simp only [keyVal] at hlk
  clear h hu hk hc hi hb
  go_enter Tryz.func33, Tryz.ntmps33
  go_wp2_with fail
  generalize w.alloc (.cells #[.int .i64 ino, .int .i64 gen, .int .i64 at_, .string rule] 23) = w1 at *
  go_region
  all_goals (go_wp2_with fail)
  go_ret
  exact ⟨by rw [HI.out]; rfl, HU.out.drew⟩
theorem ledHas_any (h : LC w0 w gl gd gm lv rl) (k : Key) (hk : Key64 k) :
    Calls Tryz.prog 33 #[.pointer (some ⟨gl, 0, none⟩), keyVal k] w fun e w' => e = .returned (.bool (hasK rl k)) ∧ Upd [] w w' := by
  obtain ⟨ino, gen, at_, rule⟩ := k
  exact ledHas_c h ino gen at_ rule hk
end
end Go.Proofs.YtmhojaiajhdlcaaGreat
namespace Go.Proofs.YtmhojaiajhdlcaaGreat
open Go.RowKit
set_option linter.unusedSimpArgs false
set_option linter.unusedVariables false
theorem flatMap_at {α : Type} [Inhabited α] {sz : Nat} {c : α → List Value} (hsz : ∀ x, (c x).length = sz) (hpos : 0 < sz) (l : List α) (k : Nat) (u : Value) (h : (l.flatMap c)[k]? = some u) :
    k / sz < l.length ∧ (c (nth l (k / sz)))[k % sz]? = some u := by
  have hk := (List.getElem?_eq_some_iff.1 h).1
  rw [flatMap_len hsz] at hk
  have h1 : k / sz < l.length := Nat.div_lt_of_lt_mul (by rw [Nat.mul_comm]; exact hk)
  refine ⟨h1, ?_⟩
  have h2 := flatMap_get hsz l (k / sz) (k % sz) h1 (Nat.mod_lt _ hpos)
  rw [Nat.mul_comm, Nat.div_add_mod] at h2
  rw [← h2, h]
theorem madeCells_flat {α : Type} [Inhabited α] {sz : Nat} {c : α → List Value} (hsz : ∀ x, (c x).length = sz) (hpos : 0 < sz) (z : Array Value) (x : α) (hz : z.toList = c x) (n : Nat) : madeCells z (n * sz) = ((List.replicate n x).flatMap c).toArray := by
  have hzs : z.size = sz := by rw [← Array.length_toList, hz, hsz]
  apply Array.toList_inj.1
  apply List.ext_getElem?
  intro j
  have hrep : ((List.replicate n x).flatMap c).length = n * sz := by rw [flatMap_len hsz, List.length_replicate]
  by_cases hj : j < n * sz
  · have h1 : j / sz < (List.replicate n x).length := by rw [List.length_replicate]; exact Nat.div_lt_of_lt_mul (by rw [Nat.mul_comm]; exact hj)
    have h2 := flatMap_get hsz (List.replicate n x) (j / sz) (j % sz) h1 (Nat.mod_lt _ hpos)
    rw [Nat.mul_comm, Nat.div_add_mod] at h2
    show (madeCells z (n * sz)).toList[j]? = ((List.replicate n x).flatMap c)[j]?
    rw [h2, nth_replicate n x _ (by simpa using h1), ← hz]
    have hm : j % sz < z.size := by rw [hzs]; exact Nat.mod_lt _ hpos
    simp only [madeCells, Array.toList_map, Array.toList_range, List.getElem?_map, List.getElem?_range hj, Option.map_some, hzs]
    rw [getElem!_pos z _ hm]; simp [hm]
  · rw [List.getElem?_eq_none (by simp [madeCells]; omega), List.getElem?_eq_none (by simp only [hrep]; omega)]
theorem blk_slice (ao : Option Addr) (n k n' k' : Nat) : blk (.slice ao n k) = blk (.slice ao n' k') := by cases ao <;> rfl
theorem cells_new {W : World} {C : Array Value} {cs : List Value} {e : TypeId} {fr : Nat × Nat} {g : Nat} (hg : g = W.heap.size) (hC : C = cs.toArray) : ∀ i u, cs[i]? = some u → (W.alloc (.cells C e fr)).cell? ⟨g, i, none⟩ = some u := by
  intro i u h
  subst hg; subst hC
  rw [cell_of_row _ W.heap.size i _ e fr (heap_alloc_new W _)]
  simpa using h
theorem Blk.fresh {w W : World} {C : Array Value} {xs : List Value} {e : TypeId} {g : Nat} (hg : g = w.heap.size) (hC : C = xs.toArray) (hu : Upd [] (w.alloc (.cells C e)) W) : Blk W g e xs := by
  subst hg; subst hC; exact (Blk.new w e xs).upd hu (by simp)
section
variable {P : Program} {ops : Array Oper} {rest : List Oper} {o : Oper} {a : Act} {w w' : World} {Q : Exit → Act → World → Prop} {K : Act → World → Prop} {E : Prop}
theorem run_appN {α : Type} [Inhabited α] {sz : Nat} {c : α → List Value} (hsz : ∀ x, (c x).length = sz) (hpos : 0 < sz) (hone : ∀ x, ∀ u ∈ c x, u.oneCell' = true) {t ty e : TypeId}
    {z : Value} {bytes base : Nat} (ht : P.underlying t = some (.slice e)) (hi : (P.info? e).map (fun i => (i.zero, i.size, i.bytes)) = some (some z, sz, bytes)) (hz : z.cells.size = sz)
    (v u : Value) (l m : List α) (hv : OwnN sz c base e w v l) (hu : RdN sz c w u m) (hb : (l.length + m.length) * bytes ≤ 140737488355328) (hl : l.length + m.length ≤ maxLen) (hbase : base ≤ w.heap.size) :
    ∃ v' w', (Builtin.append_ #[t, t] ty #[v, u]).run P w = .ok v' w' ∧ OwnN sz c base e w' v' (l ++ m) ∧ Upd (blk v) w w' ∧ (∀ x ∈ blk v', x ∈ blk v ∨ w.heap.size ≤ x) := by
  obtain ⟨i, h1, h2, h3, h4⟩ := info_parts hi
  obtain ⟨A, cap, rfl, hle, hcm, hcell0⟩ := hu
  by_cases hne : m = []
  · subst hne
    have hsz' : (P.info? e).map (·.size) = some sz := by simp [h1, h3]
    obtain ⟨ao, n, k, rfl, hnk⟩ : ∃ ao n k, v = .slice ao n k ∧ n ≤ k := by
      rcases hv.2 with ⟨rfl, _⟩ | ⟨g, cap', cur, rfl, _, _, q, _⟩
      · exact ⟨none, 0, 0, rfl, Nat.le_refl _⟩
      · exact ⟨_, _, _, rfl, q⟩
    exact ⟨_, w, run_app_nothing ht hsz' ao A n k cap hnk, by rw [List.append_nil]; exact hv, Upd.refl _ _, fun x hx => .inl hx⟩
  · obtain ⟨b, off, rfl, hcell⟩ := hcell0 hne
    have hnews : ∀ j u, (m.flatMap c)[j]? = some u → w.cell? ((⟨b, off, none⟩ : Addr).add j) = some u := fun j u hj => by
      rw [add_none]
      obtain ⟨q1, q2⟩ := flatMap_at hsz hpos m j u hj
      have q3 := hcell (j / sz) q1 (j % sz) (Nat.mod_lt _ hpos)
      rw [Nat.mul_comm (j / sz) sz, Nat.div_add_mod] at q3
      rw [q3, q2]
    obtain ⟨v', w', hr, g1, g2, _, g3⟩ := run_append_own_at (P := P) w base t ty e i z sz bytes ht h1 h2 h3 h4 hz hpos v l.length (l.flatMap c) hv ⟨b, off, none⟩ m.length cap (m.flatMap c) (flatMap_len hsz m) hnews
      (fun u hu => by obtain ⟨x, _, hx⟩ := List.mem_flatMap.1 hu; exact hone x u hx) hl hb hbase
    have hown : OwnN sz c base e w' v' (l ++ m) := by
      unfold OwnN; rw [List.length_append, List.flatMap_append]; exact g1
    refine ⟨v', w', hr, hown, by rw [blk_own]; exact Upd.of_grown g2, ?_⟩
    intro x hx
    rw [blk_own] at hx
    rcases g3 with g3 | g3
    · rw [g3, ← blk_own] at hx; exact .inl hx
    · rw [g3] at hx; simp at hx; exact .inr (by omega)
theorem wp_app_of (s x : Operand) {t : TypeId} (ho : o.op = .call { callee := .builtin .append, args := #[s, x], argTypes := #[t, t] }) (v u : Value) (hs : a.eval s = v) (hx : a.eval x = u)
    {R : Value → World → Prop} (hr : ∃ v' w', (Builtin.append_ #[t, t] o.type #[v, u]).run P w = .ok v' w' ∧ R v' w') (h : ∀ v' w', R v' w' → K (a.put o.dst v') w') : o.wp P a w K Q := by
  obtain ⟨v', w', hr, hR⟩ := hr
  unfold Oper.wp execOp
  simp only [ho, resolve, invoke, builtin, Sem.run_bind, Sem.run_pure, Result.andThen_ok, List.map_toArray, List.map_cons, List.map_nil, hs, hx, hr]
  exact h v' w' hR
theorem wpList_app_of (hgd : o.guard = none) (s x : Operand) {t : TypeId} (ho : o.op = .call { callee := .builtin .append, args := #[s, x], argTypes := #[t, t] }) (v u : Value) (hs : a.eval s = v) (hx : a.eval x = u)
    {R : Value → World → Prop} (hr : ∃ v' w', (Builtin.append_ #[t, t] o.type #[v, u]).run P w = .ok v' w' ∧ R v' w') (h : ∀ v' w', R v' w' → wpList P ops Q rest (a.put o.dst v') w') : wpList P ops Q (o :: rest) a w :=
  wpList_plain hgd fun K hK => wp_app_of s x ho v u hs hx hr fun v' w' hR => hK _ _ (h v' w' hR)
theorem step_app_of (hgd : o.guard = none) (s x : Operand) {t : TypeId} (ho : o.op = .call { callee := .builtin .append, args := #[s, x], argTypes := #[t, t] }) (v u : Value) (hs : a.eval s = v) (hx : a.eval x = u)
    {R : Value → World → Prop} (hr : ∃ v' w', (Builtin.append_ #[t, t] o.type #[v, u]).run P w = .ok v' w' ∧ R v' w') (h : ∀ v' w', R v' w' → K (a.put o.dst v') w') :
    if Region.wanted o (yielded ops a.tmps) = true then Oper.wp P o a w K Q else E := by
  have hw : Region.wanted o (yielded ops a.tmps) = true := by simp [Region.wanted, hgd]
  rw [if_pos hw]
  exact wp_app_of s x ho v u hs hx hr h
end
end Go.Proofs.YtmhojaiajhdlcaaGreat
namespace Go.Proofs.YtmhojaiajhdlcaaGreat
open Go.RowKit
set_option linter.unusedSimpArgs false
set_option linter.unusedVariables false
theorem infoRec3 : (Tryz.prog.info? 27).map (fun i => (i.zero, i.size, i.bytes)) = some (some (.agg #[.int .i64 0, .int .i64 0, .int .i64 0, .string ⟨#[]⟩, .int .i64 0, .int .i64 0, .int .i64 0, .int .i64 0, .int .i64 0, .int .i64 0, .int .i64 0, .int .i64 0, .int .i64 0, .int .i64 0, .int .i64 0]), 15, 128) := by kernel_rfl
theorem undRec : Tryz.prog.underlying 36 = some (.slice 27) := by kernel_rfl
theorem own_slice {base : Nat} {e : TypeId} {w : World} {v : Value} {l : List Rec} (h : OwnN 15 recCells base e w v l) : ∃ a k, v = .slice a l.length k ∧ l.length ≤ k ∧ k ≤ maxLen := by
  obtain ⟨a, k, h1, h2, h3, _⟩ := h.rd recCells_len
  exact ⟨a, k, h1, h2, h3⟩
section
variable {P : Program} {ops : Array Oper} {rest : List Oper} {o : Oper} {a : Act} {w : World} {Q : Exit → Act → World → Prop}
theorem wpList_map_of (hgd : o.guard = none) (m x v : Operand) {t : TypeId} (ho : o.op = Op.mapUpdate t m x v) (vm key val : Value) (hm : a.eval m = vm) (hx : a.eval x = key) (hv : a.eval v = val)
    {R : World → Prop} (hr : ∃ w', (Instr.mapUpdate t vm key val).run P w = .ok () w' ∧ R w') (h : ∀ w', R w' → wpList P ops Q rest (a.put o.dst undef) w') : wpList P ops Q (o :: rest) a w := by
  obtain ⟨w', hrun, hR⟩ := hr
  refine wpList_plain hgd fun K' hK' => ?_
  unfold Oper.wp
  simp [execOp, ho, hm, hx, hv, hrun, Result.andThen]
  exact hK' _ _ (h w' hR)
end
section
variable {w0 w w' : World} {gl gd gm : Nat} {lv : Value} {rl : List Rec}
set_option maxRecDepth 20000 in
set_option maxHeartbeats 4000000 in
theorem ledKeep_c (h : LC w0 w gl gd gm lv rl) (ino gen at_ : Int) (rule : ByteArray) (kind c0 c1 c2 c3 c4 c5 c6 c7 c8 c9 : Int) (hk : Key64 ⟨ino, gen, at_, rule⟩) (hl : rl.length ≤ 100000000) :
    Calls Tryz.prog 74 #[.pointer (some ⟨gl, 0, none⟩), mkVal ino gen at_ rule kind c0 c1 c2 c3 c4 c5 c6 c7 c8 c9] w fun e w' => e = .returned (.tuple #[]) ∧ ∃ lv', LC w0 w' gl gd gm lv' (rl ++ [mkRec ino gen at_ rule kind c0 c1 c2 c3 c4 c5 c6 c7 c8 c9]) ∧ Upd (lfoot gl gm lv) w w' ∧ (∀ x ∈ blk lv', x ∈ blk lv ∨ w.heap.size ≤ x) := by
  obtain ⟨ao, co, rfl, hlc, hcm⟩ := own_slice h.rows
  have hu1 : Upd [] w (w.alloc (.cells #[.int .i64 ino, .int .i64 gen, .int .i64 at_, .string rule, .int .i64 kind, .int .i64 c0, .int .i64 c1, .int .i64 c2, .int .i64 c3, .int .i64 c4, .int .i64 c5, .int .i64 c6, .int .i64 c7, .int .i64 c8, .int .i64 c9] 27)) := (Upd.refl [] w).alloc _
  have HU1 := Lib.hid hu1
  have H1 := Lib.hid (h.upd0 hu1)
  have hb1 : Blk (w.alloc (.cells #[.int .i64 ino, .int .i64 gen, .int .i64 at_, .string rule, .int .i64 kind, .int .i64 c0, .int .i64 c1, .int .i64 c2, .int .i64 c3, .int .i64 c4, .int .i64 c5, .int .i64 c6, .int .i64 c7, .int .i64 c8, .int .i64 c9] 27)) w.heap.size 27 [.int .i64 ino, .int .i64 gen, .int .i64 at_, .string rule, .int .i64 kind, .int .i64 c0, .int .i64 c1, .int .i64 c2, .int .i64 c3, .int .i64 c4, .int .i64 c5, .int .i64 c6, .int .i64 c7, .int .i64 c8, .int .i64 c9] := Blk.new w _ [.int .i64 ino, .int .i64 gen, .int .i64 at_, .string rule, .int .i64 kind, .int .i64 c0, .int .i64 c1, .int .i64 c2, .int .i64 c3, .int .i64 c4, .int .i64 c5, .int .i64 c6, .int .i64 c7, .int .i64 c8, .int .i64 c9]
  have HB1 := Lib.hid hb1
  have HK := Lib.hid hk
  have HL := Lib.hid hl
  have hg := (h.ge gl (by simp)).2
  have hco : co ≤ 9223372036854775807 := by unfold maxLen at hcm; omega
  have HGE := Lib.hid h.ge
  clear h hu1 hk hl hcm
  go_enter Tryz.func74, Tryz.ntmps74
  go_wp2_with fail
  have d0 := hb1.cell 0
  have d1 := hb1.cell 1
  have d2 := hb1.cell 2
  have d3 := hb1.cell 3
  have d4 := hb1.cell 4
  have d5 := hb1.cell 5
  have d6 := hb1.cell 6
  have d7 := hb1.cell 7
  have d8 := hb1.cell 8
  have d9 := hb1.cell 9
  have d10 := hb1.cell 10
  have d11 := hb1.cell 11
  have d12 := hb1.cell 12
  have d13 := hb1.cell 13
  have d14 := hb1.cell 14
  simp only [List.getElem?_cons_zero, List.getElem?_cons_succ] at d0 d1 d2 d3 d4 d5 d6 d7 d8 d9 d10 d11 d12 d13 d14
  have HSZ : Hid (w.heap.size + 1 = (w.alloc (.cells #[.int .i64 ino, .int .i64 gen, .int .i64 at_, .string rule, .int .i64 kind, .int .i64 c0, .int .i64 c1, .int .i64 c2, .int .i64 c3, .int .i64 c4, .int .i64 c5, .int .i64 c6, .int .i64 c7, .int .i64 c8, .int .i64 c9] 27)).heap.size) := by unfold Hid; simp
  generalize w.alloc (.cells #[.int .i64 ino, .int .i64 gen, .int .i64 at_, .string rule, .int .i64 kind, .int .i64 c0, .int .i64 c1, .int .i64 c2, .int .i64 c3, .int .i64 c4, .int .i64 c5, .int .i64 c6, .int .i64 c7, .int .i64 c8, .int .i64 c9] 27) = w1 at *
  have gc1 : w1.cell? ⟨gl, 1, none⟩ = some (.slice ao rl.length co) := H1.out.top.cell 1
  have f1 := H1.out.top.frozen 1
  have hg1 : gl < w1.heap.size := H1.out.top.lt
  have hx1 : w.heap.size < w1.heap.size := HB1.out.lt
  have hu2 : Upd [] w1 (w1.drew.alloc (.cells #[.int .i64 ino, .int .i64 gen, .int .i64 at_, .string rule, .int .i64 kind, .int .i64 c0, .int .i64 c1, .int .i64 c2, .int .i64 c3, .int .i64 c4, .int .i64 c5, .int .i64 c6, .int .i64 c7, .int .i64 c8, .int .i64 c9] 27)) := (Upd.refl [] w1).drew.alloc _
  have hnb : Blk (w1.drew.alloc (.cells #[.int .i64 ino, .int .i64 gen, .int .i64 at_, .string rule, .int .i64 kind, .int .i64 c0, .int .i64 c1, .int .i64 c2, .int .i64 c3, .int .i64 c4, .int .i64 c5, .int .i64 c6, .int .i64 c7, .int .i64 c8, .int .i64 c9] 27)) w1.heap.size 27 [.int .i64 ino, .int .i64 gen, .int .i64 at_, .string rule, .int .i64 kind, .int .i64 c0, .int .i64 c1, .int .i64 c2, .int .i64 c3, .int .i64 c4, .int .i64 c5, .int .i64 c6, .int .i64 c7, .int .i64 c8, .int .i64 c9] := Blk.new w1.drew _ _
  have HRD : RdN 15 recCells (w1.drew.alloc (.cells #[.int .i64 ino, .int .i64 gen, .int .i64 at_, .string rule, .int .i64 kind, .int .i64 c0, .int .i64 c1, .int .i64 c2, .int .i64 c3, .int .i64 c4, .int .i64 c5, .int .i64 c6, .int .i64 c7, .int .i64 c8, .int .i64 c9] 27)) (.slice (some ⟨w1.heap.size, 0, none⟩) 1 1) [mkRec ino gen at_ rule kind c0 c1 c2 c3 c4 c5 c6 c7 c8 c9] := by
    refine ⟨_, 1, rfl, by simp, by simp [maxLen], fun _ => ⟨w1.heap.size, 0, rfl, fun j hj i hi => ?_⟩⟩
    have hj0 : j = 0 := by simpa using hj
    subst hj0
    rw [Nat.zero_mul, Nat.zero_add, Nat.zero_add, hnb.cell]; rfl
  have HRUN := Lib.hid (fun ty => run_appN (P := Tryz.prog) (ty := ty) recCells_len (by decide) recCells_one undRec infoRec3 rfl _ _ rl [mkRec ino gen at_ rule kind c0 c1 c2 c3 c4 c5 c6 c7 c8 c9] (H1.out.rows.upd hu2 (by simp)) HRD (by have := HL.out; simp; omega) (by have := HL.out; simp [maxLen]; omega) (H1.out.old.seq hu2).size)
  have HTOP := Lib.hid (H1.out.top.upd hu2 (by simp))
  have HGL := Lib.hid H1.out.gll
  have HU2 := Lib.hid hu2
  have HBX := Lib.hid (HB1.out.upd hu2 (by simp))
  clear hu2 hnb HRD
  go_region_law (first | ((with_reducible refine step_app_of rfl (.tmp 8) (.tmp 10) rfl (.slice ao rl.length co) (.slice (some ⟨w1.heap.size, 0, none⟩) 1 1) rfl rfl (HRUN.out _) ?_); (rintro v4 w4 ⟨ho4, hu4, hk4⟩; obtain ⟨a4, k4, rfl, -⟩ := own_slice ho4; have ht4 := HTOP.out.upd hu4 HGL.out; have gc4 := ht4.cell 1; have f4 := ht4.frozen 1; have HT4 := Lib.hid ht4; have HO4 := Lib.hid ho4; have HU4 := Lib.hid hu4; have HK4 := Lib.hid hk4; clear ho4 hu4 hk4 ht4; dsimp only)))
  all_goals
    have hset : Upd [gl] w4 (w4.setCell ⟨gl, 1, none⟩ (.slice a4 (rl.length + 1) k4)) := (Upd.refl [gl] w4).setCell _ _ (.inl (by simp))
    have hgm := H1.out.glm
    have hall4 : Upd (blk (Value.slice ao rl.length co)) w1 w4 := HU2.out.trans HU4.out (by simp) (fun x hx => .inl hx)
    have ht5 : Blk (w4.setCell ⟨gl, 1, none⟩ (.slice a4 (rl.length + 1) k4)) gl 123 [.pointer (some ⟨gd, 0, none⟩), .slice a4 (rl.length + 1) k4, .map (some gm)] := HT4.out.set_ 1 _
    have hm5 : KMap (w4.setCell ⟨gl, 1, none⟩ (.slice a4 (rl.length + 1) k4)) gm rl := (H1.out.map.upd hall4 H1.out.gml).upd hset (by simp; exact fun q => hgm q.symm)
    have hbx5 : Blk (w4.setCell ⟨gl, 1, none⟩ (.slice a4 (rl.length + 1) k4)) w.heap.size 27 [.int .i64 ino, .int .i64 gen, .int .i64 at_, .string rule, .int .i64 kind, .int .i64 c0, .int .i64 c1, .int .i64 c2, .int .i64 c3, .int .i64 c4, .int .i64 c5, .int .i64 c6, .int .i64 c7, .int .i64 c8, .int .i64 c9] := ((HBX.out.upd HU4.out (fun hx => by have := (HGE.out _ (lf_row hx)).2; omega))).upd hset (by simp; omega)
    have ho5 : OwnN 15 recCells w0.heap.size 27 (w4.setCell ⟨gl, 1, none⟩ (.slice a4 (rl.length + 1) k4)) (.slice a4 (rl.length + 1) k4) (rl ++ [mkRec ino gen at_ rule kind c0 c1 c2 c3 c4 c5 c6 c7 c8 c9]) := by
      have ho4 := HO4.out
      rw [List.length_append, List.length_singleton] at ho4
      refine ho4.upd hset (fun x hx hx' => ?_)
      simp at hx'
      subst hx'
      obtain ⟨C, f, h1⟩ := ho4.typ x hx
      have h2 : w4.heap[x]? = some (.cells _ _ _) := HT4.out
      rw [h1] at h2
      injection h2 with h2; injection h2 with _ h2
      exact absurd h2 (by decide)
    have hu5 : Upd (lfoot gl gm (Value.slice ao rl.length co)) w (w4.setCell ⟨gl, 1, none⟩ (.slice a4 (rl.length + 1) k4)) := (HU1.out.mono (by simp)).trans (hall4.trans hset (T := lfoot gl gm (Value.slice ao rl.length co)) (fun x hx => lf_row hx) (fun x hx => .inl (by simp at hx; subst hx; exact lf_top _ _ _))) (fun x hx => hx) (fun x hx => .inl hx)
    have hold5 : Upd [] w0 (w4.setCell ⟨gl, 1, none⟩ (.slice a4 (rl.length + 1) k4)) := (H1.out.old.trans (T := []) hall4 (by simp) (fun x hx => .inr (H1.out.rows.ge x hx).1)).trans hset (by simp) (fun x hx => .inr (by simp at hx; subst hx; exact H1.out.glb))
    have HK5 : Hid (∀ x ∈ blk (Value.slice a4 (rl.length + 1) k4), x ∈ blk (Value.slice ao rl.length co) ∨ w.heap.size ≤ x) := fun x hx => by
      have hx' : x ∈ blk (Value.slice a4 (rl ++ [mkRec ino gen at_ rule kind c0 c1 c2 c3 c4 c5 c6 c7 c8 c9]).length k4) := by
        cases a4 with
        | none => simp [blk] at hx
        | some q => simpa [blk] using hx
      rcases HK4.out x hx' with q | q
      · exact .inl q
      · have := HU1.out.size; have := HU2.out.size; exact .inr (by omega)
    have HGLB := Lib.hid H1.out.glb
    have HGMB := Lib.hid H1.out.gmb
    generalize w4.setCell ⟨gl, 1, none⟩ (.slice a4 (rl.length + 1) k4) = w5 at *
    have HM := Lib.hid ((hm5.upd (Upd.refl [] w5).drew (by simp)).put (mkRec ino gen at_ rule kind c0 c1 c2 c3 c4 c5 c6 c7 c8 c9) HK.out (by have := HL.out; omega) ((rl.length : Int) + 1) (by simp))
    have HT5 := Lib.hid ht5
    have HM5 := Lib.hid hm5
    have HO5 := Lib.hid ho5
    have HU5 := Lib.hid hu5
    have HD5 := Lib.hid hold5
    have HGM := Lib.hid hgm
    have k0 := hbx5.cell 0
    have k1 := hbx5.cell 1
    have k2 := hbx5.cell 2
    have k3 := hbx5.cell 3
    simp only [List.getElem?_cons_zero, List.getElem?_cons_succ] at k0 k1 k2 k3
    have g1 : w5.cell? ⟨gl, 1, none⟩ = some (.slice a4 (rl.length + 1) k4) := ht5.cell 1
    have g2 : w5.cell? ⟨gl, 2, none⟩ = some (.map (some gm)) := ht5.cell 2
    clear hset hgm hall4 ht5 hm5 hbx5 ho5 hu5 hold5 HRUN HTOP HGL HU2 HBX HT4 HO4 HU4 HK4 gc1 f1 gc4 f4 hb1 HB1 H1 HU1 HGE d0 d1 d2 d3 d4 d5 d6 d7 d8 d9 d10 d11 d12 d13 d14
    go_wp2_with fail
    go_still_tail 11, (by kernel_rfl)
    change wpList _ _ _ _ _ w5.drew
    go_wp2_with (at_mapUpdate; go_must (refine wpList_map_of rfl _ _ _ rfl (.map (some gm)) (keyVal ⟨ino, gen, at_, rule⟩) (.int .i64 ((rl.length : Int) + 1)) rfl rfl rfl HM.out ?_; rintro w6 ⟨hm6, hu6⟩; have HM6 := Lib.hid hm6; have HU6 := Lib.hid hu6; clear hm6 hu6 HM; dsimp only))
    go_end0
    have hu6' : Upd [gm] w5 w6 := (Upd.refl [] w5).drew.trans HU6.out (by simp) (fun x hx => .inl hx)
    refine ⟨rfl, .slice a4 (rl.length + 1) k4, ⟨HT5.out.upd hu6' (by simp; exact HGM.out), HO5.out.upd hu6' (fun x hx hx' => ?_), HM6.out, HGLB.out, HGMB.out, HD5.out.trans hu6' (by simp) (fun x hx => .inr (by simp at hx; subst hx; exact HGMB.out))⟩, HU5.out.trans hu6' (fun x hx => hx) (fun x hx => .inl (by simp at hx; subst hx; exact lf_map _ _ _)), HK5.out⟩
    simp at hx'
    subst hx'
    obtain ⟨C, f, h1⟩ := (HO5.out).typ x hx
    obtain ⟨es, clock, h2⟩ := HM5.out.typ
    rw [h1] at h2; exact absurd h2 (by simp)
theorem ledKeep_any (h : LC w0 w gl gd gm lv rl) (r : Rec) (hk : Key64 r.key) (hl : rl.length ≤ 100000000) :
    Calls Tryz.prog 74 #[.pointer (some ⟨gl, 0, none⟩), recVal r] w fun e w' => e = .returned (.tuple #[]) ∧ ∃ lv', LC w0 w' gl gd gm lv' (rl ++ [r]) ∧ Upd (lfoot gl gm lv) w w' ∧ (∀ x ∈ blk lv', x ∈ blk lv ∨ w.heap.size ≤ x) := by
  obtain ⟨ino, gen, at_, rule, kind, c0, c1, c2, c3, c4, c5, c6, c7, c8, c9, rfl⟩ := rec_mk r
  exact ledKeep_c h ino gen at_ rule kind c0 c1 c2 c3 c4 c5 c6 c7 c8 c9 hk hl
end
end Go.Proofs.YtmhojaiajhdlcaaGreat
namespace Go.Proofs.YtmhojaiajhdlcaaGreat
open Go.RowKit
set_option linter.unusedSimpArgs false
set_option linter.unusedVariables false
theorem run_cut {P : Program} {t e : TypeId} {size : Nat} (ht : P.underlying t = some (.slice e)) (hi : (P.info? e).map (·.size) = some size) (a : Option Addr) (n cap k : Nat) (hk : k ≤ n) (W : World) :
    (Instr.slice t (.slice a n cap) (some (.int .i64 (k : Int))) none none).run P W = .ok (.slice (if cap = k then a else a.map (·.add (k * size))) (n - k) (cap - k)) W := by
  have he : P.elem t = e := by simp [Program.elem, ht]
  obtain ⟨i, h1, h2⟩ : ∃ i, P.info? e = some i ∧ i.size = size := by
    cases hq : P.info? e with
    | none => simp [hq] at hi
    | some i => exact ⟨i, rfl, by simpa [hq] using hi⟩
  rw [run_slice_l (P := P) (w := W) t a n cap (by rw [he]; exact ht) .i64 (k : Int) (by omega) (by omega), he]
  simp [sizeOf, typeInfo, h1, h2, sliced]
theorem run_cut_h {P : Program} {t e : TypeId} {size : Nat} (ht : P.underlying t = some (.slice e)) (hi : (P.info? e).map (·.size) = some size) (a : Option Addr) (n cap k : Nat) (hk : k ≤ cap) (W : World) :
    (Instr.slice t (.slice a n cap) none (some (.int .i64 (k : Int))) none).run P W = .ok (.slice a k cap) W := by
  have he : P.elem t = e := by simp [Program.elem, ht]
  obtain ⟨i, h1, h2⟩ : ∃ i, P.info? e = some i ∧ i.size = size := by
    cases hq : P.info? e with
    | none => simp [hq] at hi
    | some i => exact ⟨i, rfl, by simpa [hq] using hi⟩
  rw [run_slice_h (P := P) (w := W) t a n cap (by rw [he]; exact ht) .i64 (k : Int) (by omega) (by omega), he]
  simp [sizeOf, typeInfo, h1, h2, sliced]
  intro _
  cases a with
  | none => rfl
  | some x => obtain ⟨b, off, arr⟩ := x; simp only [Option.map_some, Addr.add]; cases arr <;> simp
theorem run_cut_lh {P : Program} {t e : TypeId} {size : Nat} (ht : P.underlying t = some (.slice e)) (hi : (P.info? e).map (·.size) = some size) (a : Option Addr) (n cap k m : Nat) (hk : k ≤ m) (hm : m ≤ cap) (W : World) (K M : Int) (hK : K = (k : Int)) (hM : M = (m : Int)) :
    (Instr.slice t (.slice a n cap) (some (.int .i64 K)) (some (.int .i64 M)) none).run P W = .ok (.slice (if cap = k then a else a.map (·.add (k * size))) (m - k) (cap - k)) W := by
  subst hK; subst hM
  have he : P.elem t = e := by simp [Program.elem, ht]
  obtain ⟨i, h1, h2⟩ : ∃ i, P.info? e = some i ∧ i.size = size := by
    cases hq : P.info? e with
    | none => simp [hq] at hi
    | some i => exact ⟨i, rfl, by simpa [hq] using hi⟩
  rw [run_slice_lh (P := P) (w := W) t a n cap (by rw [he]; exact ht) .i64 .i64 (k : Int) (m : Int) (by omega) (by omega) (by omega), he]
  simp [sizeOf, typeInfo, h1, h2, sliced]
theorem run_cut_hm {P : Program} {t e : TypeId} {size : Nat} (ht : P.underlying t = some (.slice e)) (hi : (P.info? e).map (·.size) = some size) (a : Option Addr) (n cap m : Nat) (hm : m ≤ cap) (W : World) :
    (Instr.slice t (.slice a n cap) none (some (.int .i64 (m : Int))) (some (.int .i64 (m : Int)))).run P W = .ok (.slice a m m) W := by
  have he : P.elem t = e := by simp [Program.elem, ht]
  obtain ⟨i, h1, h2⟩ : ∃ i, P.info? e = some i ∧ i.size = size := by
    cases hq : P.info? e with
    | none => simp [hq] at hi
    | some i => exact ⟨i, rfl, by simpa [hq] using hi⟩
  rw [run_slice_hm (P := P) (w := W) t a n cap (by rw [he]; exact ht) .i64 .i64 (m : Int) (m : Int) (by omega) (by omega) (by omega), he]
  simp [sizeOf, typeInfo, h1, h2, sliced]
  intro _
  cases a with
  | none => rfl
  | some x => obtain ⟨b, off, arr⟩ := x; simp only [Option.map_some, Addr.add]; cases arr <;> simp
end Go.Proofs.YtmhojaiajhdlcaaGreat
