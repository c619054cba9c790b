/- Chapter 2: Text, Flag, List. -/
import Derived.Test.YthnmlifnlmdelaaWireNum
import Derived.Test.YthnmlifnlmdelaaStrApp
namespace Go.Proofs.Ythnmlifnlmdelaa
open Go.RowKit
set_option linter.unusedSimpArgs false
set_option linter.unusedVariables false
theorem i64_mk {x : Int} (h : -9223372036854775808 ≤ x) (h2 : x ≤ 9223372036854775807) : I64 x := ⟨h, h2⟩
def encText (s : ByteArray) : List UInt8 := encNum s.size ++ s.data.toList
def encFlag (f : Bool) : List UInt8 := encNum (if f then 1 else 0)
def encList (l : List Int) : List UInt8 := encNum l.length ++ l.flatMap (fun x => encNum x.toNat)
theorem fFlag_any (v : Value) (l : List UInt8) (f : Bool) (w : World) (h : Bytes w v l) (hz : l.length ≤ 90000000000) :
    Calls Try.prog 28 #[v, .bool f] w fun e w' => ∃ x, e = .returned x ∧ Own bv w.heap.size 5 w' x (l ++ encFlag f) ∧ Upd [] w w' := by
  have H := Lib.hid h
  go_enter Try.func28, Try.ntmps28
  cases f
  · go_wp2_with fail
    with_reducible refine (fNum_any _ l 0 _ H.out hz (i64_mk (by decide) (by decide))).mono ?_
    rintro e w1 ⟨v1, rfl, ho1, hu1⟩
    go_wp2_with fail
    go_ret
    exact ⟨_, rfl, ho1, hu1⟩
  · go_wp2_with fail
    with_reducible refine (fNum_any _ l 1 _ H.out hz (i64_mk (by decide) (by decide))).mono ?_
    rintro e w1 ⟨v1, rfl, ho1, hu1⟩
    go_wp2_with fail
    go_ret
    exact ⟨_, rfl, ho1, hu1⟩
set_option maxHeartbeats 1000000 in
theorem fText_any (v : Value) (l : List UInt8) (S : ByteArray) (w : World) (h : Bytes w v l) (hz : l.length ≤ 80000000000) (hs : S.size ≤ 10000000000) :
    Calls Try.prog 27 #[v, .string S] w fun e w' => ∃ x, e = .returned x ∧ Own bv w.heap.size 5 w' x (l ++ encText S) ∧ Upd [] w w' := by
  have H := Lib.hid h
  have h8 := nb_le8 S.size (by omega)
  have hel := encNum_len S.size
  have HE : Hid (l ++ encText S = (l ++ encNum S.size) ++ S.data.toList) := by unfold Hid encText; rw [List.append_assoc]
  go_enter Try.func27, Try.ntmps27
  go_wp2_with fail
  with_reducible refine (fMore_any _ l (9 + S.size) (9 + (S.size : Int)) (by omega) _ H.out (by omega) (by omega)).mono ?_
  rintro e w1 ⟨v1, rfl, ho1, hu1⟩
  have HO1 := Lib.hid ho1
  have HU1 := Lib.hid hu1
  clear ho1 hu1
  go_wp2_with fail
  with_reducible refine (fNum_any _ l (S.size : Int) _ HO1.out.rd (by omega) (i64_mk (by omega) (by omega))).mono ?_
  rintro e w2 ⟨v2, rfl, ho2, hu2⟩
  have HO2 := Lib.hid (ho2.base_le HU1.out.size)
  have HU2 := Lib.hid (HU1.out.seq hu2)
  have hs2 := HU2.out.size
  clear ho2 hu2
  rw [Int.toNat_natCast] at HO2
  have hl2 : (l ++ encNum S.size).length = l.length + (1 + nb S.size) := by rw [List.length_append, hel]
  generalize l ++ encNum S.size = l2 at *
  go_wp2_with (at_builtin; refine wpList_app_str rfl (.tmp 14) (.tmp 15) rfl Try.underlying22 Try.underlying9 infoByte v2 S l2 rfl rfl HO2.out (by omega) (by unfold maxLen; omega) hs2 ?_; intro v3 w3 ho hu; have HU3 : Hid (Upd [] w w3) := HU2.out.trans hu (by simp) (fun x hx => .inr (HO2.out.ge x hx).1); have HO3 := Lib.hid ho; clear ho hu)
  go_ret
  exact ⟨_, rfl, by rw [HE.out]; exact HO3.out, HU3.out⟩
theorem fPuts_any (v : Value) (l : List UInt8) (M : Int) (w : World) (h : Bytes w v l) (hz : l.length ≤ 90000000000) (hM : I64 M) :
    Calls Try.prog 30 #[v, .int .i64 M] w fun e w' => ∃ x, e = .returned x ∧ Own bv w.heap.size 5 w' x (l ++ encNum M.toNat) ∧ Upd [] w w' := by
  have H := Lib.hid h
  go_enter Try.func30, Try.ntmps30
  go_wp2_with fail
  with_reducible refine (fNum_any _ l M _ H.out hz hM).mono ?_
  rintro e w1 ⟨v1, rfl, ho1, hu1⟩
  go_wp2_with fail
  go_ret
  exact ⟨_, rfl, ho1, hu1⟩
set_option maxHeartbeats 1000000 in
theorem fList_any (v u : Value) (l : List UInt8) (ns : List Int) (w : World) (h : Bytes w v l) (h2 : Rd iv w u ns) (hn : ∀ x ∈ ns, I64 x) (hz : l.length ≤ 50000000000) (hz2 : ns.length ≤ 10000000) :
    Calls Try.prog 29 #[v, u, .func (.func 30) #[] #[]] w fun e w' => ∃ x, e = .returned x ∧ Own bv w.heap.size 5 w' x (l ++ encList ns) ∧ Upd [] w w' := by
  have H := Lib.hid h
  obtain ⟨a2, cap2, rfl, hlc, hm, hc⟩ := h2
  have HC := Lib.hid hc
  have HN := Lib.hid hn
  clear hc hn hm hlc
  go_enter Try.func29, Try.ntmps29
  go_wp2_with fail
  with_reducible refine (fNum_any _ l (ns.length : Int) _ H.out (by omega) (i64_mk (by omega) (by omega))).mono ?_
  rintro e w1 ⟨v1, rfl, ho1, hu1⟩
  have HO1 := Lib.hid ho1
  have HU1 := Lib.hid hu1
  clear ho1 hu1
  rw [Int.toNat_natCast] at HO1
  go_wp2_with fail
  have h8 := nb_le8 ns.length (by omega)
  have hel := encNum_len ns.length
  have hen : (l ++ encNum ns.length).length = l.length + (1 + nb ns.length) := by rw [List.length_append, hel]
  have HFIN : Hid (l ++ encList ns = (l ++ encNum ns.length) ++ (ns.take ns.length).flatMap (fun x => encNum x.toNat)) := by unfold Hid encList; rw [List.take_length, List.append_assoc]
  generalize l ++ encNum ns.length = l1 at *
  clear hel
  go_loopw [7, 9, 16] (fun b y i wr => ∃ (k : Nat) (c : List UInt8), i = .int .i64 (k : Int) ∧ k ≤ ns.length ∧ c = l1 ++ (ns.take k).flatMap (fun x => encNum x.toNat) ∧ c.length ≤ l.length + 9 + 9 * k ∧ Hid (Own bv w.heap.size 5 wr b c) ∧ Hid (Upd [] w wr)) (fun _ _ i _ => ns.length - (intOf i).toNat)
  case atStart => exact ⟨0, l1, rfl, Nat.zero_le _, by simp, by omega, HO1, HU1⟩
  case round =>
    obtain ⟨k, c, rfl, hk, hce, hcl, hob, hu⟩ := hrel
    have HCE := Lib.hid hce
    clear hce
    by_cases hlt : k < ns.length
    · obtain ⟨b, off, rfl, hc⟩ := HC.out (by intro e; rw [e] at hlt; simp at hlt)
      have hck := hu.out.cell (hc k hlt) (by simp)
      have hin := HN.out (nth ns k) (by rw [nth_get ns k hlt]; exact List.getElem_mem hlt)
      have HST : Hid (c ++ encNum (nth ns k).toNat = l1 ++ (ns.take (k + 1)).flatMap (fun x => encNum x.toNat)) := by
        unfold Hid; rw [HCE.out, List.take_succ_eq_append_getElem hlt, List.flatMap_append, nth_get ns k hlt]; simp
      have h8k := nb_le8 (nth ns k).toNat (by have := hin.2; omega)
      have hel2 := encNum_len (nth ns k).toNat
      have hcl2 : (c ++ encNum (nth ns k).toNat).length = c.length + (1 + nb (nth ns k).toNat) := by rw [List.length_append, hel2]
      generalize nth ns k = x at *
      clear hc hel2
      have HIN := Lib.hid hin
      clear hin
      go_wp2_with fail
      with_reducible refine (fPuts_any _ c x _ hob.out.rd (by omega) HIN.out).mono ?_
      rintro e w2 ⟨v2, rfl, ho2, hu2⟩
      have HO2 := Lib.hid (ho2.base_le hu.out.size)
      have HU2 := Lib.hid (hu.out.seq hu2)
      clear ho2 hu2
      go_wp2_with fail
      go_roundw
      case rel => exact ⟨k + 1, _, by go_num, by omega, HST.out, by omega, HO2, HU2⟩
      case measure => simp [intOf]; omega
    · obtain rfl : k = ns.length := by omega
      have HF : Hid (c = l ++ encList ns) := by unfold Hid; rw [HFIN.out, HCE.out]
      go_wp2_with fail
      go_ret
      exact ⟨_, rfl, by rw [← HF.out]; exact hob.out, hu.out⟩
end Go.Proofs.Ythnmlifnlmdelaa
