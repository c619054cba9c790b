/- The lines of bytes. -/
import Derived.Test.YtfpibngdpooedaaLine
import Derived.Test.YtfpibngdpooedaaBookStr
import Derived.Laws.IdiomStrings
namespace Go.Proofs.Ytfpibngdpooedaa
open Go.RowKit
set_option linter.unusedSimpArgs false
set_option linter.unusedVariables false

theorem conv_str {P : Program} {src dst e : TypeId} (hs : P.underlying src = some (.slice e)) (he : P.underlying e = some (.int .u8)) (hd : P.underlying dst = some .string) (w : World) (v : Value) (l : List UInt8) (h : Bytes w v l) :
    (convert src dst v).run P w = .ok (.string ⟨l.toArray⟩) w := by
  obtain ⟨a, cap, rfl, h1, h2, h3⟩ := h
  by_cases hne : l = []
  · subst hne
    cases a with
    | none => rw [run_convert_bytes_string w src dst e _ _ _ hs he hd]; simp [Conv.bytesToString]; rfl
    | some a => exact run_convert_bytes_back w src dst e a cap [] hs he hd (fun j hj => absurd hj (by simp))
  · obtain ⟨b, off, rfl, hc⟩ := h3 hne
    exact run_convert_bytes_back w src dst e _ cap l hs he hd (fun j hj => by rw [add_none, hc j hj, nth_get l j hj])
def textOf (l : List UInt8) : ByteArray := ⟨l.toArray⟩
/-- The lines so far, the splitter's state, where the next line begins. -/
structure CutSt where
  out : List ByteArray
  n : Nat
  long : Bool
  frm : Nat
def cutStep (b : List UInt8) (s : CutSt) (i : Nat) : CutSt :=
  let r := lineStep s.n s.long (nth b i)
  { out := if r.1 = 2 then s.out ++ [textOf ((b.drop s.frm).take (i - s.frm))] else s.out, n := r.2.1, long := r.2.2, frm := if r.1 = 2 ∨ r.1 = 5 then i + 1 else s.frm }
def cutTo (b : List UInt8) : Nat → CutSt
  | 0 => ⟨[], 0, false, 0⟩
  | k + 1 => cutStep b (cutTo b k) k
def cutLines (b : List UInt8) : List ByteArray := (cutTo b b.length).out
theorem cutTo_inv (b : List UInt8) (k : Nat) : (cutTo b k).n ≤ 200 ∧ (cutTo b k).frm ≤ k ∧ (cutTo b k).out.length ≤ k := by
  induction k with
  | zero => simp [cutTo]
  | succ k ih =>
    obtain ⟨h1, h2, h3⟩ := ih
    simp only [cutTo, cutStep]
    refine ⟨lineStep_le _ _ _ h1, ?_, ?_⟩
    · split <;> omega
    · split
      · rw [List.length_append]; simp; omega
      · omega
theorem infoStr : (Try.prog.info? 9).map (fun i => (i.zero, i.size, i.bytes)) = some (some (.string ByteArray.empty), 1, 16) := by kernel_rfl
theorem sv_one (x : ByteArray) : (sv x).oneCell' = true := rfl

set_option maxRecDepth 20000 in
set_option maxHeartbeats 2000000 in
theorem cut_any (w : World) (v : Value) (l : List UInt8) (h : Bytes w v l) (hz : l.length ≤ 1048576) :
    Calls Try.prog 36 #[v] w fun e w' => ∃ u, e = .returned u ∧ Own sv w.heap.size 9 w' u (cutLines l) ∧ Upd [] w w' := by
  have h0 := h
  obtain ⟨a, cap, rfl, hlc, hcm, hc⟩ := h
  have HC := Lib.hid hc
  have H := Lib.hid h0
  clear hcm hc h0
  go_enter Try.func36, Try.ntmps36
  go_wp2_with fail
  refine (lineNew_any _).mono ?_
  rintro e w1 ⟨rfl, hs, hu⟩
  have HS := Lib.hid hs
  have HU := Lib.hid hu
  clear hs hu
  go_wp2_with fail
  go_loopw [3, 5, 11] (fun t f i wr => ∃ k : Nat, k ≤ l.length ∧ i = .int .i64 k ∧ f = .int .i64 ((cutTo l k).frm : Int) ∧ Hid (Own sv (w.heap.size + 1) 9 wr t (cutTo l k).out) ∧ Hid (SplBlk wr w.heap.size (cutTo l k).n (cutTo l k).long) ∧ Hid (Upd [] w wr)) (fun _ _ i _ => l.length - (intOf i).toNat)
  case atStart => exact ⟨0, Nat.zero_le _, rfl, rfl, World.ownsRow_nil _ _ _ _, HS, HU⟩
  case round =>
    obtain ⟨k, hk, rfl, rfl, ho, hs, hu⟩ := hrel
    obtain ⟨i1, i2, i3⟩ := cutTo_inv l k
    by_cases hlt : k < l.length
    · obtain ⟨b, off, rfl, hc'⟩ := HC.out (by intro h; simp [h] at hlt)
      have c0 := hu.out.cell (hc' k hlt) (by simp)
      have HT : Hid (cutTo l (k + 1) = cutStep l (cutTo l k) k) := rfl
      clear hc'
      generalize hcs : cutTo l k = cs at *
      obtain ⟨out, n, long, fr⟩ := cs
      simp only at ho hs i1 i2 i3 HT ⊢
      go_wp2_with fail
      refine (lineByte_any _ _ n long (nth l k) hs.out i1).mono ?_
      rintro e w2 ⟨rfl, hs2, hu2⟩
      have hU2 : Upd [] w w2 := hu.out.trans hu2 (by simp) (by intro x hx; simp at hx; subst hx; right; omega)
      have HU2 := Lib.hid hU2
      have HS2 := Lib.hid hs2
      have HO2 := Lib.hid (ho.out.upd hu2 (fun x hx hy => by have := ho.out.ge x hx; simp at hy; omega))
      have hne : ¬ cap = fr := by omega
      have hR : Bytes w2 (.slice (some ⟨b, off + fr, none⟩) (k - fr) (cap - fr)) ((l.drop fr).take (k - fr)) := by
        have := (H.out.upd0 hU2).sub fr k i2 hk
        rw [if_neg hne] at this; simpa [add_none] using this
      have hcv := conv_str Try.underlying52 Try.underlying5 Try.underlying9 w2 _ _ hR
      have hle := hU2.size
      clear hs2 hu2 hU2 ho hs hR
      generalize hls : lineStep n long (nth l k) = ls at *
      obtain ⟨kd, n2, long2⟩ := ls
      have HLS := Lib.hid hls
      clear hls
      by_cases h2 : kd = 2
      · subst h2
        have q1 : (fr : Int) ≤ k := by omega
        have q2 : (k : Int) ≤ cap := by omega
        have hcs' : Hid (cutTo l (k + 1) = ⟨out ++ [textOf ((l.drop fr).take (k - fr))], n2, long2, k + 1⟩) := by
          unfold Hid; rw [HT.out]; unfold cutStep; simp only [HLS.out]; simp
        generalize hx : (l.drop fr).take (k - fr) = line at *
        have hcv2 := hcv
        clear hx
        go_wp2_with (at_builtin; go_must (refine wpList_app sv_one rfl _ _ rfl Try.underlying60 infoStr rfl _ (.slice (some ⟨w2.heap.size, 0, none⟩) 1 1) out [textOf line] rfl rfl (HO2.out.upd ((Upd.refl [] _).alloc _) (by simp)) (Rd.lit [textOf line] rfl rfl rfl (by decide) (by decide)) (by simp <;> omega) (by unfold maxLen; simp <;> omega) (by simp <;> omega) ?_; intro v1 w3 ho3 hu3 hbk; have HO3 := Lib.hid ho3; have HU3 : Hid (Upd [] w w3) := (HU2.out.alloc _).trans hu3 (by simp) (fun x hx => .inr (by have := (HO2.out.ge x hx).1; omega)); have HS3 := Lib.hid ((HS2.out.upd ((Upd.refl [] _).alloc _) (by simp)).upd hu3 (fun hx => by have := (HO2.out.ge _ hx).1; omega)); clear ho3 hu3 hbk))
        go_roundw
        case rel => exact ⟨k + 1, by omega, by go_num, by rw [hcs'.out]; go_num, by rw [hcs'.out]; exact HO3, by rw [hcs'.out]; exact HS3, HU3⟩
        case measure => simp [intOf]; omega
      · have t2 : ((kd : Int) == 2) = false := by rw [beq_eq_false_iff_ne]; omega
        by_cases h5 : kd = 5
        · subst h5
          have hcs' : Hid (cutTo l (k + 1) = ⟨out, n2, long2, k + 1⟩) := by
            unfold Hid; rw [HT.out]; unfold cutStep; simp only [HLS.out]; simp
          go_wp2_with fail
          go_roundw
          case rel => exact ⟨k + 1, by omega, by go_num, by rw [hcs'.out]; go_num, by rw [hcs'.out]; exact HO2, by rw [hcs'.out]; exact HS2, HU2⟩
          case measure => simp [intOf]; omega
        · have t5 : ((kd : Int) == 5) = false := by rw [beq_eq_false_iff_ne]; omega
          have hcs' : Hid (cutTo l (k + 1) = ⟨out, n2, long2, fr⟩) := by
            unfold Hid; rw [HT.out]; unfold cutStep; simp only [HLS.out]; simp [h2, h5]
          go_wp2_with fail
          go_roundw
          case rel => exact ⟨k + 1, by omega, by go_num, by rw [hcs'.out], by rw [hcs'.out]; exact HO2, by rw [hcs'.out]; exact HS2, HU2⟩
          case measure => simp [intOf]; omega
    · obtain rfl : k = l.length := by omega
      go_wp2_with fail
      go_ret
      exact ⟨_, rfl, ho.out.base_le (by omega), hu.out⟩
end Go.Proofs.Ytfpibngdpooedaa
