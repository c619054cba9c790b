/- Texts of the proof, joined: The book's functions at bytes. Names of files: plain. Chapter 21: may a file have that name?. Footprints that share no block. Tables: what the laws of chapter 4 want of rows by rising keys. Chapter 21: a yard in memory. Chapter 21: the file with a name. Chapter 21 as plain law: a yard is files by rising inos. Chapter 21: the table of files written, as a yard in memory sees it. Chapter 21: New and Create. Chapter 21: Append. A slice cut at its beginning, or at its end: the run. Chapter 21: Rename, Cut, Remove. -/
import Derived.Test.YtmhdhnipljonlaaRows
import Derived.Test.YtmhdhnipljonlaaMy2
import Derived.Test.YtmhdhnipljonlaaMy1
import Derived.Deep.DeepCutAuto
namespace Go.Proofs.Ytmhdhnipljonlaa
open Go.RowKit
set_option linter.unusedSimpArgs false
set_option linter.unusedVariables false

set_option maxHeartbeats 400000 in
theorem sameByte_any (v u : Value) (l m : List UInt8) (w : World) (h : Bytes w v l) (h2 : Bytes w u m) :
    Calls Try.prog 27 #[v, u] w fun e w' => e = .returned (.bool (decide (l = m))) ∧ ∃ n, w' = w.drewN n := by
  obtain ⟨a, cap, rfl, hlc, hm, hc⟩ := h
  obtain ⟨a2, cap2, rfl, hlc2, hm2, hc2⟩ := h2
  have hm' : l.length ≤ 9223372036854775807 := by unfold maxLen at hm; omega
  have hm2' : m.length ≤ 9223372036854775807 := by unfold maxLen at hm2; omega
  clear hm hlc hm2 hlc2
  by_cases hlen : l.length = m.length
  · have HL := Lib.hid hlen
    have t1 : ((l.length : Int) != (m.length : Int)) = false := by rw [bne_eq_false_iff_eq]; omega
    have H1 := Lib.hid hc
    have H2 := Lib.hid hc2
    clear hlen hc hc2
    go_enter Try.func27, Try.ntmps27
    go_wp2
    go_loopw [5] (fun i wr => ∃ k n : Nat, wr = w.drewN n ∧ k ≤ l.length ∧ i = .int .i64 k ∧ Hid (∀ j, j < k → nth l j = nth m j)) (fun i _ => l.length - (intOf i).toNat)
    case atStart => exact ⟨0, 0, rfl, Nat.zero_le _, rfl, fun j hj => absurd hj (by omega)⟩
    case round =>
      obtain ⟨k, n, rfl, hk, rfl, hs⟩ := hrel
      by_cases hlt : k < l.length
      · obtain ⟨b, off, rfl, hc'⟩ := H1.out (by intro h; simp [h] at hlt)
        have hlt2 : k < m.length := by rw [← HL.out]; exact hlt
        obtain ⟨b2, off2, rfl, hc2'⟩ := H2.out (by intro h; simp [h] at hlt2)
        have hck := hc' k hlt
        have hck2 := hc2' k hlt2
        clear hc' hc2'
        have q1 : (k : Int) < (l.length : Int) := by omega
        have q2 : (k : Int) < (m.length : Int) := by omega
        go_wp2
        go_quiet (fail)
        go_wp2
        · have hne : ((nth l k).toNat : Int) ≠ ((nth m k).toNat : Int) := by first | assumption | exact bne_iff_ne.1 (by assumption)
          go_ret
          exact ⟨congrArg (fun b => Ending.returned (.bool b)) (decide_eq_false (fun e => by rw [e] at hne; exact hne rfl)).symm, _, World.drewN_drewN ..⟩
        · have heq : nth l k = nth m k := UInt8.toNat_inj.1 (by have : ((nth l k).toNat : Int) = ((nth m k).toNat : Int) := by first | assumption | exact bne_eq_false_iff_eq.1 (by assumption)
                                                                omega)
          go_roundw
          case rel => exact ⟨k + 1, _, rfl, by omega, by go_num, fun j hj => by
            by_cases e : j = k
            · rw [e]; exact heq
            · exact hs.out j (by omega)⟩
          case measure => simp [intOf]; omega
      · obtain rfl : k = l.length := by omega
        go_wp2
        go_ret
        exact ⟨congrArg (fun b => Ending.returned (.bool b)) (decide_eq_true (same_ext HL.out hs.out)).symm, _, rfl⟩
  · have t1 : ((l.length : Int) != (m.length : Int)) = true := by rw [bne_iff_ne]; omega
    have t2 : decide (l = m) = false := by simp; intro h; exact hlen (by rw [h])
    have T2 := Lib.hid t2
    clear hlen t2
    go_enter Try.func27, Try.ntmps27
    go_wp2
    go_ret
    exact ⟨congrArg (fun b => Ending.returned (.bool b)) T2.out.symm, 0, rfl⟩

theorem infoByte : (Try.prog.info? 5).map (fun i => (i.zero, i.size, i.bytes)) = some (some (.int .u8 0), 1, 1) := by kernel_rfl
theorem sizeByte : (Try.prog.info? 5).map (·.size) = some 1 := by kernel_rfl
set_option maxHeartbeats 400000 in
theorem roomyByte_any (v : Value) (l : List UInt8) (m : UInt8) (w : World) (h : Bytes w v l) (hz : l.length ≤ 140737488351232) :
    Calls Try.prog 25 #[v, bv m] w fun e w' => ∃ u, e = .returned u ∧ Roomed bv 5 w w' u l m := by
  have h0 := h
  obtain ⟨a, cap, rfl, hlc, hm, hc⟩ := h
  clear hm hlc hc
  have hmk := fun u => run_mk (P := Try.prog) Try.underlying27 infoByte rfl u (l.length + 80) (l.length + 80) ((l.length : Int) + 80) ((l.length : Int) + 80) (by omega) (by omega) (by omega) (by omega) (by omega)
  go_enter Try.func25, Try.ntmps25
  go_wp2_with ((with_reducible refine wpList_cp bv_one rfl (.tmp 11) (.tmp 12) 27 27 5 rfl Try.underlying27 sizeByte w.heap.size (l.length + 80) (l.length + 80) (.slice a l.length cap) rfl rfl l (h0.alloc _) 5 (List.replicate (l.length + 80) (.int .u8 0)) (Blk.new _ _ _) (by omega) (by simp) ?_); intro w1 hb hu hs)
  have HB : Hid (Blk w1 w.heap.size 5 (l.map bv ++ (List.replicate 0 (bv m) ++ List.replicate 80 (.int .u8 0)))) := by
    rw [List.drop_replicate, show l.length + 80 - l.length = 80 from by omega] at hb; exact hb
  have HU : Hid (Upd [] w w1) := ((Upd.refl [] w).alloc _).trans hu (by simp) (by simp)
  clear hb hu hmk h0 hs
  go_loopw [6] (fun i wr => ∃ k : Nat, k ≤ 80 ∧ i = .int .i64 ((l.length : Int) + k) ∧ Hid (Blk wr w.heap.size 5 (l.map bv ++ (List.replicate k (bv m) ++ List.replicate (80 - k) (.int .u8 0)))) ∧ Hid (Upd [] w wr)) (fun i _ => l.length + 80 - (intOf i).toNat)
  case atStart => exact ⟨0, by omega, by simp, HB, HU⟩
  case round =>
    obtain ⟨k, hk, rfl, hb, hu⟩ := hrel
    by_cases hlt : k < 80
    · have hcell : wr.cell? ⟨w.heap.size, l.length + k, none⟩ = some (.int .u8 0) := by
        rw [hb.out.cell, List.getElem?_append_right (by simp), List.getElem?_append_right (by simp), List.getElem?_replicate, if_pos (by simp; omega)]
      have hfr : wr.frozen? ⟨w.heap.size, l.length + k, none⟩ = false := hb.out.frozen _
      have hb' : Hid (Blk (wr.setCell ⟨w.heap.size, l.length + k, none⟩ (bv m)) w.heap.size 5 (l.map bv ++ (List.replicate (k + 1) (bv m) ++ List.replicate (80 - (k + 1)) (.int .u8 0)))) := by
        have := hb.out.set_ (l.length + k) (bv m)
        rw [set_mid _ k (80 - k) _ _ _ (by simp) (by omega)] at this; exact this
      have hu' : Hid (Upd [] w (wr.setCell ⟨w.heap.size, l.length + k, none⟩ (bv m))) := hu.out.setCell _ _ (.inr (Nat.le_refl _))
      clear HB HU hb hu
      go_wp2
      go_roundw
      case rel => exact ⟨k + 1, by omega, by go_num, hb', hu'⟩
      case measure => simp [intOf]; omega
    · obtain rfl : k = 80 := by omega
      go_wp2
      go_ret
      exact ⟨_, rfl, rfl, by simpa using hb.out, hu.out⟩

set_option maxHeartbeats 400000 in
theorem intactByte_any (v u : Value) (f l : List UInt8) (m : UInt8) (w : World) (h : Bytes w v f) (h2 : Bytes w u l) (hz : l.length ≤ 140737488351232) :
    Calls Try.prog 26 #[v, u, bv m] w fun e w' => e = .returned (.bool (decide (f = l ++ List.replicate 80 m))) ∧ ∃ n, w' = w.drewN n := by
  have h0 := h
  have h20 := h2
  obtain ⟨a, cap, rfl, hlc, hm, hc⟩ := h
  obtain ⟨a2, cap2, rfl, hlc2, hm2, hc2⟩ := h2
  have hm' : f.length ≤ 9223372036854775807 := by unfold maxLen at hm; omega
  clear hm hm2 hlc2 hc2
  by_cases hlen : f.length = l.length + 80
  · have t1 : ((f.length : Int) != (l.length : Int) + 80) = false := by rw [bne_eq_false_iff_eq]; omega
    have hs := (sameByte_any _ _ _ _ w (h0.take l.length (by omega)) h20)
    have hle : l.length ≤ cap := by omega
    have q1 : (l.length : Int) ≤ (cap : Int) := by omega
    have HL := Lib.hid hlen
    have HC := Lib.hid hc
    have HS := Lib.hid hs
    clear hlen hc h0 h20 hs hlc
    by_cases hsm : f.take l.length = l
    · have HF := Lib.hid hsm
      have T : decide (f.take l.length = l) = true := decide_eq_true hsm
      rw [T] at HS
      clear hsm T
      go_enter Try.func26, Try.ntmps26
      go_wp2_with (go_at_call 27; refine HS.out.mono ?_; rintro e w' ⟨rfl, n0, rfl⟩)
      go_loopw [7] (fun i wr => ∃ k n : Nat, wr = w.drewN n ∧ k ≤ 80 ∧ i = .int .i64 ((l.length : Int) + k) ∧ Hid (∀ j, l.length ≤ j → j < l.length + k → nth f j = m)) (fun i _ => f.length - (intOf i).toNat)
      case atStart => exact ⟨0, n0, rfl, by omega, by simp, fun j h1 h2 => by omega⟩
      case round =>
        obtain ⟨k, n, rfl, hk, rfl, hr⟩ := hrel
        have hfl : (f.length : Int) = l.length + 80 := by have := HL.out; omega
        have HFL := Lib.hid hfl
        by_cases hlt : k < 80
        · have b1 : (l.length : Int) + k < (f.length : Int) := by omega
          obtain ⟨b, off, rfl, hc'⟩ := HC.out (by intro h; rw [h] at b1; simp at b1; omega)
          have hck := hc' (l.length + k) (by omega)
          rw [← Nat.add_assoc] at hck
          have hck2 : w.cell? ⟨b, off + (l.length + k), none⟩ = some (bv (nth f (l.length + k))) := by rw [← Nat.add_assoc]; exact hck
          clear hc' hck hfl
          go_wp2
          · have hne : ((nth f (l.length + k)).toNat : Int) ≠ (m.toNat : Int) := bne_iff_ne.1 (by assumption)
            go_ret
            exact ⟨congrArg (fun b => Ending.returned (.bool b)) (decide_eq_false (intact_bad f l m (l.length + k) (by omega) (by omega) (fun e => hne (by rw [e])))).symm, _, rfl⟩
          · have heq : nth f (l.length + k) = m := UInt8.toNat_inj.1 (by have := bne_eq_false_iff_eq.1 (show (((nth f (l.length + k)).toNat : Int) != (m.toNat : Int)) = false by assumption); omega)
            have H2 := Lib.hid heq
            clear heq
            go_roundw
            case rel => exact ⟨k + 1, _, rfl, by omega, by go_num, fun j h1 h2 => by
              by_cases e : j = l.length + k
              · rw [e]; exact H2.out
              · exact hr.out j h1 (by omega)⟩
            case measure => simp only [intOf]; omega
        · obtain rfl : k = 80 := by omega
          have b1 : ¬ (l.length : Int) + (80 : Nat) < (f.length : Int) := by omega
          clear hfl
          go_wp2
          go_ret
          exact ⟨congrArg (fun b => Ending.returned (.bool b)) (decide_eq_true (intact_split f l m HL.out HF.out hr.out)).symm, _, rfl⟩
    · have T : decide (f.take l.length = l) = false := decide_eq_false hsm
      rw [T] at HS
      have HF : Hid (f ≠ l ++ List.replicate 80 m) := fun e => hsm (by rw [e]; simp)
      clear hsm T
      go_enter Try.func26, Try.ntmps26
      go_wp2_with (go_at_call 27; refine HS.out.mono ?_; rintro e w' ⟨rfl, n0, rfl⟩)
      go_ret
      exact ⟨congrArg (fun b => Ending.returned (.bool b)) (decide_eq_false HF.out).symm, _, rfl⟩
  · have t1 : ((f.length : Int) != (l.length : Int) + 80) = true := by rw [bne_iff_ne]; omega
    have HF : Hid (f ≠ l ++ List.replicate 80 m) := fun e => hlen (by rw [e]; simp)
    clear hlen h0 h20 hc hlc
    go_enter Try.func26, Try.ntmps26
    go_wp2
    go_ret
    exact ⟨congrArg (fun b => Ending.returned (.bool b)) (decide_eq_false HF.out).symm, 0, rfl⟩

theorem intactByte_ok (v u : Value) (l : List UInt8) (m : UInt8) (w : World) (h : Bytes w v (l ++ List.replicate 80 m)) (h2 : Bytes w u l) (hz : l.length ≤ 140737488351232) :
    Calls Try.prog 26 #[v, u, bv m] w fun e w' => e = .returned (.bool true) ∧ ∃ n, w' = w.drewN n := by
  have h := intactByte_any v u _ l m w h h2 hz
  rw [decide_eq_true rfl] at h; exact h
theorem sameByte_ok (v u : Value) (l : List UInt8) (w : World) (h : Bytes w v l) (h2 : Bytes w u l) :
    Calls Try.prog 27 #[v, u] w fun e w' => e = .returned (.bool true) ∧ ∃ n, w' = w.drewN n := by
  have h := sameByte_any v u l l w h h2
  rw [decide_eq_true rfl] at h; exact h
end Go.Proofs.Ytmhdhnipljonlaa
namespace Go.Proofs.Ytmhdhnipljonlaa
open Go.RowKit
/-- A name is 1 to 32 bytes from 33 to 126. -/
def nameOk (s : ByteArray) : Bool := decide (1 ≤ s.size ∧ s.size ≤ 32 ∧ ∀ j (h : j < s.size), 33 ≤ (s[j]).toNat ∧ (s[j]).toNat ≤ 126)
end Go.Proofs.Ytmhdhnipljonlaa
namespace Go.Proofs.Ytmhdhnipljonlaa
open Go.RowKit
set_option linter.unusedSimpArgs false
set_option linter.unusedVariables false
set_option maxRecDepth 20000 in
set_option maxHeartbeats 1000000 in
theorem named_any (w : World) (s : ByteArray) :
    Calls Try.prog 49 #[sv s] w fun e w' => e = .returned (.bool (nameOk s)) ∧ w = w' := by
  by_cases h1 : s.size < 1
  · have HN : Hid (nameOk s = false) := by unfold Hid nameOk; simp; omega
    have q : (s.size : Int) < 1 := by omega
    go_enter Try.func49, Try.ntmps49
    go_wp2_with fail
    go_ret
    exact ⟨by rw [HN.out]; rfl, rfl⟩
  · by_cases h2 : s.size ≤ 32
    · have q : ¬ (s.size : Int) < 1 := by omega
      have q' : ¬ (32 : Int) < s.size := by omega
      go_enter Try.func49, Try.ntmps49
      go_wp2_with fail
      go_loopw [3, 14] (fun x i wr => ∃ k : Nat, k ≤ s.size ∧ i = .int .i64 k ∧ w = wr ∧ Hid (∀ j (h : j < s.size), j < k → 33 ≤ (s[j]).toNat ∧ (s[j]).toNat ≤ 126)) (fun _ i _ => s.size - (intOf i).toNat)
      case atStart => exact ⟨0, Nat.zero_le _, rfl, rfl, fun j _ h => absurd h (by omega)⟩
      case round =>
        obtain ⟨k, hk, rfl, rfl, hh⟩ := hrel
        by_cases hlt : k < s.size
        · have q0 : (0 : Int) ≤ k := by omega
          have q1 : (k : Int) < s.size := by omega
          by_cases hb : 33 ≤ (s[k]).toNat ∧ (s[k]).toNat ≤ 126
          · have hb1 : ¬ ((s[k]).toNat : Int) < 33 := by omega
            have hb2 : ¬ (126 : Int) < ((s[k]).toNat : Int) := by omega
            have HH : Hid (∀ j (h : j < s.size), j < k + 1 → 33 ≤ (s[j]).toNat ∧ (s[j]).toNat ≤ 126) := fun j hj hjk => by
              rcases Nat.lt_or_eq_of_le (Nat.le_of_lt_succ hjk) with h | h
              · exact hh.out j hj h
              · subst h; exact hb
            clear hb
            go_wp2_with fail
            go_roundw
            case rel => exact ⟨k + 1, by omega, by go_num, by first | trivial | rfl, HH⟩
            case measure => simp [intOf]; omega
          · have HN : Hid (nameOk s = false) := by
              unfold Hid nameOk
              exact decide_eq_false (fun h => hb (h.2.2 k hlt))
            have hd : ((s[k]).toNat : Int) < 33 ∨ (¬ ((s[k]).toNat : Int) < 33 ∧ (126 : Int) < ((s[k]).toNat : Int)) := by omega
            clear hb
            rcases hd with hb1 | ⟨hb1, hb2⟩
            all_goals
              go_wp2_with fail
              go_ret
              exact ⟨by rw [HN.out]; rfl, rfl⟩
        · obtain rfl : k = s.size := by omega
          have HN : Hid (nameOk s = true) := by
            unfold Hid nameOk
            exact decide_eq_true ⟨by omega, by omega, fun j hj => hh.out j hj hj⟩
          go_wp2_with fail
          go_ret
          exact ⟨by rw [HN.out]; rfl, rfl⟩
    · have HN : Hid (nameOk s = false) := by unfold Hid nameOk; exact decide_eq_false (fun h => h2 h.2.1)
      have q : ¬ (s.size : Int) < 1 := by omega
      have q' : (32 : Int) < s.size := by omega
      go_enter Try.func49, Try.ntmps49
      go_wp2_with fail
      go_ret
      exact ⟨by rw [HN.out]; rfl, rfl⟩
end Go.Proofs.Ytmhdhnipljonlaa
namespace Go.Proofs.Ytmhdhnipljonlaa
open Go.RowKit
set_option linter.unusedSimpArgs false
set_option linter.unusedVariables false
def Ap (F G : List Nat) : Prop := ∀ x ∈ F, x ∉ G
theorem Ap.symm {F G : List Nat} (h : Ap F G) : Ap G F := fun x hx hF => h x hF hx
theorem Ap.nil {G : List Nat} : Ap [] G := fun x hx => by simp at hx
theorem Ap.new {F G : List Nat} {n : Nat} (hf : ∀ y ∈ F, n ≤ y) (hg : ∀ x ∈ G, x < n) : Ap F G := fun x hx hG => by have := hf x hx; have := hg x hG; omega
theorem Ap.next {F F' G : List Nat} {n : Nat} (h : Ap F G) (hf : ∀ y ∈ F', y ∈ F ∨ n ≤ y) (hg : ∀ x ∈ G, x < n) : Ap F' G := fun x hx hG => by
  rcases hf x hx with q | q
  · exact h x q hG
  · have := hg x hG; omega
end Go.Proofs.Ytmhdhnipljonlaa
namespace Go.Proofs.Ytmhdhnipljonlaa
open Go.RowKit
set_option linter.unusedSimpArgs false
set_option linter.unusedVariables false
set_option linter.unusedSectionVars false
section
variable {κ ν : Type} [Inhabited κ] [Inhabited ν] [DecidableEq κ] {lt : κ → κ → Bool}
theorem lt_below (ho : KOrd lt) {l : List (κ × ν)} (h : Rising lt l) (k : κ) (i : Nat) (hi : i < l.length) : lt (nth l i).1 k = decide (i < below lt l k) := by
  by_cases hb : i < below lt l k
  · rw [below_lt l k i hb, decide_eq_true hb]
  · rw [decide_eq_false hb]
    cases hq : lt (nth l i).1 k with
    | false => rfl
    | true =>
      have h1 := below_ge (lt := lt) l k (by omega)
      rw [h.mono ho k (below lt l k) i (by omega) hi hq] at h1
      exact absurd h1 (by simp)
theorem below_at (ho : KOrd lt) {l : List (κ × ν)} (h : Rising lt l) (i : Nat) (hi : i < l.length) : below lt l (nth l i).1 = i :=
  below_eq l _ i (by omega) (fun j hj => h j i hj hi) (fun _ => ho.irr _)
theorem isIn_at (ho : KOrd lt) {l : List (κ × ν)} (h : Rising lt l) (i : Nat) (hi : i < l.length) : isIn lt l (nth l i).1 = true := by
  unfold isIn
  rw [below_at ho h i hi]
  exact decide_eq_true ⟨hi, rfl⟩
theorem tGet_at (ho : KOrd lt) (z : ν) {l : List (κ × ν)} (h : Rising lt l) (i : Nat) (hi : i < l.length) : tGet lt z l (nth l i).1 = ((nth l i).2, true) := by
  unfold tGet
  rw [isIn_at ho h i hi, below_at ho h i hi]; rfl
theorem tAt_at (zk : κ) (zv : ν) (l : List (κ × ν)) (i : Nat) (hi : i < l.length) : tAt zk zv l (i : Int) = ((nth l i).1, (nth l i).2, true) := by
  unfold tAt
  rw [if_pos ⟨by omega, by omega⟩]; rfl
theorem nth_keys (l : List (κ × ν)) (i : Nat) (hi : i < l.length) : nth (l.map (·.1)) i = (nth l i).1 := by
  rw [nth_get _ _ (by simpa using hi), nth_get _ _ hi]; simp
theorem tSet_mem (l : List (κ × ν)) (k : κ) (v : ν) (p : κ × ν) (h : p ∈ tSet lt l k v) : p = (k, v) ∨ p ∈ l := by
  unfold tSet at h
  rcases List.mem_append.1 h with h | h
  · exact .inr (List.mem_of_mem_take h)
  · rcases List.mem_cons.1 h with h | h
    · exact .inl h
    · exact .inr (List.mem_of_mem_drop h)
theorem tDel_mem (l : List (κ × ν)) (k : κ) (p : κ × ν) (h : p ∈ tDel lt l k) : p ∈ l := by
  unfold tDel at h
  split at h
  · rcases List.mem_append.1 h with h | h
    · exact List.mem_of_mem_take h
    · exact List.mem_of_mem_drop h
  · exact h
theorem nth_mem {l : List (κ × ν)} (i : Nat) (hi : i < l.length) : nth l i ∈ l := by rw [nth_get l i hi]; exact List.getElem_mem hi
theorem min_below (ho : KOrd lt) {l : List (κ × ν)} (h : Rising lt l) (k : κ) (i : Nat) (hi : i < l.length) : min (i + 1) (below lt l k) = min i (below lt l k) + (if lt (nth l i).1 k then 1 else 0) := by
  rw [lt_below ho h k i hi]
  by_cases hb : i < below lt l k
  · rw [decide_eq_true hb, if_pos rfl]; omega
  · rw [decide_eq_false hb, if_neg (by simp)]; omega
end
section
variable {κ ν κ' ν' : Type} [Inhabited κ] [Inhabited ν] [DecidableEq κ] [Inhabited κ'] [Inhabited ν'] [DecidableEq κ'] {lt : κ → κ → Bool} {lt' : κ' → κ' → Bool} (f : κ → κ') (h : ν → ν') (ok : κ → Prop)
/-- A table's rows with other names for keys and things, the order kept. -/
def tMap (l : List (κ × ν)) : List (κ' × ν') := l.map fun p => (f p.1, h p.2)
theorem tMap_nth (l : List (κ × ν)) (i : Nat) (hi : i < l.length) : nth (tMap f h l) i = (f (nth l i).1, h (nth l i).2) := by
  unfold tMap
  rw [nth_get _ _ (by simpa using hi), nth_get _ _ hi]; simp
variable (hf : ∀ a b, ok a → ok b → lt' (f a) (f b) = lt a b) (hi : ∀ a b, ok a → ok b → f a = f b → a = b)
include hf
theorem tMap_below (l : List (κ × ν)) (hl : ∀ p ∈ l, ok p.1) (k : κ) (hk : ok k) : below lt' (tMap f h l) (f k) = below lt l k := by
  unfold below tMap
  induction l with
  | nil => rfl
  | cons p l ih =>
    rw [List.map_cons, List.takeWhile_cons, List.takeWhile_cons]
    rw [hf p.1 k (hl p (by simp)) hk]
    split
    · rw [List.length_cons, List.length_cons, ih (fun q hq => hl q (by simp [hq]))]
    · rfl
include hi
theorem tMap_isIn (l : List (κ × ν)) (hl : ∀ p ∈ l, ok p.1) (k : κ) (hk : ok k) : isIn lt' (tMap f h l) (f k) = isIn lt l k := by
  unfold isIn
  rw [tMap_below f h ok hf l hl k hk]
  have hlen : (tMap f h l).length = l.length := by simp [tMap]
  rw [hlen]
  apply decide_eq_decide.2
  constructor
  · rintro ⟨h1, h2⟩
    rw [tMap_nth f h l _ h1] at h2
    exact ⟨h1, hi _ _ (hl _ (nth_mem _ h1)) hk h2⟩
  · rintro ⟨h1, h2⟩
    refine ⟨h1, ?_⟩
    rw [tMap_nth f h l _ h1]
    exact congrArg f h2
theorem tMap_set (l : List (κ × ν)) (hl : ∀ p ∈ l, ok p.1) (k : κ) (hk : ok k) (v : ν) : tSet lt' (tMap f h l) (f k) (h v) = tMap f h (tSet lt l k v) := by
  unfold tSet
  rw [tMap_isIn f h ok hf hi l hl k hk, tMap_below f h ok hf l hl k hk]
  unfold tMap
  simp [List.map_take, List.map_drop]
theorem tMap_del (l : List (κ × ν)) (hl : ∀ p ∈ l, ok p.1) (k : κ) (hk : ok k) : tDel lt' (tMap f h l) (f k) = tMap f h (tDel lt l k) := by
  unfold tDel
  rw [tMap_isIn f h ok hf hi l hl k hk, tMap_below f h ok hf l hl k hk]
  unfold tMap
  split <;> simp [List.map_take, List.map_drop]
theorem tMap_get (z : ν') (l : List (κ × ν)) (hl : ∀ p ∈ l, ok p.1) (k : κ) (hk : ok k) (z0 : ν) : tGet lt' z (tMap f h l) (f k) = if isIn lt l k then (h (tGet lt z0 l k).1, true) else (z, false) := by
  unfold tGet
  rw [tMap_isIn f h ok hf hi l hl k hk, tMap_below f h ok hf l hl k hk]
  split
  · rename_i hin
    unfold isIn at hin
    rw [tMap_nth f h l _ (of_decide_eq_true hin).1]
  · rfl
end
end Go.Proofs.Ytmhdhnipljonlaa
namespace Go.Proofs.Ytmhdhnipljonlaa
open Go.RowKit
set_option linter.unusedSimpArgs false
set_option linter.unusedVariables false
/-- Files by rising inos, each its name and its bytes. -/
abbrev FL := List (Int × (ByteArray × List UInt8))
/-- The same, with the slices that have the bytes. -/
abbrev CL := List (Int × ((ByteArray × Sl) × List UInt8))
abbrev rowsOf (cs : CL) : List (Int × (ByteArray × Sl)) := tMap id (·.1) cs
abbrev filesOf (cs : CL) : FL := tMap id (fun v : (ByteArray × Sl) × List UInt8 => (v.1.1, v.2)) cs
abbrev ltY : Int → Int → Bool := fun a b => decide (a < b)
theorem ty_one {w : World} {x : Nat} {C C' : Array Value} {e e' : TypeId} {f f' : Nat × Nat} (h : w.heap[x]? = some (.cells C e f)) (h' : w.heap[x]? = some (.cells C' e' f')) : e = e' := by
  rw [h] at h'
  injection h' with h1; injection h1
theorem if_ty {w0 w : World} {g : Nat} {F : List Nat} {l : List (Int × (ByteArray × Sl))} (h : TXIF w0 w g F l) : ∀ x ∈ F, ∃ C f e, w.heap[x]? = some (.cells C e f) ∧ (e = 127 ∨ e = 132) := by
  intro x hx
  obtain ⟨lv, rfl, ht⟩ := h.ex
  rcases List.mem_cons.1 hx with rfl | hx
  · exact ⟨_, _, _, ht.tab, .inl rfl⟩
  · obtain ⟨C, f, hq⟩ := ht.rows.typ x hx
    exact ⟨C, f, _, hq, .inr rfl⟩
theorem ij_ty {w0 w : World} {g : Nat} {F : List Nat} {l : List (Int × Int)} (h : TXIJ w0 w g F l) : ∀ x ∈ F, ∃ C f e, w.heap[x]? = some (.cells C e f) ∧ (e = 130 ∨ e = 136) := by
  intro x hx
  obtain ⟨lv, rfl, ht⟩ := h.ex
  rcases List.mem_cons.1 hx with rfl | hx
  · exact ⟨_, _, _, ht.tab, .inl rfl⟩
  · obtain ⟨C, f, hq⟩ := ht.rows.typ x hx
    exact ⟨C, f, _, hq, .inr rfl⟩
theorem Own.typ {α : Type} {c : α → Value} {base : Nat} {e : TypeId} {w : World} {v : Value} {l : List α} (h : Own c base e w v l) : ∀ x ∈ blk v, ∃ C f, w.heap[x]? = some (.cells C e f) := by
  intro x hx
  rcases h.2 with ⟨rfl, _⟩ | ⟨g, cap, cur, rfl, _, hg, _⟩
  · simp [blk] at hx
  · simp [blk] at hx; subst hx; exact ⟨_, _, hg⟩
theorem if_ij {w0 w : World} {g g2 : Nat} {F G : List Nat} {l : List (Int × (ByteArray × Sl))} {m : List (Int × Int)} (h : TXIF w0 w g F l) (k : TXIJ w0 w g2 G m) : Ap F G := by
  intro x hx hG
  obtain ⟨C, f, e, h1, h2⟩ := if_ty h x hx
  obtain ⟨C', f', e', h1', h2'⟩ := ij_ty k x hG
  have := ty_one h1 h1'
  rcases h2 with h2 | h2 <;> rcases h2' with h2' | h2' <;> (rw [h2, h2'] at this; exact absurd this (by decide))
theorem if_own {w0 w : World} {g base : Nat} {F : List Nat} {l : List (Int × (ByteArray × Sl))} {v : Value} {m : List UInt8} (h : TXIF w0 w g F l) (k : Own bv base 5 w v m) : Ap F (blk v) := by
  intro x hx hG
  obtain ⟨C, f, e, h1, h2⟩ := if_ty h x hx
  obtain ⟨C', f', h1'⟩ := k.typ x hG
  have := ty_one h1 h1'
  rcases h2 with h2 | h2 <;> (rw [h2] at this; exact absurd this (by decide))
theorem ij_own {w0 w : World} {g base : Nat} {F : List Nat} {l : List (Int × Int)} {v : Value} {m : List UInt8} (h : TXIJ w0 w g F l) (k : Own bv base 5 w v m) : Ap F (blk v) := by
  intro x hx hG
  obtain ⟨C, f, e, h1, h2⟩ := ij_ty h x hx
  obtain ⟨C', f', h1'⟩ := k.typ x hG
  have := ty_one h1 h1'
  rcases h2 with h2 | h2 <;> (rw [h2] at this; exact absurd this (by decide))
/-- A yard at gy. -/
structure YC (w0 w : World) (gy gf gt : Nat) (F T : List Nat) (cs : CL) (tk : List (Int × Int)) : Prop where
  yard : Blk w gy 95 [.pointer (some ⟨gf, 0, none⟩), .pointer (some ⟨gt, 0, none⟩)]
  gyb : w0.heap.size ≤ gy
  files : TXIF w0 w gf F (rowsOf cs)
  taken : TXIJ w0 w gt T tk
  own : ∀ c ∈ cs, Own bv w0.heap.size 5 w (slv c.2.1.2) c.2.2
  ap : ∀ c ∈ cs, ∀ d ∈ cs, c.1 ≠ d.1 → Ap (blk (slv c.2.1.2)) (blk (slv d.2.1.2))
section
variable {w0 w w' : World} {gy gf gt : Nat} {F T : List Nat} {cs : CL} {tk : List (Int × Int)}
theorem YC.old (h : YC w0 w gy gf gt F T cs tk) : Upd [] w0 w := h.files.old
theorem YC.upd0 (h : YC w0 w gy gf gt F T cs tk) (hu : Upd [] w w') : YC w0 w' gy gf gt F T cs tk :=
  ⟨h.yard.upd hu (by simp), h.gyb, h.files.upd0 hu, h.taken.upd0 hu, fun c hc => (h.own c hc).upd hu (by simp), h.ap⟩
theorem YC.gy_F (h : YC w0 w gy gf gt F T cs tk) : gy ∉ F := fun hx => by
  obtain ⟨C, f, e, h1, h2⟩ := if_ty h.files gy hx
  have := ty_one h1 h.yard
  rcases h2 with h2 | h2 <;> (rw [h2] at this; exact absurd this (by decide))
theorem YC.gy_T (h : YC w0 w gy gf gt F T cs tk) : gy ∉ T := fun hx => by
  obtain ⟨C, f, e, h1, h2⟩ := ij_ty h.taken gy hx
  have := ty_one h1 h.yard
  rcases h2 with h2 | h2 <;> (rw [h2] at this; exact absurd this (by decide))
theorem gy_own {e : List Value} {base : Nat} {v : Value} {m : List UInt8} (h : Blk w gy 95 e) (k : Own bv base 5 w v m) : gy ∉ blk v := fun hx => by
  obtain ⟨C', f', h1'⟩ := k.typ gy hx
  have := ty_one h1' h
  exact absurd this (by decide)
/-- The table of files is written: other slices, the same bytes in memory. -/
theorem YC.setFiles (h : YC w0 w gy gf gt F T cs tk) {F' : List Nat} {cs' : CL} (hf : TXIF w0 w' gf F' (rowsOf cs')) (hu : Upd F w w')
    (hown : ∀ c ∈ cs', Own bv w0.heap.size 5 w (slv c.2.1.2) c.2.2) (hap : ∀ c ∈ cs', ∀ d ∈ cs', c.1 ≠ d.1 → Ap (blk (slv c.2.1.2)) (blk (slv d.2.1.2))) : YC w0 w' gy gf gt F' T cs' tk :=
  ⟨h.yard.upd hu h.gy_F, h.gyb, hf, h.taken.upd hu (if_ij h.files h.taken).symm (fun x hx => (h.files.ge x hx).1), fun c hc => (hown c hc).upd hu (if_own h.files (hown c hc)).symm, hap⟩
theorem YC.setTaken (h : YC w0 w gy gf gt F T cs tk) {T' : List Nat} {tk' : List (Int × Int)} (ht : TXIJ w0 w' gt T' tk') (hu : Upd T w w') : YC w0 w' gy gf gt F T' cs tk' :=
  ⟨h.yard.upd hu h.gy_T, h.gyb, h.files.upd hu (if_ij h.files h.taken) (fun x hx => (h.taken.ge x hx).1), ht, fun c hc => (h.own c hc).upd hu (ij_own h.taken (h.own c hc)).symm, h.ap⟩
end
end Go.Proofs.Ytmhdhnipljonlaa
namespace Go.Proofs.Ytmhdhnipljonlaa
open Go.RowKit
set_option linter.unusedSimpArgs false
set_option linter.unusedVariables false
theorem nth_rows (cs : CL) (i : Nat) (hi : i < cs.length) : nth (rowsOf cs) i = ((nth cs i).1, (nth cs i).2.1) := tMap_nth id (·.1) cs i hi
theorem rows_len (cs : CL) : (rowsOf cs).length = cs.length := by simp [rowsOf, tMap]
theorem tAt_rows (cs : CL) (i : Nat) (hi : i < cs.length) : tAt (0 : Int) zF (rowsOf cs) (i : Int) = ((nth cs i).1, (nth cs i).2.1, true) := by
  rw [tAt_at _ _ _ _ (by rw [rows_len]; exact hi), nth_rows cs i hi]
section
variable {w0 w : World} {gy gf gt : Nat} {F T : List Nat} {cs : CL} {tk : List (Int × Int)}
set_option maxRecDepth 20000 in
set_option maxHeartbeats 1000000 in
theorem yFind_any (s : ByteArray) (i : Nat) (ino : Int) (nm : ByteArray) (sl : Sl) (h : YC w0 w gy gf gt F T cs tk) (hlen : cs.length ≤ 1000) (hi : i ≤ cs.length) (hlo : ∀ j, j < i → (nth cs j).2.1.1 ≠ s)
    (hat : (i < cs.length ∧ (nth cs i).2.1.1 = s ∧ ino = (nth cs i).1 ∧ (nm, sl) = (nth cs i).2.1) ∨ (i = cs.length ∧ ino = 0 ∧ (nm, sl) = zF)) :
    Calls Try.prog 50 #[.pointer (some ⟨gy, 0, none⟩), sv s] w fun e w' => e = .returned (.tuple #[iv ino, fv (nm, sl)]) ∧ Upd [] w w' := by
  have HH := Lib.hid h
  have HLO := Lib.hid hlo
  have HAT := Lib.hid hat
  have HLEN : Hid ((rowsOf cs).length ≤ 100000) := by unfold Hid; rw [rows_len]; omega
  have HLC : Hid (((rowsOf cs).length : Int) = (cs.length : Int)) := by unfold Hid; rw [rows_len]
  have hu0 := (Upd.refl [] w).alloc (.cells #[.string ⟨#[]⟩, .slice none 0 0] 91)
  have HU0 := Lib.hid hu0
  have hB0 := Blk.new w 91 [.string ⟨#[]⟩, .slice none 0 0]
  have HB0 := Lib.hid hB0
  have y0 := HU0.out.cell (h.yard.cell 0) (by simp)
  clear h hlo hat hu0 hB0
  go_enter Try.func50, Try.ntmps50
  go_wp2_with fail
  (with_reducible refine (txIF_Len _ ((HH.out.upd0 HU0.out).files) HLC.out).mono ?_)
  rintro e w' ⟨rfl, rfl⟩
  clear y0
  go_wp2_with fail
  go_loopw [6, 15] (fun x c wr => ∃ k : Nat, k ≤ i ∧ c = .int .i64 k ∧ Hid (Upd [] w wr) ∧ Hid (Blk wr w.heap.size 91 [.string ⟨#[]⟩, .slice none 0 0])) (fun _ c _ => cs.length - (intOf c).toNat)
  case atStart => exact ⟨0, Nat.zero_le _, rfl, HU0, HB0⟩
  case round =>
    obtain ⟨k, hk, rfl, hu, hB⟩ := hrel
    have hsz : w.heap.size < wr.heap.size := hB.out.lt
    have y1 := hu.out.cell (HH.out.yard.cell 0) (by simp)
    clear HU0 HB0
    by_cases hlt : k < cs.length
    · have HA : Hid (tAt (0 : Int) zF (rowsOf cs) (k : Int) = ((nth cs k).1, (nth cs k).2.1, true)) := tAt_rows cs k hlt
      have q0 : (0 : Int) ≤ k := by omega
      have q1 : (k : Int) < cs.length := by omega
      have HI64 : Hid (I64 (k : Int)) := ⟨by omega, by omega⟩
      by_cases hki : k < i
      · have hne := HLO.out k hki
        generalize (nth cs k).1 = x at *
        generalize (nth cs k).2.1 = v2 at *
        obtain ⟨nm2, sl2⟩ := v2
        have t1 : (nm2.toList == s.toList) = false := by rw [beq_eq_false_iff_ne]; exact fun h => hne (str_inj _ _ h)
        clear hne
        go_wp2_with fail
        (with_reducible refine (txIF_At (k : Int) x (nm2, sl2) true HI64.out ((HH.out.upd0 hu.out).files) HLEN.out HA.out).mono ?_)
        rintro e w2 ⟨rfl, hu2⟩
        have HU2 := Lib.hid (hu.out.seq hu2)
        have HB2 := Lib.hid (hB.out.upd hu2 (by simp))
        have hlt2 : w.heap.size < w2.heap.size := HB2.out.lt
        clear hu2
        go_wp2_with fail
        have HU3 := Lib.hid (HU2.out.alloc (.cells #[sv nm2, slv sl2] 91))
        have HB3 := Lib.hid (HB2.out.upd ((Upd.refl [] w2).alloc (.cells #[sv nm2, slv sl2] 91)) (by simp))
        go_roundw
        case rel => exact ⟨k + 1, by omega, by go_num, HU3, HB3⟩
        case measure => simp [intOf]; omega
      · obtain rfl : k = i := by omega
        have hat : (nth cs k).2.1.1 = s ∧ ino = (nth cs k).1 ∧ (nm, sl) = (nth cs k).2.1 := by
          rcases HAT.out with ⟨-, h1, h2, h3⟩ | ⟨h1, -⟩
          · exact ⟨h1, h2, h3⟩
          · omega
        obtain ⟨ha1, ha2, ha3⟩ := hat
        rw [← ha2, ← ha3] at HA
        have hns : nm = s := by rw [← ha3] at ha1; exact ha1
        have t1 : (nm.toList == s.toList) = true := by rw [hns]; simp
        clear ha1 ha2 ha3 hns HAT HLO
        go_wp2_with fail
        (with_reducible refine (txIF_At (k : Int) ino (nm, sl) true HI64.out ((HH.out.upd0 hu.out).files) HLEN.out HA.out).mono ?_)
        rintro e w2 ⟨rfl, hu2⟩
        have HU2 := Lib.hid (hu.out.seq hu2)
        have HB2 := Lib.hid (hB.out.upd hu2 (by simp))
        have hlt2 : w.heap.size < w2.heap.size := HB2.out.lt
        clear hu2
        go_wp2_with fail
        have HU3 := Lib.hid (HU2.out.alloc (.cells #[sv nm, slv sl] 91))
        have hB3 := (HB2.out.upd ((Upd.refl [] w2).alloc (.cells #[sv nm, slv sl] 91)) (by simp))
        have hR := Blk.new w2 91 [sv nm, slv sl]
        change Blk (w2.alloc (.cells #[sv nm, slv sl] 91)) _ _ _ at hR
        generalize w2.alloc (.cells #[sv nm, slv sl] 91) = v at *
        have d0 := hB3.cell 0
        have d1 := hB3.cell 1
        have f0 := hB3.frozen 0
        have f1 := hB3.frozen 1
        have r0 := hR.cell 0
        have r1 := hR.cell 1
        simp only [List.getElem?_cons_zero, List.getElem?_cons_succ] at d0 d1 r0 r1
        have HB4 : Hid (Blk ((v.setCell ⟨w.heap.size, 0, none⟩ (sv nm)).setCell ⟨w.heap.size, 1, none⟩ (slv sl)).drew w.heap.size 91 [sv nm, slv sl]) := blk_two hB3 _ _
        have HU4 : Hid (Upd [] w ((v.setCell ⟨w.heap.size, 0, none⟩ (sv nm)).setCell ⟨w.heap.size, 1, none⟩ (slv sl)).drew) :=
          ((HU3.out.setCell _ _ (.inr (Nat.le_refl _))).setCell _ _ (.inr (Nat.le_refl _))).drew
        clear hB3 hR
        go_region
        all_goals (go_wp2_with fail)
        all_goals
          have e0 := HB4.out.cell 0
          have e1 := HB4.out.cell 1
          have hU := HU4.out
          clear HB4 HU4
          generalize World.drew _ = W at *
          exact bodyPost_ret (v := .tuple #[iv ino, fv (nm, sl)]) (by simp [results, Try.results50, go_sem, e0, e1]; try rfl) rfl ⟨rfl, hU⟩
    · obtain rfl : k = cs.length := by omega
      have hat : ino = 0 ∧ (nm, sl) = zF := by
        rcases HAT.out with ⟨h1, -⟩ | ⟨-, h2, h3⟩
        · omega
        · exact ⟨h2, h3⟩
      obtain ⟨rfl, hz⟩ := hat
      injection hz with hz1 hz2
      subst hz1; subst hz2
      have hB1 := hB.out
      have d0 := hB1.cell 0
      have d1 := hB1.cell 1
      have f0 := hB1.frozen 0
      have f1 := hB1.frozen 1
      have HB4 := Lib.hid (blk_two hB1 (.string ⟨#[]⟩) (.slice none 0 0))
      have HU4 : Hid (Upd [] w ((wr.setCell ⟨w.heap.size, 0, none⟩ (.string ⟨#[]⟩)).setCell ⟨w.heap.size, 1, none⟩ (.slice none 0 0))) :=
        (hu.out.setCell _ _ (.inr (Nat.le_refl _))).setCell _ _ (.inr (Nat.le_refl _))
      clear hB1 HAT
      go_wp2_with fail
      have e0 := HB4.out.cell 0
      have e1 := HB4.out.cell 1
      have hU := HU4.out
      clear HB4 HU4
      generalize World.setCell _ _ _ = W at *
      exact bodyPost_ret (v := .tuple #[iv 0, fv zF]) (by simp [results, Try.results50, go_sem, e0, e1]; try rfl) rfl ⟨rfl, hU⟩
end
end Go.Proofs.Ytmhdhnipljonlaa
namespace Go.Proofs.Ytmhdhnipljonlaa
open Go.RowKit
set_option linter.unusedSimpArgs false
set_option linter.unusedVariables false
def findN (fl : FL) (s : ByteArray) : Nat := (fl.takeWhile fun p => decide (p.2.1 ≠ s)).length
def hasN (fl : FL) (s : ByteArray) : Bool := decide (findN fl s < fl.length)
theorem findN_le : ∀ (fl : FL) (s : ByteArray), findN fl s ≤ fl.length
  | [], s => by simp [findN]
  | p :: l, s => by
    have := findN_le l s
    unfold findN at this ⊢
    rw [List.takeWhile_cons]
    split <;> simp
    simpa using this
theorem findN_lt : ∀ (fl : FL) (s : ByteArray) (j : Nat), j < findN fl s → (nth fl j).2.1 ≠ s
  | [], s, j, h => by simp [findN] at h
  | p :: l, s, j, h => by
    unfold findN at h
    rw [List.takeWhile_cons] at h
    split at h
    · rename_i hp
      cases j with
      | zero => rw [nth_cons_zero]; simpa using hp
      | succ j => rw [nth_cons_succ]; exact findN_lt l s j (by simpa [findN] using h)
    · simp at h
theorem findN_at : ∀ (fl : FL) (s : ByteArray), findN fl s < fl.length → (nth fl (findN fl s)).2.1 = s
  | [], s, h => by simp at h
  | p :: l, s, h => by
    by_cases hp : p.2.1 = s
    · have : findN (p :: l) s = 0 := by unfold findN; rw [List.takeWhile_cons]; simp [hp]
      rw [this, nth_cons_zero]; exact hp
    · have e : findN (p :: l) s = findN l s + 1 := by unfold findN; rw [List.takeWhile_cons]; simp [hp]
      rw [e, nth_cons_succ]
      exact findN_at l s (by rw [e] at h; simpa using h)
/-- The least number from 1 on that is no key. -/
def freeIno {ν : Type} [Inhabited ν] (l : List (Int × ν)) : Int := ((((List.range' 0 (l.length + 1)).takeWhile fun k : Nat => isIn ltY l ((k : Int) + 1)).length : Nat) : Int) + 1
theorem tw_range (p : Nat → Bool) : ∀ (n s : Nat), (∀ j, j < ((List.range' s n).takeWhile p).length → p (s + j) = true) ∧ (((List.range' s n).takeWhile p).length < n → p (s + ((List.range' s n).takeWhile p).length) = false) ∧ ((List.range' s n).takeWhile p).length ≤ n
  | 0, s => ⟨fun j h => by simp at h, fun h => absurd h (by omega), by simp⟩
  | n + 1, s => by
    obtain ⟨h1, h2, h3⟩ := tw_range p n (s + 1)
    rw [List.range'_succ, List.takeWhile_cons]
    cases hp : p s with
    | false => simp [hp]
    | true =>
      rw [if_pos rfl, List.length_cons]
      refine ⟨fun j hj => ?_, fun hk => ?_, by omega⟩
      · cases j with
        | zero => rw [Nat.add_zero]; exact hp
        | succ j => rw [show s + (j + 1) = s + 1 + j by omega]; exact h1 j (by omega)
      · rw [← Nat.add_assoc, Nat.add_right_comm]; exact h2 (by omega)
theorem below_many {ν : Type} [Inhabited ν] {l : List (Int × ν)} (h : Rising ltY l) : ∀ k : Nat, (∀ j : Nat, j < k → isIn ltY l ((j : Int) + 1) = true) → k ≤ below ltY l ((k : Int) + 1)
  | 0, _ => Nat.zero_le _
  | k + 1, hj => by
    have ih := below_many h k (fun j h => hj j (by omega))
    have hin := hj k (by omega)
    unfold isIn at hin
    obtain ⟨a1, a2⟩ := of_decide_eq_true hin
    have hl := lt_below (lt := ltY) intOrd h (((k + 1 : Nat) : Int) + 1) _ a1
    rw [a2] at hl
    have : ltY ((k : Int) + 1) (((k + 1 : Nat) : Int) + 1) = true := by simp [ltY]; omega
    rw [this] at hl
    have := of_decide_eq_true hl.symm
    omega
theorem many_le {ν : Type} [Inhabited ν] {l : List (Int × ν)} (h : Rising ltY l) (k : Nat) (hj : ∀ j : Nat, j < k → isIn ltY l ((j : Int) + 1) = true) : k ≤ l.length :=
  Nat.le_trans (below_many h k hj) (below_le l _)
theorem freeIno_spec {ν : Type} [Inhabited ν] {l : List (Int × ν)} (h : Rising ltY l) : ∃ k : Nat, k ≤ l.length ∧ freeIno l = (k : Int) + 1 ∧ isIn ltY l ((k : Int) + 1) = false ∧ ∀ j : Nat, j < k → isIn ltY l ((j : Int) + 1) = true := by
  obtain ⟨h1, h2, h3⟩ := tw_range (fun k : Nat => isIn ltY l ((k : Int) + 1)) (l.length + 1) 0
  have hle := many_le h _ (fun j hj => by have := h1 j hj; rwa [Nat.zero_add] at this)
  refine ⟨_, hle, rfl, ?_, fun j hj => by have := h1 j hj; rwa [Nat.zero_add] at this⟩
  have := h2 (by omega)
  rwa [Nat.zero_add] at this
theorem freeIno_eq {ν : Type} [Inhabited ν] {l : List (Int × ν)} (h : Rising ltY l) (k : Nat) (h1 : ∀ j : Nat, j < k → isIn ltY l ((j : Int) + 1) = true) (h2 : isIn ltY l ((k : Int) + 1) = false) : freeIno l = (k : Int) + 1 := by
  obtain ⟨m, -, e, m2, m3⟩ := freeIno_spec h
  rcases Nat.lt_trichotomy m k with q | q | q
  · rw [h1 m q] at m2; exact absurd m2 (by simp)
  · rw [e, q]
  · rw [m3 k q] at h2; exact absurd h2 (by simp)
/-- What Create answers, and the files behind it. -/
def yCreate (fl : FL) (s : ByteArray) : Int × FL :=
  if nameOk s then (if hasN fl s then (8, fl) else if 12 ≤ fl.length then (9, fl) else (0, tSet ltY fl (freeIno fl) (s, []))) else (14, fl)
def inoN (fl : FL) (s : ByteArray) : Int := (nth fl (findN fl s)).1
def bytesN (fl : FL) (s : ByteArray) : List UInt8 := (nth fl (findN fl s)).2.2
def yAppend (fl : FL) (s : ByteArray) (p : List UInt8) : Int × FL :=
  if hasN fl s then (if 65536 < (bytesN fl s).length + p.length then (9, fl) else (0, tSet ltY fl (inoN fl s) (s, bytesN fl s ++ p))) else (7, fl)
def yRename (fl : FL) (s t : ByteArray) : Int × FL :=
  if nameOk t then
    (if hasN fl s then (0, tSet ltY (if hasN fl t && decide (inoN fl t ≠ inoN fl s) then tDel ltY fl (inoN fl t) else fl) (inoN fl s) (t, bytesN fl s)) else (7, fl))
  else (14, fl)
def yCut (fl : FL) (s : ByteArray) (n : Int) : Int × FL :=
  if hasN fl s then (if n < 0 ∨ (bytesN fl s).length < n then (1, fl) else (0, tSet ltY fl (inoN fl s) (s, (bytesN fl s).take n.toNat))) else (7, fl)
def yRemove (fl : FL) (s : ByteArray) : Int × FL :=
  if hasN fl s then (0, tDel ltY fl (inoN fl s)) else (7, fl)
end Go.Proofs.Ytmhdhnipljonlaa
namespace Go.Proofs.Ytmhdhnipljonlaa
open Go.RowKit
set_option linter.unusedSimpArgs false
set_option linter.unusedVariables false
theorem mem_take_nth {α : Type} [Inhabited α] {l : List α} {n : Nat} {p : α} (h : p ∈ l.take n) : ∃ i, i < n ∧ i < l.length ∧ nth l i = p := by
  obtain ⟨i, hi, rfl⟩ := List.mem_iff_getElem.1 h
  rw [List.length_take] at hi
  exact ⟨i, by omega, by omega, by rw [nth_get l i (by omega)]; simp⟩
theorem mem_drop_nth {α : Type} [Inhabited α] {l : List α} {n : Nat} {p : α} (h : p ∈ l.drop n) : ∃ i, n ≤ i ∧ i < l.length ∧ nth l i = p := by
  obtain ⟨i, hi, rfl⟩ := List.mem_iff_getElem.1 h
  rw [List.length_drop] at hi
  exact ⟨n + i, by omega, by omega, by rw [nth_get l _ (by omega)]; simp⟩
section
variable {ν : Type} [Inhabited ν]
theorem ltY_irr (a b : Int) (h : ltY a b = true) : a ≠ b := by simp [ltY] at h; omega
theorem tSet_memk {l : List (Int × ν)} (h : Rising ltY l) (k : Int) (v : ν) (p : Int × ν) (hp : p ∈ tSet ltY l k v) : p = (k, v) ∨ (p ∈ l ∧ p.1 ≠ k) := by
  unfold tSet at hp
  rcases List.mem_append.1 hp with hp | hp
  · obtain ⟨i, hi, hl, rfl⟩ := mem_take_nth hp
    exact .inr ⟨nth_mem i hl, ltY_irr _ _ (below_lt l k i hi)⟩
  · rcases List.mem_cons.1 hp with hp | hp
    · exact .inl hp
    · obtain ⟨i, hi, hl, rfl⟩ := mem_drop_nth hp
      exact .inr ⟨nth_mem i hl, (ltY_irr _ _ (above intOrd h k i hi hl)).symm⟩
theorem tDel_memk {l : List (Int × ν)} (h : Rising ltY l) (k : Int) (p : Int × ν) (hp : p ∈ tDel ltY l k) : p ∈ l ∧ (isIn ltY l k = true → p.1 ≠ k) := by
  refine ⟨tDel_mem l k p hp, fun hin => ?_⟩
  unfold tDel at hp
  rw [if_pos hin] at hp
  rcases List.mem_append.1 hp with hp | hp
  · obtain ⟨i, hi, hl, rfl⟩ := mem_take_nth hp
    exact ltY_irr _ _ (below_lt l k i hi)
  · obtain ⟨i, hi, hl, rfl⟩ := mem_drop_nth hp
    exact (ltY_irr _ _ (above intOrd h k i (by rw [if_pos hin]; exact hi) hl)).symm
variable {μ : Type} [Inhabited μ] (f : ν → μ)
theorem mapY_isIn (l : List (Int × ν)) (k : Int) : isIn ltY (tMap id f l) k = isIn ltY l k := tMap_isIn (lt := ltY) (lt' := ltY) id f (fun _ => True) (fun _ _ _ _ => rfl) (fun _ _ _ _ h => h) l (fun _ _ => trivial) k trivial
theorem mapY_below (l : List (Int × ν)) (k : Int) : below ltY (tMap id f l) k = below ltY l k := tMap_below (lt := ltY) (lt' := ltY) id f (fun _ => True) (fun _ _ _ _ => rfl) l (fun _ _ => trivial) k trivial
theorem mapY_set (l : List (Int × ν)) (k : Int) (v : ν) : tSet ltY (tMap id f l) k (f v) = tMap id f (tSet ltY l k v) := tMap_set (lt := ltY) (lt' := ltY) id f (fun _ => True) (fun _ _ _ _ => rfl) (fun _ _ _ _ h => h) l (fun _ _ => trivial) k trivial v
theorem mapY_del (l : List (Int × ν)) (k : Int) : tDel ltY (tMap id f l) k = tMap id f (tDel ltY l k) := tMap_del (lt := ltY) (lt' := ltY) id f (fun _ => True) (fun _ _ _ _ => rfl) (fun _ _ _ _ h => h) l (fun _ _ => trivial) k trivial
theorem mapY_rising {l : List (Int × ν)} (h : Rising ltY (tMap id f l)) : Rising ltY l := fun i j hij hj => by
  have hl : (tMap id f l).length = l.length := by simp [tMap]
  have := h i j hij (by rw [hl]; exact hj)
  rwa [tMap_nth id f l i (by omega), tMap_nth id f l j hj] at this
theorem mapY_rising' {l : List (Int × ν)} (h : Rising ltY l) : Rising ltY (tMap id f l) := fun i j hij hj => by
  have hl : (tMap id f l).length = l.length := by simp [tMap]
  rw [tMap_nth id f l i (by omega), tMap_nth id f l j (by omega)]
  exact h i j hij (by omega)
theorem mapY_free {l : List (Int × ν)} : freeIno (tMap id f l) = freeIno l := by
  unfold freeIno
  simp only [mapY_isIn]
  have hl : (tMap id f l).length = l.length := by simp [tMap]
  rw [hl]
end
theorem own_nil (base : Nat) (e : TypeId) (w : World) : Own bv base e w (slv ⟨none, 0, 0⟩) [] := World.ownsRow_nil _ _ _ _
theorem ap_none (G : List Nat) : Ap (blk (slv ⟨none, 0, 0⟩)) G := Ap.nil
theorem files_len (cs : CL) : (filesOf cs).length = cs.length := by simp [filesOf, tMap]
theorem nth_files (cs : CL) (i : Nat) (hi : i < cs.length) : nth (filesOf cs) i = ((nth cs i).1, (nth cs i).2.1.1, (nth cs i).2.2) := tMap_nth id (fun v : (ByteArray × Sl) × List UInt8 => (v.1.1, v.2)) cs i hi
section
variable {w0 w : World} {gy gf gt : Nat} {F T : List Nat} {cs : CL} {tk : List (Int × Int)}
theorem YC.p0 (h : YC w0 w gy gf gt F T cs tk) : w.cell? ⟨gy, 0, none⟩ = some (.pointer (some ⟨gf, 0, none⟩)) := h.yard.cell 0
theorem YC.p1 (h : YC w0 w gy gf gt F T cs tk) : w.cell? ⟨gy, 1, none⟩ = some (.pointer (some ⟨gt, 0, none⟩)) := h.yard.cell 1
theorem YC.ris (h : YC w0 w gy gf gt F T cs tk) : Rising ltY cs := mapY_rising (·.1) h.files.ris
theorem yFind_no (s : ByteArray) (h : YC w0 w gy gf gt F T cs tk) (hlen : cs.length ≤ 1000) (hn : hasN (filesOf cs) s = false) :
    Calls Try.prog 50 #[.pointer (some ⟨gy, 0, none⟩), sv s] w fun e w' => e = .returned (.tuple #[iv 0, fv zF]) ∧ Upd [] w w' := by
  have hle := findN_le (filesOf cs) s
  unfold hasN at hn
  have hn := of_decide_eq_false hn
  rw [files_len] at hle hn
  exact yFind_any s cs.length 0 _ _ h hlen (Nat.le_refl _) (fun j hj => by
    have := findN_lt (filesOf cs) s j (by omega)
    rwa [nth_files cs j hj] at this) (.inr ⟨rfl, rfl, rfl⟩)
theorem yFind_yes (s : ByteArray) (i : Nat) (h : YC w0 w gy gf gt F T cs tk) (hlen : cs.length ≤ 1000) (hn : hasN (filesOf cs) s = true) (hi : findN (filesOf cs) s = i) :
    Calls Try.prog 50 #[.pointer (some ⟨gy, 0, none⟩), sv s] w fun e w' => e = .returned (.tuple #[iv (nth cs i).1, fv (nth cs i).2.1]) ∧ Upd [] w w' := by
  subst hi
  unfold hasN at hn
  have hn := of_decide_eq_true hn
  have hat := findN_at (filesOf cs) s hn
  have hlo := fun j hj => findN_lt (filesOf cs) s j hj
  rw [files_len] at hn
  rw [nth_files cs _ hn] at hat
  exact yFind_any s _ _ _ _ h hlen (Nat.le_of_lt hn) (fun j hj => by
    have := hlo j hj
    rwa [nth_files cs j (by omega)] at this) (.inl ⟨hn, hat, rfl, rfl⟩)
/-- Set on the table of files. -/
theorem YC.set (h : YC w0 w gy gf gt F T cs tk) (hlen : cs.length ≤ 1000) (k : Int) (hk : I64 k) (nm : ByteArray) (sl : Sl) (p : List UInt8) (ho : Own bv w0.heap.size 5 w (slv sl) p) (hap : ∀ d ∈ cs, d.1 ≠ k → Ap (blk (slv sl)) (blk (slv d.2.1.2))) :
    Calls Try.prog 53 #[.pointer (some ⟨gf, 0, none⟩), iv k, fv (nm, sl)] w fun e w' => (∃ r, e = .returned (.bool r)) ∧ (∃ F', YC w0 w' gy gf gt F' T (tSet ltY cs k ((nm, sl), p)) tk ∧ Upd F w w' ∧ (∀ x ∈ F', x ∈ F ∨ w.heap.size ≤ x)) := by
  refine (txIF_Set k (nm, sl) _ _ h.files (by rw [rows_len]; omega) hk rfl rfl).mono ?_
  rintro e w' ⟨rfl, F', hf, hu, hfr⟩
  have hrow : tSet ltIF (rowsOf cs) k (nm, sl) = rowsOf (tSet ltY cs k ((nm, sl), p)) := mapY_set (·.1) cs k ((nm, sl), p)
  rw [hrow] at hf
  refine ⟨⟨_, rfl⟩, F', h.setFiles hf hu ?_ ?_, hu, hfr⟩
  · intro c hc
    rcases tSet_memk h.ris k _ c hc with rfl | ⟨q, -⟩
    · exact ho
    · exact h.own c q
  · intro c hc d hd hne
    rcases tSet_memk h.ris k _ c hc with rfl | ⟨q, qk⟩ <;> rcases tSet_memk h.ris k _ d hd with rfl | ⟨r, rk⟩
    · exact absurd rfl hne
    · exact hap d r rk
    · exact (hap c q qk).symm
    · exact h.ap c q d r hne
theorem YC.del (h : YC w0 w gy gf gt F T cs tk) (hlen : cs.length ≤ 1000) (k : Int) (hk : I64 k) :
    Calls Try.prog 54 #[.pointer (some ⟨gf, 0, none⟩), iv k] w fun e w' => (∃ r, e = .returned (.bool r)) ∧ (∃ F', YC w0 w' gy gf gt F' T (tDel ltY cs k) tk ∧ Upd F w w' ∧ (∀ x ∈ F', x ∈ F ∨ w.heap.size ≤ x)) := by
  refine (txIF_Del k _ _ h.files (by rw [rows_len]; omega) hk rfl rfl).mono ?_
  rintro e w' ⟨rfl, F', hf, hu, hfr⟩
  have hrow : tDel ltIF (rowsOf cs) k = rowsOf (tDel ltY cs k) := mapY_del (·.1) cs k
  rw [hrow] at hf
  exact ⟨⟨_, rfl⟩, F', h.setFiles hf hu (fun c hc => h.own c (tDel_mem cs k c hc)) (fun c hc d hd hne => h.ap c (tDel_mem cs k c hc) d (tDel_mem cs k d hd) hne), hu, hfr⟩
end
/-- A yard's blocks. -/
def foot (gy : Nat) (F T : List Nat) (cs : CL) : List Nat := gy :: (F ++ T ++ cs.flatMap fun c => blk (slv c.2.1.2))
theorem foot_mem (gy : Nat) (F T : List Nat) (cs : CL) (x : Nat) : x ∈ foot gy F T cs ↔ x = gy ∨ x ∈ F ∨ x ∈ T ∨ ∃ c ∈ cs, x ∈ blk (slv c.2.1.2) := by
  unfold foot
  simp only [List.mem_cons, List.mem_append, List.mem_flatMap]
  constructor
  · rintro (h | (h | h) | h)
    · exact .inl h
    · exact .inr (.inl h)
    · exact .inr (.inr (.inl h))
    · exact .inr (.inr (.inr h))
  · rintro (h | h | h | h)
    · exact .inl h
    · exact .inr (.inl (.inl h))
    · exact .inr (.inl (.inr h))
    · exact .inr (.inr h)
theorem YC.ge {w0 w : World} {gy gf gt : Nat} {F T : List Nat} {cs : CL} {tk : List (Int × Int)} (h : YC w0 w gy gf gt F T cs tk) : ∀ x ∈ foot gy F T cs, w0.heap.size ≤ x ∧ x < w.heap.size := by
  intro x hx
  rcases (foot_mem gy F T cs x).1 hx with rfl | hx | hx | ⟨c, hc, hx⟩
  · exact ⟨h.gyb, h.yard.lt⟩
  · exact h.files.ge x hx
  · exact h.taken.ge x hx
  · exact (h.own c hc).ge x hx
/-- A yard, as the laws see it; G: its blocks. -/
structure YD (w0 w : World) (gy : Nat) (G : List Nat) (fl : FL) (tk : List (Int × Int)) : Prop where
  ex : ∃ gf gt F T cs, YC w0 w gy gf gt F T cs tk ∧ filesOf cs = fl ∧ cs.length ≤ 12 ∧ (∀ c ∈ cs, 1 ≤ c.1 ∧ c.1 ≤ 12 ∧ c.2.2.length ≤ 65536) ∧ G = foot gy F T cs
/-- Behind a call: the files are fl', and nothing but the yard's blocks has changed. -/
def YOut (w0 w : World) (gy : Nat) (G : List Nat) (fl' : FL) (tk' : List (Int × Int)) (w' : World) : Prop := ∃ G', YD w0 w' gy G' fl' tk' ∧ Upd G w w' ∧ (∀ x ∈ G', x ∈ G ∨ w.heap.size ≤ x)
section
variable {w0 w w' : World} {gy : Nat} {G : List Nat} {fl : FL} {tk : List (Int × Int)}
theorem YD.old (h : YD w0 w gy G fl tk) : Upd [] w0 w := by
  obtain ⟨gf, gt, F, T, cs, hc, -⟩ := h.ex
  exact hc.old
theorem YD.ge (h : YD w0 w gy G fl tk) : ∀ x ∈ G, w0.heap.size ≤ x ∧ x < w.heap.size := by
  obtain ⟨gf, gt, F, T, cs, hc, -, -, -, rfl⟩ := h.ex
  exact hc.ge
theorem YD.ris (h : YD w0 w gy G fl tk) : Rising ltY fl ∧ fl.length ≤ 12 ∧ (∀ p ∈ fl, 1 ≤ p.1 ∧ p.1 ≤ 12 ∧ p.2.2.length ≤ 65536) := by
  obtain ⟨gf, gt, F, T, cs, hc, rfl, hl, hin, -⟩ := h.ex
  refine ⟨mapY_rising' _ hc.ris, by rw [files_len]; exact hl, fun p hp => ?_⟩
  unfold filesOf tMap at hp
  obtain ⟨c, hcm, rfl⟩ := List.mem_map.1 hp
  exact hin c hcm
theorem YC.upd {gf gt : Nat} {F T : List Nat} {cs : CL} (h : YC w0 w gy gf gt F T cs tk) {S : List Nat} (hu : Upd S w w') (hs : ∀ x ∈ foot gy F T cs, x ∉ S) (hS : ∀ x ∈ S, w0.heap.size ≤ x) : YC w0 w' gy gf gt F T cs tk :=
  ⟨h.yard.upd hu (hs gy ((foot_mem _ _ _ _ _).2 (.inl rfl))), h.gyb, h.files.upd hu (fun x hx => hs x ((foot_mem _ _ _ _ _).2 (.inr (.inl hx)))) hS, h.taken.upd hu (fun x hx => hs x ((foot_mem _ _ _ _ _).2 (.inr (.inr (.inl hx))))) hS, fun c hc => (h.own c hc).upd hu (fun x hx => hs x ((foot_mem _ _ _ _ _).2 (.inr (.inr (.inr ⟨c, hc, hx⟩))))), h.ap⟩
theorem YD.upd (h : YD w0 w gy G fl tk) {S : List Nat} (hu : Upd S w w') (hs : ∀ x ∈ G, x ∉ S) (hS : ∀ x ∈ S, w0.heap.size ≤ x) : YD w0 w' gy G fl tk := by
  obtain ⟨gf, gt, F, T, cs, hc, h1, h2, h3, rfl⟩ := h.ex
  exact ⟨gf, gt, F, T, cs, hc.upd hu hs hS, h1, h2, h3, rfl⟩
theorem YD.upd0 (h : YD w0 w gy G fl tk) (hu : Upd [] w w') : YD w0 w' gy G fl tk := h.upd hu (by simp) (by simp)
theorem YD.out0 (h : YD w0 w gy G fl tk) (hu : Upd [] w w') : YOut w0 w gy G fl tk w' := ⟨G, h.upd0 hu, hu.mono (by simp), fun x hx => .inl hx⟩
theorem YOut.of {gf' gt' : Nat} {F T F' T' : List Nat} {cs cs' : CL} {fl' : FL} {tk' : List (Int × Int)} (h' : YC w0 w' gy gf' gt' F' T' cs' tk') (hfl : filesOf cs' = fl') (hl : cs'.length ≤ 12) (hin : ∀ c ∈ cs', 1 ≤ c.1 ∧ c.1 ≤ 12 ∧ c.2.2.length ≤ 65536)
    (hu : Upd (foot gy F T cs) w w') (hF : ∀ x ∈ F', x ∈ foot gy F T cs ∨ w.heap.size ≤ x) (hT : ∀ x ∈ T', x ∈ foot gy F T cs ∨ w.heap.size ≤ x) (hcs : ∀ c ∈ cs', ∀ x ∈ blk (slv c.2.1.2), x ∈ foot gy F T cs ∨ w.heap.size ≤ x) : YOut w0 w gy (foot gy F T cs) fl' tk' w' := by
  refine ⟨foot gy F' T' cs', ⟨gf', gt', F', T', cs', h', hfl, hl, hin, rfl⟩, hu, fun x hx => ?_⟩
  rcases (foot_mem _ _ _ _ _).1 hx with rfl | hx | hx | ⟨c, hc, hx⟩
  · exact .inl ((foot_mem _ _ _ _ _).2 (.inl rfl))
  · exact hF x hx
  · exact hT x hx
  · exact hcs c hc x hx
theorem foot_F {gy : Nat} {F T : List Nat} {cs : CL} {x : Nat} (h : x ∈ F) : x ∈ foot gy F T cs := (foot_mem _ _ _ _ _).2 (.inr (.inl h))
theorem foot_T {gy : Nat} {F T : List Nat} {cs : CL} {x : Nat} (h : x ∈ T) : x ∈ foot gy F T cs := (foot_mem _ _ _ _ _).2 (.inr (.inr (.inl h)))
theorem foot_c {gy : Nat} {F T : List Nat} {cs : CL} {x : Nat} {c : Int × (ByteArray × Sl) × List UInt8} (hc : c ∈ cs) (h : x ∈ blk (slv c.2.1.2)) : x ∈ foot gy F T cs := (foot_mem _ _ _ _ _).2 (.inr (.inr (.inr ⟨c, hc, h⟩)))
end
end Go.Proofs.Ytmhdhnipljonlaa
namespace Go.Proofs.Ytmhdhnipljonlaa
open Go.RowKit
set_option linter.unusedSimpArgs false
set_option linter.unusedVariables false
theorem yNew_any (w0 w : World) (hu : Upd [] w0 w) :
    Calls Try.prog 14 #[] w fun e w' => ∃ gy, e = .returned (.pointer (some ⟨gy, 0, none⟩)) ∧ (∃ G, YD w0 w' gy G [] [] ∧ (∀ x ∈ G, w.heap.size ≤ x)) ∧ Upd [] w w' := by
  have HU := Lib.hid hu
  go_enter Try.func14, Try.ntmps14
  go_wp2_with fail
  (with_reducible refine (txIF_New w0 _ HU.out).mono ?_)
  rintro e w1 ⟨gf, F, rfl, hf, hu1, hF⟩
  have HF := Lib.hid hf
  have HFR := Lib.hid hF
  have HUa := Lib.hid hu1
  have HU1 := Lib.hid (HU.out.seq hu1)
  clear hf hu1 hF
  go_wp2_with fail
  (with_reducible refine (txIJ_New w0 _ HU1.out).mono ?_)
  rintro e w2 ⟨gt, T, rfl, ht, hu2, hT⟩
  have HT := Lib.hid ht
  have HTR := Lib.hid hT
  have HUb := Lib.hid (HUa.out.seq hu2)
  have HF2 := Lib.hid (HF.out.upd0 hu2)
  have hsz := (HU1.out.seq hu2).size
  clear ht hu2 hT
  go_wp2_with fail
  go_ret
  have hua := (Upd.refl [] w2).alloc (.cells #[.pointer (some ⟨gf, 0, none⟩), .pointer (some ⟨gt, 0, none⟩)] 95)
  refine ⟨_, rfl, ⟨_, ⟨gf, gt, F, T, [], ⟨Blk.new w2 _ [_, _], hsz, HF2.out.upd0 hua, HT.out.upd0 hua, by simp, by simp⟩, rfl, by simp, by simp, rfl⟩, fun x hx => ?_⟩, HUb.out.seq hua⟩
  have h1 := HUa.out.size
  have h2 := HUb.out.size
  rcases (foot_mem _ _ _ _ _).1 hx with rfl | hx | hx | ⟨c, hc, hx⟩
  · exact h2
  · exact HFR.out x hx
  · have := HTR.out x hx; omega
  · simp at hc
section
variable {w0 w : World} {gy : Nat} {G : List Nat} {fl : FL} {tk : List (Int × Int)}
/-- What a call on a yard does: it answers c, and the files are fl'. -/
def YDoes (w0 w : World) (gy : Nat) (G : List Nat) (tk : List (Int × Int)) (r : Int × FL) (e : Ending) (w' : World) : Prop := e = .returned (.int .i64 r.1) ∧ YOut w0 w gy G r.2 tk w'
set_option maxRecDepth 20000 in
set_option maxHeartbeats 1000000 in
theorem yCreate_any (s : ByteArray) (h : YD w0 w gy G fl tk) :
    Calls Try.prog 15 #[.pointer (some ⟨gy, 0, none⟩), sv s] w (YDoes w0 w gy G tk (yCreate fl s)) := by
  obtain ⟨gf, gt, F, T, cs, hc, rfl, hlen, hin, rfl⟩ := h.ex
  have HC := Lib.hid hc
  have hlen1 : cs.length ≤ 1000 := by omega
  have HIN := Lib.hid hin
  have HLC : Hid (((rowsOf cs).length : Int) = (cs.length : Int)) := by unfold Hid; rw [rows_len]
  have HD := Lib.hid h
  clear hc h hin
  cases hn : nameOk s with
  | false =>
    have HY : Hid (yCreate (filesOf cs) s = (14, filesOf cs)) := by unfold Hid yCreate; rw [hn]; rfl
    have HN := Lib.hid (named_any w s)
    rw [hn] at HN
    go_enter Try.func15, Try.ntmps15
    go_wp2_with fail
    (with_reducible refine HN.out.mono ?_)
    rintro e w' ⟨rfl, rfl⟩
    go_wp2_with fail
    go_ret
    exact ⟨by rw [HY.out]; rfl, by rw [HY.out]; exact HD.out.out0 (Upd.refl _ _)⟩
  | true =>
    have HN := Lib.hid (named_any w s)
    rw [hn] at HN
    cases hh : hasN (filesOf cs) s with
    | true =>
      have HY : Hid (yCreate (filesOf cs) s = (8, filesOf cs)) := by unfold Hid yCreate; rw [hn, hh]; rfl
      have HF := Lib.hid (yFind_yes s _ HC.out hlen1 hh rfl)
      unfold hasN at hh
      have hlt := of_decide_eq_true hh
      rw [files_len] at hlt
      have hpos := (HIN.out _ (by have := nth_mem (l := cs) _ hlt; exact this)).1
      generalize (nth cs (findN (filesOf cs) s)).2.1 = v at *
      generalize (nth cs (findN (filesOf cs) s)).1 = x at *
      have hpos' : (0 : Int) < x := by omega
      obtain ⟨nm, sl⟩ := v
      clear hh hlt hn
      go_enter Try.func15, Try.ntmps15
      go_wp2_with fail
      (with_reducible refine HN.out.mono ?_)
      rintro e w' ⟨rfl, rfl⟩
      go_wp2_with fail
      (with_reducible refine HF.out.mono ?_)
      rintro e w1 ⟨rfl, hu1⟩
      have HU1 := Lib.hid hu1
      clear hu1
      go_wp2_with fail
      go_ret
      exact ⟨by rw [HY.out]; rfl, by rw [HY.out]; exact HD.out.out0 (HU1.out.alloc _)⟩
    | false =>
      have HF := Lib.hid (yFind_no s HC.out hlen1 hh)
      by_cases hfull : 12 ≤ cs.length
      · have HY : Hid (yCreate (filesOf cs) s = (9, filesOf cs)) := by unfold Hid yCreate; rw [hn, hh, files_len]; simp [hfull]
        have q : (12 : Int) ≤ cs.length := by omega
        clear hh hn
        go_enter Try.func15, Try.ntmps15
        go_wp2_with fail
        (with_reducible refine HN.out.mono ?_)
        rintro e w' ⟨rfl, rfl⟩
        go_wp2_with fail
        (with_reducible refine HF.out.mono ?_)
        rintro e w1 ⟨rfl, hu1⟩
        have HU1 := Lib.hid (hu1.alloc (.cells #[.string ⟨#[]⟩, .slice none 0 0] 91))
        have y0 := (HC.out.upd0 HU1.out).p0
        clear hu1
        go_wp2_with fail
        (with_reducible refine (txIF_Len _ ((HC.out.upd0 HU1.out).files) HLC.out).mono ?_)
        rintro e w' ⟨rfl, rfl⟩
        go_wp2_with fail
        go_ret
        exact ⟨by rw [HY.out]; rfl, by rw [HY.out]; exact HD.out.out0 HU1.out⟩
      · have q : ¬ (12 : Int) ≤ cs.length := by omega
        have HY : Hid (yCreate (filesOf cs) s = (0, tSet ltY (filesOf cs) (freeIno (filesOf cs)) (s, []))) := by unfold Hid yCreate; rw [hn, hh, files_len]; simp [hfull]
        clear hh hn
        go_enter Try.func15, Try.ntmps15
        go_wp2_with fail
        (with_reducible refine HN.out.mono ?_)
        rintro e w' ⟨rfl, rfl⟩
        go_wp2_with fail
        (with_reducible refine HF.out.mono ?_)
        rintro e w1 ⟨rfl, hu1⟩
        have HU1 := Lib.hid (hu1.alloc (.cells #[.string ⟨#[]⟩, .slice none 0 0] 91))
        have y0 := (HC.out.upd0 HU1.out).p0
        clear hu1
        go_wp2_with fail
        (with_reducible refine (txIF_Len _ ((HC.out.upd0 HU1.out).files) HLC.out).mono ?_)
        rintro e w' ⟨rfl, rfl⟩
        go_wp2_with fail
        clear y0
        go_loopw [7] (fun x wr => ∃ k : Nat, x = .int .i64 ((k : Int) + 1) ∧ Hid (∀ j : Nat, j < k → isIn ltY cs ((j : Int) + 1) = true) ∧ Hid (Upd [] w wr)) (fun x _ => cs.length + 2 - (intOf x).toNat)
        case atStart => exact ⟨0, rfl, fun j hj => absurd hj (by omega), HU1⟩
        case round =>
          clear HU1
          obtain ⟨k, rfl, hall, hu⟩ := hrel
          have hkl := many_le HC.out.ris k hall.out
          have y1 := (HC.out.upd0 hu.out).p0
          have HK : Hid (I64 ((k : Int) + 1)) := ⟨by omega, by omega⟩
          have HRL : Hid ((rowsOf cs).length ≤ 100000) := by unfold Hid; rw [rows_len]; omega
          cases hin : isIn ltY cs ((k : Int) + 1) with
          | true =>
            have HG : Hid (∃ v, tGet ltIF zF (rowsOf cs) ((k : Int) + 1) = (v, true)) := by
              refine ⟨(nth (rowsOf cs) (below ltIF (rowsOf cs) ((k : Int) + 1))).2, ?_⟩
              unfold tGet
              have : isIn ltIF (rowsOf cs) ((k : Int) + 1) = true := (mapY_isIn (·.1) cs ((k : Int) + 1)).trans hin
              rw [this]; rfl
            obtain ⟨⟨nm, sl⟩, hv⟩ := HG.out
            have HV := Lib.hid hv
            have HALL : Hid (∀ j : Nat, j < k + 1 → isIn ltY cs ((j : Int) + 1) = true) := fun j hj => by
              rcases Nat.lt_or_eq_of_le (Nat.le_of_lt_succ hj) with h | h
              · exact hall.out j h
              · rw [h]; exact hin
            have hkl2 := many_le HC.out.ris (k + 1) HALL.out
            clear hv hin
            go_wp2_with fail
            (with_reducible refine (txIF_Get ((k : Int) + 1) (nm, sl) true ((HC.out.upd0 hu.out).files) HRL.out HK.out HV.out).mono ?_)
            rintro e w2 ⟨rfl, hu2⟩
            have HU2 := Lib.hid (hu.out.seq hu2)
            clear hu2 y1
            go_wp2_with fail
            go_roundw
            case rel => exact ⟨k + 1, by go_num, HALL, HU2.out.alloc _⟩
            case measure => simp [intOf]; omega
          | false =>
            have HV : Hid (tGet ltIF zF (rowsOf cs) ((k : Int) + 1) = (zF, false)) := by
              unfold Hid tGet
              have : isIn ltIF (rowsOf cs) ((k : Int) + 1) = false := (mapY_isIn (·.1) cs ((k : Int) + 1)).trans hin
              rw [this]; rfl
            have hfr := freeIno_eq HC.out.ris k hall.out hin
            have HFL : Hid (tSet ltY (filesOf cs) (freeIno (filesOf cs)) (s, []) = filesOf (tSet ltY cs ((k : Int) + 1) ((s, ⟨none, 0, 0⟩), []))) := by
              unfold Hid
              rw [mapY_free, hfr]
              exact mapY_set (fun v : (ByteArray × Sl) × List UInt8 => (v.1.1, v.2)) cs ((k : Int) + 1) ((s, ⟨none, 0, 0⟩), [])
            clear hin hfr
            go_wp2_with fail
            (with_reducible refine (txIF_Get ((k : Int) + 1) zF false ((HC.out.upd0 hu.out).files) HRL.out HK.out HV.out).mono ?_)
            rintro e w2 ⟨rfl, hu2⟩
            have HU2 := Lib.hid ((hu.out.seq hu2).alloc (.cells #[.string ⟨#[]⟩, .slice none 0 0] 91))
            clear hu2 y1
            have y2 := (HC.out.upd0 HU2.out).p0
            go_wp2_with fail
            (with_reducible refine ((HC.out.upd0 HU2.out).set hlen1 ((k : Int) + 1) HK.out s ⟨none, 0, 0⟩ [] (own_nil _ _ _) (fun d _ _ => ap_none _)).mono ?_)
            rintro e w3 ⟨⟨r, rfl⟩, F', hc3, hu3, hf3⟩
            have HC3 := Lib.hid hc3
            have HU3 := Lib.hid hu3
            have HF3 := Lib.hid hf3
            clear hc3 hu3 hf3
            go_wp2_with fail
            go_ret
            refine ⟨by rw [HY.out]; rfl, ?_⟩
            rw [HY.out]
            have hsz := HU2.out.size
            refine YOut.of HC3.out HFL.out.symm ?_ ?_ (HU2.out.trans HU3.out (by simp) (fun x hx => .inl (foot_F hx))) (fun x hx => (HF3.out x hx).imp foot_F (fun q => by omega)) (fun x hx => .inl (foot_T hx)) ?_
            · have := tSet_len (lt := ltY) cs ((k : Int) + 1) ((s, ⟨none, 0, 0⟩), []); omega
            · intro c hcm
              rcases tSet_mem cs _ _ c hcm with rfl | q
              · exact ⟨by simp; omega, by simp; omega, by simp⟩
              · exact HIN.out c q
            · intro c hcm x hx
              rcases tSet_mem cs _ _ c hcm with rfl | q
              · exact absurd hx (by simp [blk])
              · exact .inl (foot_c q hx)
end
end Go.Proofs.Ytmhdhnipljonlaa
namespace Go.Proofs.Ytmhdhnipljonlaa
open Go.RowKit
set_option linter.unusedSimpArgs false
set_option linter.unusedVariables false
section
variable {w0 w w2 : World} {gy gf gt : Nat} {F T : List Nat} {cs : CL} {tk : List (Int × Int)}
/-- Set on the table of files, the bytes of the key's own slice written ahead of it. -/
theorem YC.setG (h : YC w0 w gy gf gt F T cs tk) (hlen : cs.length ≤ 1000) (c0 : Int × (ByteArray × Sl) × List UInt8) (hc0 : c0 ∈ cs) (hu : Upd (blk (slv c0.2.1.2)) w w2) (k : Int) (hk : I64 k) (hck : c0.1 = k) (nm : ByteArray) (sl : Sl) (p : List UInt8) (ho : Own bv w0.heap.size 5 w2 (slv sl) p) (hap : ∀ x ∈ blk (slv sl), x ∈ blk (slv c0.2.1.2) ∨ w.heap.size ≤ x) :
    Calls Try.prog 53 #[.pointer (some ⟨gf, 0, none⟩), iv k, fv (nm, sl)] w2 fun e w' => (∃ r, e = .returned (.bool r)) ∧ (∃ F', YC w0 w' gy gf gt F' T (tSet ltY cs k ((nm, sl), p)) tk ∧ Upd F w2 w' ∧ (∀ x ∈ F', x ∈ F ∨ w2.heap.size ≤ x)) := by
  have hS : ∀ x ∈ blk (slv c0.2.1.2), w0.heap.size ≤ x := fun x hx => ((h.own c0 hc0).ge x hx).1
  have hf2 := h.files.upd hu (if_own h.files (h.own c0 hc0)) hS
  have ht2 := h.taken.upd hu (ij_own h.taken (h.own c0 hc0)) hS
  have hy2 := h.yard.upd hu (gy_own h.yard (h.own c0 hc0))
  have ho2 : ∀ d ∈ cs, d.1 ≠ k → Own bv w0.heap.size 5 w2 (slv d.2.1.2) d.2.2 := fun d hd hne => (h.own d hd).upd hu (h.ap d hd c0 hc0 (by rw [hck]; exact hne))
  have hap2 : ∀ d ∈ cs, d.1 ≠ k → Ap (blk (slv sl)) (blk (slv d.2.1.2)) := fun d hd hne x hx hxd => by
    rcases hap x hx with q | q
    · exact h.ap c0 hc0 d hd (by rw [hck]; exact hne.symm) x q hxd
    · have := ((h.own d hd).ge x hxd).2; omega
  refine (txIF_Set k (nm, sl) _ _ hf2 (by rw [rows_len]; omega) hk rfl rfl).mono ?_
  rintro e w' ⟨rfl, F', hf, hu', hfr⟩
  have hrow : tSet ltIF (rowsOf cs) k (nm, sl) = rowsOf (tSet ltY cs k ((nm, sl), p)) := mapY_set (·.1) cs k ((nm, sl), p)
  rw [hrow] at hf
  have hgF : gy ∉ F := h.gy_F
  refine ⟨⟨_, rfl⟩, F', ⟨hy2.upd hu' hgF, h.gyb, hf, ht2.upd hu' (if_ij hf2 ht2).symm (fun x hx => (hf2.ge x hx).1), ?_, ?_⟩, hu', hfr⟩
  · intro c hc
    rcases tSet_memk h.ris k _ c hc with rfl | ⟨q, qk⟩
    · exact ho.upd hu' (if_own hf2 ho).symm
    · exact (ho2 c q qk).upd hu' (if_own hf2 (ho2 c q qk)).symm
  · intro c hc d hd hne
    rcases tSet_memk h.ris k _ c hc with rfl | ⟨q, qk⟩ <;> rcases tSet_memk h.ris k _ d hd with rfl | ⟨r, rk⟩
    · exact absurd rfl hne
    · exact hap2 d r rk
    · exact (hap2 c q qk).symm
    · exact h.ap c q d r hne
end
section
variable {w0 w : World} {gy : Nat} {G : List Nat} {fl : FL} {tk : List (Int × Int)}
set_option maxRecDepth 20000 in
set_option maxHeartbeats 1000000 in
theorem yAppend_any (s : ByteArray) (vp : Value) (p : List UInt8) (hp : Bytes w vp p) (hpl : p.length ≤ 70368744177664) (h : YD w0 w gy G fl tk) :
    Calls Try.prog 16 #[.pointer (some ⟨gy, 0, none⟩), sv s, vp] w (YDoes w0 w gy G tk (yAppend fl s p)) := by
  obtain ⟨gf, gt, F, T, cs, hc, rfl, hlen, hin, rfl⟩ := h.ex
  have HC := Lib.hid hc
  have hlen1 : cs.length ≤ 1000 := by omega
  have HIN := Lib.hid hin
  have HD := Lib.hid h
  have HP := Lib.hid hp
  obtain ⟨ap, cp, rfl, -, -, -⟩ := hp
  cases hh : hasN (filesOf cs) s with
  | false =>
    have HY : Hid (yAppend (filesOf cs) s p = (7, filesOf cs)) := by unfold Hid yAppend; rw [hh]; rfl
    have HF := Lib.hid (yFind_no s HC.out hlen1 hh)
    clear hc h hin hh
    go_enter Try.func16, Try.ntmps16
    go_wp2_with fail
    (with_reducible refine HF.out.mono ?_)
    rintro e w1 ⟨rfl, hu1⟩
    have HU1 := Lib.hid (hu1.alloc (.cells #[.string ⟨#[]⟩, .slice none 0 0] 91))
    clear hu1
    go_wp2_with fail
    go_ret
    exact ⟨by rw [HY.out]; rfl, by rw [HY.out]; exact HD.out.out0 HU1.out⟩
  | true =>
    have HF := Lib.hid (yFind_yes s _ HC.out hlen1 hh rfl)
    have hlt : findN (filesOf cs) s < cs.length := by unfold hasN at hh; have := of_decide_eq_true hh; rwa [files_len] at this
    have hat := findN_at (filesOf cs) s (by rw [files_len]; exact hlt)
    rw [nth_files cs _ hlt] at hat
    have hmem : nth cs (findN (filesOf cs) s) ∈ cs := nth_mem _ hlt
    have hino : inoN (filesOf cs) s = (nth cs (findN (filesOf cs) s)).1 := by unfold inoN; rw [nth_files cs _ hlt]
    have hby : bytesN (filesOf cs) s = (nth cs (findN (filesOf cs) s)).2.2 := by unfold bytesN; rw [nth_files cs _ hlt]
    generalize nth cs (findN (filesOf cs) s) = c0 at *
    obtain ⟨x, ⟨nm, sl⟩, bs⟩ := c0
    have hat : nm = s := hat
    subst hat
    have hino : inoN (filesOf cs) nm = x := hino
    have hby : bytesN (filesOf cs) nm = bs := hby
    have hx := hin _ hmem
    have hx1 : (1 : Int) ≤ x := hx.1
    have hx2 : x ≤ 12 := hx.2.1
    have hbl : bs.length ≤ 65536 := hx.2.2
    have hwr : IntKind.i64.wrap (65536 - (bs.length : Int)) = 65536 - (bs.length : Int) := by rw [IntKind.wrap_i64]; omega
    have HX : Hid (I64 x) := ⟨by omega, by omega⟩
    have hx0 : (x == 0) = false := by rw [beq_eq_false_iff_ne]; omega
    have HMEM := Lib.hid hmem
    have ho := hc.own _ hmem
    have HO : Hid (Own bv w0.heap.size 5 w (slv sl) bs) := ho
    have hsn : sl.n = bs.length := by
      rcases ho.2 with ⟨he, h0⟩ | ⟨g', cap', cur, he, -⟩
      · injection he with e1 e2 e3; rw [e2]; exact h0.symm
      · injection he with e1 e2 e3
    obtain ⟨sa, sn, sk⟩ := sl
    have hsn : sn = bs.length := hsn
    subst hsn
    by_cases hfull : 65536 < bs.length + p.length
    · have HY : Hid (yAppend (filesOf cs) nm p = (9, filesOf cs)) := by unfold Hid yAppend; rw [hh, hby]; simp [hfull]
      clear hc h hin hh hlt hmem ho hx
      go_enter Try.func16, Try.ntmps16
      go_wp2_with fail
      (with_reducible refine HF.out.mono ?_)
      rintro e w1 ⟨rfl, hu1⟩
      have HU1 := Lib.hid (hu1.alloc (.cells #[sv nm, .slice sa bs.length sk] 91))
      clear hu1
      go_wp2_with fail
      go_ret
      exact ⟨by rw [HY.out]; rfl, by rw [HY.out]; exact HD.out.out0 HU1.out⟩
    · have HY : Hid (yAppend (filesOf cs) nm p = (0, tSet ltY (filesOf cs) x (nm, bs ++ p))) := by unfold Hid yAppend; rw [hh, hby, hino]; simp [hfull]
      have q : ¬ 65536 - (bs.length : Int) < p.length := by omega
      clear hc h hin hh hlt hmem ho hx
      go_enter Try.func16, Try.ntmps16
      go_wp2_with fail
      (with_reducible refine HF.out.mono ?_)
      rintro e w1 ⟨rfl, hu1⟩
      have HUa := Lib.hid (hu1.alloc (.cells #[sv nm, .slice sa bs.length sk] 91))
      have HRUN := Lib.hid (fun ty => run_app (P := Try.prog) (ty := ty) bv_one Try.underlying27 infoByte rfl (.slice sa bs.length sk) (.slice ap p.length cp) bs p (HO.out.upd HUa.out (by simp)) (HP.out.upd0 HUa.out) (by omega) (by unfold maxLen; omega) (by have := HUa.out.size; have := HC.out.old.size; omega))
      have HBF := Lib.hid (Blk.new w1 91 [sv nm, .slice sa bs.length sk])
      have hs1 := hu1.size
      have HNB : Hid (w1.heap.size ∉ blk (.slice sa bs.length sk)) := fun hx => by have := (HO.out.ge _ hx).2; omega
      clear hu1
      go_wp2_with (at_builtin; go_must (refine wpList_app_of rfl _ _ rfl (.slice sa bs.length sk) (.slice ap p.length cp) rfl rfl (HRUN.out _) ?_; rintro v2 w2 ⟨ho2, hu2, hk2⟩; have HO2 := Lib.hid ho2; have HU2 := Lib.hid hu2; have HK2 := Lib.hid hk2; have hb2 := HBF.out.upd hu2 HNB.out; have d1 := hb2.cell 1; have f1 := hb2.frozen 1; have HB2 := Lib.hid hb2; obtain ⟨a2, c2, rfl, -⟩ := ho2.rd; clear ho2 hu2 hk2 hb2))
      have hu3 : Upd (blk (.slice sa bs.length sk)) w (w2.setCell ⟨w1.heap.size, 1, none⟩ (.slice a2 (bs ++ p).length c2)) := (HUa.out.trans (T := blk (.slice sa bs.length sk)) HU2.out (by simp) (fun x hx => .inl hx)).setCell _ _ (.inr hs1)
      have hnv : w1.heap.size ∉ blk (.slice a2 (bs ++ p).length c2) := fun hx => by
        rcases HK2.out _ hx with q | q
        · exact HNB.out q
        · simp at q; omega
      have ho3 : Own bv w0.heap.size 5 (w2.setCell ⟨w1.heap.size, 1, none⟩ (.slice a2 (bs ++ p).length c2)) (.slice a2 (bs ++ p).length c2) (bs ++ p) := HO2.out.upd ((Upd.refl [w1.heap.size] w2).setCell _ _ (.inl (by simp))) (fun x hx h => hnv (by simp at h; rw [← h]; exact hx))
      have hb3 : Blk (w2.setCell ⟨w1.heap.size, 1, none⟩ (.slice a2 (bs ++ p).length c2)) w1.heap.size 91 [sv nm, .slice a2 (bs ++ p).length c2] := HB2.out.set_ 1 _
      have hap3 : ∀ y ∈ blk (.slice a2 (bs ++ p).length c2), y ∈ blk (.slice sa bs.length sk) ∨ w.heap.size ≤ y := fun y hy => (HK2.out y hy).imp id (fun q => by have := HUa.out.size; omega)
      have hlen2 : (bs ++ p).length = bs.length + p.length := List.length_append
      rw [hlen2] at hu3 ho3 hb3 hap3
      clear d1 f1 HB2 HO2 HU2 HK2 HRUN HUa HBF hnv hlen2
      generalize w2.setCell ⟨w1.heap.size, 1, none⟩ (.slice a2 (bs.length + p.length) c2) = w3 at *
      have e0 := hb3.cell 0
      have e1 := hb3.cell 1
      simp only [List.getElem?_cons_zero, List.getElem?_cons_succ] at e0 e1
      have y0 := hu3.cell HC.out.p0 (gy_own HC.out.yard HO.out)
      have HU3 := Lib.hid hu3
      have HO3 := Lib.hid ho3
      have HAP3 := Lib.hid hap3
      clear hu3 ho3 hb3 hap3
      go_still_tail 6, (by kernel_rfl)
      change wpList _ _ _ _ _ w3.drew
      go_wp2_with fail
      (with_reducible refine (HC.out.setG hlen1 _ HMEM.out HU3.out.drew x HX.out rfl nm ⟨a2, bs.length + p.length, c2⟩ (bs ++ p) (HO3.out.upd (Upd.refl [] _).drew (by simp)) HAP3.out).mono ?_)
      rintro e w4 ⟨⟨r, rfl⟩, F', hc4, hu4, hf4⟩
      have HC4 := Lib.hid hc4
      have HU4 := Lib.hid hu4
      have HF4 := Lib.hid hf4
      clear hc4 hu4 hf4
      go_wp2_with fail
      go_ret
      refine ⟨by rw [HY.out]; rfl, ?_⟩
      rw [HY.out]
      have hsz := HU3.out.size
      refine YOut.of HC4.out (mapY_set (fun v : (ByteArray × Sl) × List UInt8 => (v.1.1, v.2)) cs x ((nm, ⟨a2, bs.length + p.length, c2⟩), bs ++ p)).symm ?_ ?_ (HU3.out.drew.trans HU4.out (fun y hy => foot_c HMEM.out hy) (fun y hy => .inl (foot_F hy))) (fun y hy => (HF4.out y hy).imp foot_F (fun q => by simp at q; omega)) (fun y hy => .inl (foot_T hy)) ?_
      · have hin2 : isIn ltY cs x = true := by
          obtain ⟨i, hi, he⟩ := List.mem_iff_getElem.1 HMEM.out
          have := isIn_at intOrd HC.out.ris i hi
          rwa [nth_get cs i hi, he] at this
        rw [tSet_in cs x _ hin2, List.length_set]; exact hlen
      · intro c hcm
        rcases tSet_mem cs _ _ c hcm with rfl | q
        · exact ⟨hx1, hx2, by simp; omega⟩
        · exact HIN.out c q
      · intro c hcm y hy
        rcases tSet_mem cs _ _ c hcm with rfl | q
        · exact (HAP3.out y hy).imp (fun q => foot_c HMEM.out q) id
        · exact .inl (foot_c q hy)
end
end Go.Proofs.Ytmhdhnipljonlaa
namespace Go.Proofs.Ytmhdhnipljonlaa
open Go.RowKit
set_option linter.unusedSimpArgs false
set_option linter.unusedVariables false
theorem run_cut {P : Program} {t e : TypeId} {size : Nat} (ht : P.underlying t = some (.slice e)) (hi : (P.info? e).map (·.size) = some size) (a : Option Addr) (n cap k : Nat) (hk : k ≤ n) (W : World) :
    (Instr.slice t (.slice a n cap) (some (.int .i64 (k : Int))) none none).run P W = .ok (.slice (if cap = k then a else a.map (·.add (k * size))) (n - k) (cap - k)) W := by
  have he : P.elem t = e := by simp [Program.elem, ht]
  obtain ⟨i, h1, h2⟩ : ∃ i, P.info? e = some i ∧ i.size = size := by
    cases hq : P.info? e with
    | none => simp [hq] at hi
    | some i => exact ⟨i, rfl, by simpa [hq] using hi⟩
  rw [run_slice_l (P := P) (w := W) t a n cap (by rw [he]; exact ht) .i64 (k : Int) (by omega) (by omega), he]
  simp [sizeOf, typeInfo, h1, h2, sliced]
theorem run_cut_h {P : Program} {t e : TypeId} {size : Nat} (ht : P.underlying t = some (.slice e)) (hi : (P.info? e).map (·.size) = some size) (a : Option Addr) (n cap k : Nat) (hk : k ≤ cap) (W : World) :
    (Instr.slice t (.slice a n cap) none (some (.int .i64 (k : Int))) none).run P W = .ok (.slice a k cap) W := by
  have he : P.elem t = e := by simp [Program.elem, ht]
  obtain ⟨i, h1, h2⟩ : ∃ i, P.info? e = some i ∧ i.size = size := by
    cases hq : P.info? e with
    | none => simp [hq] at hi
    | some i => exact ⟨i, rfl, by simpa [hq] using hi⟩
  rw [run_slice_h (P := P) (w := W) t a n cap (by rw [he]; exact ht) .i64 (k : Int) (by omega) (by omega), he]
  simp [sizeOf, typeInfo, h1, h2, sliced]
  intro _
  cases a with
  | none => rfl
  | some x => obtain ⟨b, off, arr⟩ := x; simp only [Option.map_some, Addr.add]; cases arr <;> simp
theorem run_cut_lh {P : Program} {t e : TypeId} {size : Nat} (ht : P.underlying t = some (.slice e)) (hi : (P.info? e).map (·.size) = some size) (a : Option Addr) (n cap k m : Nat) (hk : k ≤ m) (hm : m ≤ cap) (W : World) (K M : Int) (hK : K = (k : Int)) (hM : M = (m : Int)) :
    (Instr.slice t (.slice a n cap) (some (.int .i64 K)) (some (.int .i64 M)) none).run P W = .ok (.slice (if cap = k then a else a.map (·.add (k * size))) (m - k) (cap - k)) W := by
  subst hK; subst hM
  have he : P.elem t = e := by simp [Program.elem, ht]
  obtain ⟨i, h1, h2⟩ : ∃ i, P.info? e = some i ∧ i.size = size := by
    cases hq : P.info? e with
    | none => simp [hq] at hi
    | some i => exact ⟨i, rfl, by simpa [hq] using hi⟩
  rw [run_slice_lh (P := P) (w := W) t a n cap (by rw [he]; exact ht) .i64 .i64 (k : Int) (m : Int) (by omega) (by omega) (by omega), he]
  simp [sizeOf, typeInfo, h1, h2, sliced]
theorem run_cut_hm {P : Program} {t e : TypeId} {size : Nat} (ht : P.underlying t = some (.slice e)) (hi : (P.info? e).map (·.size) = some size) (a : Option Addr) (n cap m : Nat) (hm : m ≤ cap) (W : World) :
    (Instr.slice t (.slice a n cap) none (some (.int .i64 (m : Int))) (some (.int .i64 (m : Int)))).run P W = .ok (.slice a m m) W := by
  have he : P.elem t = e := by simp [Program.elem, ht]
  obtain ⟨i, h1, h2⟩ : ∃ i, P.info? e = some i ∧ i.size = size := by
    cases hq : P.info? e with
    | none => simp [hq] at hi
    | some i => exact ⟨i, rfl, by simpa [hq] using hi⟩
  rw [run_slice_hm (P := P) (w := W) t a n cap (by rw [he]; exact ht) .i64 .i64 (m : Int) (m : Int) (by omega) (by omega) (by omega), he]
  simp [sizeOf, typeInfo, h1, h2, sliced]
  intro _
  cases a with
  | none => rfl
  | some x => obtain ⟨b, off, arr⟩ := x; simp only [Option.map_some, Addr.add]; cases arr <;> simp
end Go.Proofs.Ytmhdhnipljonlaa
namespace Go.Proofs.Ytmhdhnipljonlaa
open Go.RowKit
set_option linter.unusedSimpArgs false
set_option linter.unusedVariables false
theorem isIn_mem {ν : Type} [Inhabited ν] {l : List (Int × ν)} (h : Rising ltY l) (p : Int × ν) (hp : p ∈ l) : isIn ltY l p.1 = true := by
  obtain ⟨i, hi, he⟩ := List.mem_iff_getElem.1 hp
  have := isIn_at intOrd h i hi
  rwa [nth_get l i hi, he] at this
theorem Own.cut {α : Type} {c : α → Value} {base : Nat} {e : TypeId} {w : World} {a : Option Addr} {n cap : Nat} {l : List α} (h : Own c base e w (.slice a n cap) l) (k : Nat) (hk : k ≤ l.length) : Own c base e w (.slice a k cap) (l.take k) := by
  obtain ⟨h1, h2⟩ := h
  refine ⟨by simp, ?_⟩
  have hl : (l.take k).length = k := by rw [List.length_take]; omega
  rcases h2 with ⟨he, hn⟩ | ⟨g, cap', cur, he, hb, hg, hc, hm, hs, ht⟩
  · injection he with e1 e2 e3
    subst e1; subst e3
    have : k = 0 := by omega
    subst this
    exact .inl ⟨rfl, hl⟩
  · injection he with e1 e2 e3
    subst e1; subst e3
    refine .inr ⟨g, _, cur, by rw [hl], hb, hg, by omega, hm, hs, ?_⟩
    rw [hl, List.map_take, ← ht, List.take_take]
    congr 1; omega
section
variable {w0 w : World} {gy : Nat} {G : List Nat} {fl : FL} {tk : List (Int × Int)}
set_option maxRecDepth 20000 in
set_option maxHeartbeats 1000000 in
theorem yRemove_any (s : ByteArray) (h : YD w0 w gy G fl tk) :
    Calls Try.prog 46 #[.pointer (some ⟨gy, 0, none⟩), sv s] w (YDoes w0 w gy G tk (yRemove fl s)) := by
  obtain ⟨gf, gt, F, T, cs, hc, rfl, hlen, hin, rfl⟩ := h.ex
  have HC := Lib.hid hc
  have hlen1 : cs.length ≤ 1000 := by omega
  have HIN := Lib.hid hin
  have HD := Lib.hid h
  cases hh : hasN (filesOf cs) s with
  | false =>
    have HY : Hid (yRemove (filesOf cs) s = (7, filesOf cs)) := by unfold Hid yRemove; rw [hh]; rfl
    have HF := Lib.hid (yFind_no s HC.out hlen1 hh)
    clear hc h hin hh
    go_enter Try.func46, Try.ntmps46
    go_wp2_with fail
    (with_reducible refine HF.out.mono ?_)
    rintro e w1 ⟨rfl, hu1⟩
    have HU1 := Lib.hid (hu1.alloc (.cells #[.string ⟨#[]⟩, .slice none 0 0] 91))
    clear hu1
    go_wp2_with fail
    go_ret
    exact ⟨by rw [HY.out]; rfl, by rw [HY.out]; exact HD.out.out0 HU1.out⟩
  | true =>
    have HF := Lib.hid (yFind_yes s _ HC.out hlen1 hh rfl)
    have hlt : findN (filesOf cs) s < cs.length := by unfold hasN at hh; have := of_decide_eq_true hh; rwa [files_len] at this
    have hat := findN_at (filesOf cs) s (by rw [files_len]; exact hlt)
    rw [nth_files cs _ hlt] at hat
    have hmem : nth cs (findN (filesOf cs) s) ∈ cs := nth_mem _ hlt
    have hino : inoN (filesOf cs) s = (nth cs (findN (filesOf cs) s)).1 := by unfold inoN; rw [nth_files cs _ hlt]
    have hby : bytesN (filesOf cs) s = (nth cs (findN (filesOf cs) s)).2.2 := by unfold bytesN; rw [nth_files cs _ hlt]
    generalize nth cs (findN (filesOf cs) s) = c0 at *
    obtain ⟨x, ⟨nm, sl⟩, bs⟩ := c0
    have hat : nm = s := hat
    subst hat
    have hino : inoN (filesOf cs) nm = x := hino
    have hby : bytesN (filesOf cs) nm = bs := hby
    have hx := hin _ hmem
    have hx1 : (1 : Int) ≤ x := hx.1
    have hx2 : x ≤ 12 := hx.2.1
    have hbl : bs.length ≤ 65536 := hx.2.2
    have HX : Hid (I64 x) := ⟨by omega, by omega⟩
    have hx0 : (x == 0) = false := by rw [beq_eq_false_iff_ne]; omega
    have HMEM := Lib.hid hmem
    have ho := hc.own _ hmem
    have HO : Hid (Own bv w0.heap.size 5 w (slv sl) bs) := ho
    have hsn : sl.n = bs.length := by
      rcases ho.2 with ⟨he, h0⟩ | ⟨g', cap', cur, he, -⟩
      · injection he with e1 e2 e3; rw [e2]; exact h0.symm
      · injection he with e1 e2 e3
    obtain ⟨sa, sn, sk⟩ := sl
    have hsn : sn = bs.length := hsn
    subst hsn
    have HY : Hid (yRemove (filesOf cs) nm = (0, tDel ltY (filesOf cs) x)) := by unfold Hid yRemove; rw [hh, hino]; simp
    clear hc h hin hh hlt hmem ho hx
    go_enter Try.func46, Try.ntmps46
    go_wp2_with fail
    (with_reducible refine HF.out.mono ?_)
    rintro e w1 ⟨rfl, hu1⟩
    have HU1 := Lib.hid (hu1.alloc (.cells #[sv nm, .slice sa bs.length sk] 91))
    have y0 := (HC.out.upd0 HU1.out).p0
    clear hu1
    go_wp2_with fail
    (with_reducible refine ((HC.out.upd0 HU1.out).del hlen1 x HX.out).mono ?_)
    rintro e w4 ⟨⟨r, rfl⟩, F', hc4, hu4, hf4⟩
    have HC4 := Lib.hid hc4
    have HU4 := Lib.hid hu4
    have HF4 := Lib.hid hf4
    clear hc4 hu4 hf4
    go_wp2_with fail
    go_ret
    refine ⟨by rw [HY.out]; rfl, ?_⟩
    rw [HY.out]
    have hsz := HU1.out.size
    refine YOut.of HC4.out (mapY_del (fun v : (ByteArray × Sl) × List UInt8 => (v.1.1, v.2)) cs x).symm ?_ ?_ (HU1.out.trans HU4.out (by simp) (fun y hy => .inl (foot_F hy))) (fun y hy => (HF4.out y hy).imp foot_F (fun q => by omega)) (fun y hy => .inl (foot_T hy)) ?_
    · have := tDel_len (lt := ltY) cs x; omega
    · intro c hcm; exact HIN.out c (tDel_mem cs x c hcm)
    · intro c hcm y hy; exact .inl (foot_c (tDel_mem cs x c hcm) hy)
set_option maxRecDepth 20000 in
set_option maxHeartbeats 1000000 in
theorem yCut_any (s : ByteArray) (n : Int) (hn : I64 n) (h : YD w0 w gy G fl tk) :
    Calls Try.prog 23 #[.pointer (some ⟨gy, 0, none⟩), sv s, .int .i64 n] w (YDoes w0 w gy G tk (yCut fl s n)) := by
  obtain ⟨gf, gt, F, T, cs, hc, rfl, hlen, hin, rfl⟩ := h.ex
  have HC := Lib.hid hc
  have hlen1 : cs.length ≤ 1000 := by omega
  have HIN := Lib.hid hin
  have HD := Lib.hid h
  cases hh : hasN (filesOf cs) s with
  | false =>
    have HY : Hid (yCut (filesOf cs) s n = (7, filesOf cs)) := by unfold Hid yCut; rw [hh]; rfl
    have HF := Lib.hid (yFind_no s HC.out hlen1 hh)
    clear hc h hin hh
    go_enter Try.func23, Try.ntmps23
    go_wp2_with fail
    (with_reducible refine HF.out.mono ?_)
    rintro e w1 ⟨rfl, hu1⟩
    have HU1 := Lib.hid (hu1.alloc (.cells #[.string ⟨#[]⟩, .slice none 0 0] 91))
    clear hu1
    go_wp2_with fail
    go_ret
    exact ⟨by rw [HY.out]; rfl, by rw [HY.out]; exact HD.out.out0 HU1.out⟩
  | true =>
    have HF := Lib.hid (yFind_yes s _ HC.out hlen1 hh rfl)
    have hlt : findN (filesOf cs) s < cs.length := by unfold hasN at hh; have := of_decide_eq_true hh; rwa [files_len] at this
    have hat := findN_at (filesOf cs) s (by rw [files_len]; exact hlt)
    rw [nth_files cs _ hlt] at hat
    have hmem : nth cs (findN (filesOf cs) s) ∈ cs := nth_mem _ hlt
    have hino : inoN (filesOf cs) s = (nth cs (findN (filesOf cs) s)).1 := by unfold inoN; rw [nth_files cs _ hlt]
    have hby : bytesN (filesOf cs) s = (nth cs (findN (filesOf cs) s)).2.2 := by unfold bytesN; rw [nth_files cs _ hlt]
    generalize nth cs (findN (filesOf cs) s) = c0 at *
    obtain ⟨x, ⟨nm, sl⟩, bs⟩ := c0
    have hat : nm = s := hat
    subst hat
    have hino : inoN (filesOf cs) nm = x := hino
    have hby : bytesN (filesOf cs) nm = bs := hby
    have hx := hin _ hmem
    have hx1 : (1 : Int) ≤ x := hx.1
    have hx2 : x ≤ 12 := hx.2.1
    have hbl : bs.length ≤ 65536 := hx.2.2
    have HX : Hid (I64 x) := ⟨by omega, by omega⟩
    have hx0 : (x == 0) = false := by rw [beq_eq_false_iff_ne]; omega
    have HMEM := Lib.hid hmem
    have ho := hc.own _ hmem
    have HO : Hid (Own bv w0.heap.size 5 w (slv sl) bs) := ho
    have hsn : sl.n = bs.length := by
      rcases ho.2 with ⟨he, h0⟩ | ⟨g', cap', cur, he, -⟩
      · injection he with e1 e2 e3; rw [e2]; exact h0.symm
      · injection he with e1 e2 e3
    obtain ⟨sa, sn, sk⟩ := sl
    have hsn : sn = bs.length := hsn
    subst hsn
    by_cases hbad : n < 0 ∨ (bs.length : Int) < n
    · have HY : Hid (yCut (filesOf cs) nm n = (1, filesOf cs)) := by unfold Hid yCut; rw [hh, hby, if_pos rfl, if_pos hbad]
      have hd : n < 0 ∨ (¬ n < 0 ∧ (bs.length : Int) < n) := by omega
      clear hc h hin hh hlt hmem ho hx hbad
      rcases hd with hd | ⟨hd, hd2⟩
      all_goals
        go_enter Try.func23, Try.ntmps23
        go_wp2_with fail
        (with_reducible refine HF.out.mono ?_)
        rintro e w1 ⟨rfl, hu1⟩
        have HU1 := Lib.hid (hu1.alloc (.cells #[sv nm, .slice sa bs.length sk] 91))
        clear hu1
        go_wp2_with fail
        go_ret
        exact ⟨by rw [HY.out]; rfl, by rw [HY.out]; exact HD.out.out0 HU1.out⟩
    · obtain ⟨k, rfl⟩ := Int.eq_ofNat_of_zero_le (show 0 ≤ n by omega)
      have HY : Hid (yCut (filesOf cs) nm (k : Int) = (0, tSet ltY (filesOf cs) x (nm, bs.take k))) := by unfold Hid yCut; rw [hh, hby, hino, if_pos rfl, if_neg hbad]; rfl
      have hkl : k ≤ bs.length := by omega
      have q1 : ¬ (k : Int) < 0 := by omega
      have q2 : ¬ (bs.length : Int) < k := by omega
      have hsk : bs.length ≤ sk := by
        obtain ⟨a', c', he, h1, -⟩ := HO.out.rd
        injection he with e1 e2 e3
        have e3 : sk = c' := e3
        omega
      have hkk : k ≤ sk := by omega
      have HOC : Hid (Own bv w0.heap.size 5 w (slv ⟨sa, k, sk⟩) (bs.take k)) := HO.out.cut k hkl
      have hcut := fun W => run_cut_h (P := Try.prog) (size := 1) Try.underlying27 (by kernel_rfl) sa bs.length sk k hkk W
      clear hc h hin hh hlt hmem ho hx hbad
      go_enter Try.func23, Try.ntmps23
      go_wp2_with fail
      (with_reducible refine HF.out.mono ?_)
      rintro e w1 ⟨rfl, hu1⟩
      have hu3 := hu1.alloc (.cells #[sv nm, .slice sa k sk] 91)
      have hb3 := Blk.new w1 91 [sv nm, .slice sa k sk]
      change Blk (w1.alloc (.cells #[sv nm, .slice sa k sk] 91)) _ _ _ at hb3
      clear hu1
      go_wp2_with fail
      generalize w1.alloc (.cells #[sv nm, .slice sa k sk] 91) = w3 at *
      have e0 := hb3.cell 0
      have e1 := hb3.cell 1
      simp only [List.getElem?_cons_zero, List.getElem?_cons_succ] at e0 e1
      have y0 := (HC.out.upd0 hu3).p0
      have HU3 := Lib.hid hu3
      clear hu3 hb3
      go_still_tail 6, (by kernel_rfl)
      change wpList _ _ _ _ _ w3.drew
      have HAPD : Hid (∀ d ∈ cs, d.1 ≠ x → Ap (blk (slv ⟨sa, k, sk⟩)) (blk (slv d.2.1.2))) := fun d hd hne => by
        have := HC.out.ap _ HMEM.out d hd (fun e => hne e.symm)
        rwa [show blk (slv (x, (nm, (⟨sa, bs.length, sk⟩ : Sl)), bs).2.1.2) = blk (slv ⟨sa, k, sk⟩) from blk_slice _ _ _ _ _] at this
      go_wp2_with fail
      (with_reducible refine ((HC.out.upd0 HU3.out.drew).set hlen1 x HX.out nm ⟨sa, k, sk⟩ (bs.take k) (HOC.out.upd HU3.out.drew (by simp)) HAPD.out).mono ?_)
      rintro e w4 ⟨⟨r, rfl⟩, F', hc4, hu4, hf4⟩
      have HC4 := Lib.hid hc4
      have HU4 := Lib.hid hu4
      have HF4 := Lib.hid hf4
      clear hc4 hu4 hf4
      go_wp2_with fail
      go_ret
      refine ⟨by rw [HY.out]; rfl, ?_⟩
      rw [HY.out]
      have hsz := HU3.out.size
      refine YOut.of HC4.out (mapY_set (fun v : (ByteArray × Sl) × List UInt8 => (v.1.1, v.2)) cs x ((nm, ⟨sa, k, sk⟩), bs.take k)).symm ?_ ?_ (HU3.out.drew.trans HU4.out (by simp) (fun y hy => .inl (foot_F hy))) (fun y hy => (HF4.out y hy).imp foot_F (fun q => by simp at q; omega)) (fun y hy => .inl (foot_T hy)) ?_
      · rw [tSet_in cs x _ (isIn_mem HC.out.ris _ HMEM.out), List.length_set]; exact hlen
      · intro c hcm
        rcases tSet_mem cs _ _ c hcm with rfl | q
        · exact ⟨hx1, hx2, by simp; omega⟩
        · exact HIN.out c q
      · intro c hcm y hy
        rcases tSet_mem cs _ _ c hcm with rfl | q
        · exact .inl (foot_c HMEM.out (by rw [show blk (slv (x, (nm, (⟨sa, k, sk⟩ : Sl)), bs.take k).2.1.2) = blk (slv ⟨sa, bs.length, sk⟩) from blk_slice _ _ _ _ _] at hy; exact hy))
        · exact .inl (foot_c q hy)
end
end Go.Proofs.Ytmhdhnipljonlaa
