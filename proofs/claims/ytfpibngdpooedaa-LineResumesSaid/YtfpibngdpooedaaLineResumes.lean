/- The walk of LineResumes. -/
import Derived.Test.YtfpibngdpooedaaLineKinds
namespace Go.Proofs.Ytfpibngdpooedaa
open Go.RowKit
set_option linter.unusedSimpArgs false
set_option linter.unusedVariables false

theorem lineStep_long (n : Nat) (long : Bool) (c : UInt8) (h : long = true → n = 0) : (lineStep n long c).2.2 = true → (lineStep n long c).2.1 = 0 := by
  unfold lineStep
  split
  · simp
  · split
    · rename_i h1; intro _; exact h h1
    · split <;> simp
theorem lineSt_long (b : List UInt8) (k : Nat) : (lineSt b k).2 = true → (lineSt b k).1 = 0 := by
  induction k with
  | zero => simp [lineSt]
  | succ k ih => exact lineStep_long _ _ _ ih
set_option maxRecDepth 20000 in
set_option maxHeartbeats 4000000 in
theorem lineResumes_any (w : World) (v : Value) (l : List (UInt8 × Int)) (hl : ∀ r ∈ l, I64 r.2) (h : RdN 2 runCells w v l) (at_ : Int) (hat : I64 at_) (nn : Int) (hnn : I64 nn) (lg : Bool) :
    Calls Try.prog 9 #[v, iv at_, iv nn, .bool lg] w fun e w' => e = .returned (.bool true) ∧ Upd [] w w' := by
  have hlen : ∃ a cap, v = .slice a l.length cap := by obtain ⟨a, cap, h, _⟩ := h; exact ⟨a, cap, h⟩
  obtain ⟨a, cap, rfl⟩ := hlen
  have H := Lib.hid h
  have hbl := Lib.hid (bytesOf_le 900 l)
  clear h
  go_enter Try.func9, Try.ntmps9
  go_wp2_with fail
  refine (lineBytes_any _ _ l 900 (by omega) hl H.out).mono ?_
  rintro e w1 ⟨u, rfl, ho, hu⟩
  generalize bytesOf 900 l = bL at ho hbl
  have HR := Lib.hid ho.rd
  have hblk := Lib.hid (fun x hx => (ho.ge x hx).2)
  have HU1 := Lib.hid hu
  obtain ⟨ao, co, rfl, hco, hcm, hbc⟩ := ho.rd
  have hb2 := hbl.out
  have hle1 := hu.size
  obtain ⟨hi1, hi2⟩ := within_in at_ 0 (bL.length : Int) (by omega)
  have HI := Lib.hid (Int.toNat_of_nonneg hi1)
  have hi3 : (within at_ 0 (bL.length : Int)).toNat ≤ bL.length := by omega
  generalize (within at_ 0 (bL.length : Int)).toNat = bt at HI hi3
  clear ho hu hi1 hi2
  go_wp2_with fail
  refine (lineNew_any _).mono ?_
  rintro e w2 ⟨rfl, hs, hu⟩
  have HU2 := Lib.hid (HU1.out.seq hu)
  have HR2 := Lib.hid (HR.out.upd0 hu)
  have hle2 := hs.lt
  go_wp2_with fail
  refine (lineNew_any _).mono ?_
  rintro e w3 ⟨rfl, ht, hu3⟩
  have HU3 := Lib.hid (HU2.out.seq hu3)
  have HR3 := Lib.hid (HR2.out.upd0 hu3)
  have HS3 := Lib.hid (Blk.upd hs hu3 (by simp))
  have HT3 := Lib.hid ht
  clear hs ht hu hu3 HR hbc HR2 HU2
  go_wp2_with fail
  refine (within_any _ _ _ _ hat (by omega) (by omega) (by omega)).mono ?_
  rintro e w' ⟨rfl, rfl⟩
  rw [← HI.out]
  go_wp2_with fail
  go_loopw [10, 13] (fun p i wr => ∃ k g : Nat, k ≤ bL.length ∧ i = .int .i64 k ∧ p = .pointer (some ⟨g, 0, none⟩) ∧ w1.heap.size ≤ g ∧ g ≠ w2.heap.size ∧ Hid (SplBlk wr g (lineSt bL k).1 (lineSt bL k).2) ∧ Hid (SplBlk wr w2.heap.size (lineSt bL k).1 (lineSt bL k).2) ∧ Hid (Bytes wr (.slice ao bL.length co) bL) ∧ Hid (Upd [] w wr)) (fun _ i _ => bL.length - (intOf i).toNat)
  case atStart => exact ⟨0, w1.heap.size, Nat.zero_le _, rfl, rfl, Nat.le_refl _, by omega, HS3, HT3, HR3, HU3⟩
  case round =>
    obtain ⟨k, g, hk, rfl, rfl, hg1, hg2, hs, ht, hr, hu⟩ := hrel
    clear HS3 HT3 HR3 HU3
    by_cases hltk : k < bL.length
    · obtain ⟨b, off, rfl, hcell⟩ := hr.out.at_ k hltk
      have HST : Hid (lineSt bL (k + 1) = (lineStep (lineSt bL k).1 (lineSt bL k).2 (nth bL k)).2) := rfl
      have hn200 := Lib.hid (lineSt_le bL k)
      have hlong := Lib.hid (lineSt_long bL k)
      generalize hch : nth bL k = ch at *
      have HCH := Lib.hid hch
      clear hch
      generalize lineSt bL k = st at *
      obtain ⟨n, long⟩ := st
      simp only at hs ht HST hn200 hlong
      generalize hls : lineStep n long ch = ls at HST
      obtain ⟨kd, n2, long2⟩ := ls
      simp only at HST
      have HLS := Lib.hid hls
      clear hls
      have hbb : b < w1.heap.size := hblk.out b (by simp [blk])
      have q1 : (k : Int) < bL.length := by omega
      have q0 : (0 : Int) ≤ k := by omega
      have hkb : bL.length ≤ 1500 := by omega
      go_upto_if 40 with fail
      go_cut [10] (fun s10 wx => ∃ g : Nat, s10 = .pointer (some ⟨g, 0, none⟩) ∧ w1.heap.size ≤ g ∧ g ≠ w2.heap.size ∧ Hid (SplBlk wx g n long) ∧ Hid (SplBlk wx w2.heap.size n long) ∧ Hid (Bytes wx (.slice (some ⟨b, off, none⟩) bL.length co) bL) ∧ Hid (Upd [] w wx))
      case first =>
        by_cases hkb2 : k = bt
        · have t1 : ((k : Int) == bt) = true := by rw [beq_iff_eq]; omega
          clear hkb2
          go_wp2_with fail
          refine (lineLen_any _ _ n long hs.out).mono ?_
          rintro e w' ⟨rfl, rfl⟩
          go_wp2_with fail
          refine (lineLong_any _ _ n long hs.out).mono ?_
          rintro e w' ⟨rfl, rfl⟩
          go_wp2_with fail
          refine (lineOf_ok _ n long hn200.out hlong.out).mono ?_
          rintro e w4 ⟨rfl, hs4, hu4⟩
          have hlw := ht.out.lt
          have hlw1 := hu.out.size
          have HS4 := Lib.hid hs4
          have HU4 := Lib.hid hu4
          clear hs4 hu4
          go_wp2_with fail
          go_meet
          exact ⟨_, rfl, by omega, by omega, HS4, Blk.upd ht.out HU4.out (by simp), hr.out.upd0 HU4.out, hu.out.seq HU4.out⟩
        · have t1 : ((k : Int) == bt) = false := by rw [beq_eq_false_iff_ne]; omega
          clear hkb2
          go_wp2_with fail
          go_meet
          exact ⟨_, rfl, hg1, hg2, hs, ht, hr, hu⟩
      case rest =>
        obtain ⟨g, rfl, hg1, hg2, hs', ht', hr', hu'⟩ := hcut
        clear hs ht hr hu hcell
        have e2 : wc.cell? ⟨b, off + k, none⟩ = some (bv ch) := by
          obtain ⟨b', off', hb', hc'⟩ := hr'.out.at_ k hltk
          injection hb' with hb'; injection hb' with hb1 hb2; subst hb1; subst hb2
          rw [hc', HCH.out]
        go_wp2_with fail
        go_region_held3 (fun w' => w'.cell? ⟨b, off + k, none⟩ = some (bv ch)) (first | go_keep | exact g3 | exact g2)
          (first
            | (go_at_call_of 31 (Value.pointer (some ⟨g, 0, none⟩)); refine (lineByte_eq _ g n long ch (kd : Int) n2 long2 (show SplBlk wc.drew g n long from hs'.out) hn200.out ⟨by rw [HLS.out], by rw [HLS.out], by rw [HLS.out]⟩).mono ?_; rintro e w10 ⟨rfl, hs10, hu10⟩; have g2 := hu10.cell (p := ⟨b, off + k, none⟩) (v := bv ch) (by go_simp) (by simp; omega); have HS10 := Lib.hid hs10; have HU10 := Lib.hid (show Upd [g] wc w10 from ((Upd.refl [] wc).drew).trans (T := [g]) hu10 (by simp) (by simp)); clear hs10 hu10; dsimp only)
            | (go_at_call_of 31 (Value.pointer (some ⟨w2.heap.size, 0, none⟩)); refine (lineByte_eq _ w2.heap.size n long ch (kd : Int) n2 long2 (Blk.upd ht'.out HU10.out (by simp; omega)) hn200.out ⟨by rw [HLS.out], by rw [HLS.out], by rw [HLS.out]⟩).mono ?_; rintro e w11 ⟨rfl, ht11, hu11⟩; have g3 := hu11.cell (p := ⟨b, off + k, none⟩) (v := bv ch) g2 (by simp; omega); have HT11 := Lib.hid ht11; have HS11 := Lib.hid (Blk.upd HS10.out hu11 (by simp; omega)); have HU11 := Lib.hid hu11; clear ht11 hu11; dsimp only)
            | (go_at_call_of 32 (Value.pointer (some ⟨g, 0, none⟩)); refine (lineLen_any _ _ n2 long2 HS11.out).mono ?_; rintro e w' ⟨rfl, rfl⟩; dsimp only)
            | (go_at_call_of 32 (Value.pointer (some ⟨w2.heap.size, 0, none⟩)); refine (lineLen_any _ _ n2 long2 HT11.out).mono ?_; rintro e w' ⟨rfl, rfl⟩; dsimp only)
            | (go_at_call_of 33 (Value.pointer (some ⟨g, 0, none⟩)); refine (lineLong_any _ _ n2 long2 HS11.out).mono ?_; rintro e w' ⟨rfl, rfl⟩; dsimp only)
            | (go_at_call_of 33 (Value.pointer (some ⟨w2.heap.size, 0, none⟩)); refine (lineLong_any _ _ n2 long2 HT11.out).mono ?_; rintro e w' ⟨rfl, rfl⟩; dsimp only))
        go_wp2_with fail
        go_roundw
        case rel => exact ⟨k + 1, g, by omega, by go_num, rfl, hg1, hg2, by rw [HST.out]; exact HS11, by rw [HST.out]; exact HT11, (hr'.out.upd HU10.out (by simp [blk]; omega)).upd HU11.out (by simp [blk]; omega), (hu'.out.trans HU10.out (T := []) (by simp) (by simp; omega)).trans HU11.out (by simp) (by simp; omega)⟩
        case measure => simp [intOf]; omega
    · obtain rfl : k = bL.length := by omega
      have HUr := Lib.hid hu.out
      clear hs ht hr hu hltk hk hg1 hg2 hblk HI hi3 hb2 hbl
      by_cases hno : nn < 0 ∨ 200 < nn ∨ (lg = true ∧ nn ≠ 0)
      · have HNO := Lib.hid hno
        clear hno
        go_wp2_with fail
        refine (lineOf_no _ nn lg HNO.out).mono ?_
        rintro e w' ⟨rfl, rfl⟩
        by_cases p1 : nn < 0
        · go_wp2_with fail
          refine (lineRuns_any _).mono ?_
          rintro e w' ⟨rfl, hu⟩
          have HU9 := Lib.hid hu
          clear hu
          go_wp2_with fail
          go_ret; exact ⟨rfl, HUr.out.seq HU9.out⟩
        · by_cases p2 : 200 < nn
          · have p1' : 0 ≤ nn := by omega
            clear p1
            go_wp2_with fail
            refine (lineRuns_any _).mono ?_
            rintro e w' ⟨rfl, hu⟩
            have HU9 := Lib.hid hu
            clear hu
            go_wp2_with fail
            go_ret; exact ⟨rfl, HUr.out.seq HU9.out⟩
          · have p3 : lg = true ∧ nn ≠ 0 := by
              rcases HNO.out with h | h | h
              · exact absurd h p1
              · exact absurd h p2
              · exact h
            obtain ⟨rfl, p3⟩ := p3
            have p1' : 0 ≤ nn := by omega
            have p2' : nn ≤ 200 := by omega
            have p4 : (nn != 0) = true := by simpa using p3
            have p5 : (nn == 0) = false := by simpa using p3
            clear p1 p2 p3 HNO
            go_wp2_with fail
            refine (lineRuns_any _).mono ?_
            rintro e w' ⟨rfl, hu⟩
            have HU9 := Lib.hid hu
            clear hu
            go_wp2_with fail
            go_ret; exact ⟨rfl, HUr.out.seq HU9.out⟩
      · obtain ⟨m, rfl⟩ : ∃ m : Nat, nn = m := ⟨nn.toNat, by omega⟩
        have hm : m ≤ 200 := by omega
        have hlm : lg = true → m = 0 := by
          intro h; by_cases h0 : m = 0
          · exact h0
          · exact absurd (Or.inr (Or.inr ⟨h, by omega⟩)) hno
        have HLM := Lib.hid hlm
        have hm1 : (0 : Int) ≤ m := by omega
        have hm2 : (m : Int) ≤ 200 := by omega
        clear hno hlm
        go_wp2_with fail
        refine (lineOf_ok _ m lg hm HLM.out).mono ?_
        rintro e w4 ⟨rfl, hs4, hu4⟩
        have HS4 := Lib.hid hs4
        have HU4 := Lib.hid (HUr.out.seq hu4)
        clear hs4 hu4
        cases lg
        · go_wp2_with fail
          refine (lineLen_any _ _ m false HS4.out).mono ?_
          rintro e w' ⟨rfl, rfl⟩
          go_wp2_with fail
          refine (lineLong_any _ _ m false HS4.out).mono ?_
          rintro e w' ⟨rfl, rfl⟩
          go_wp2_with fail
          refine (lineRuns_any _).mono ?_
          rintro e w' ⟨rfl, hu⟩
          have HU9 := Lib.hid hu
          clear hu
          go_wp2_with fail
          go_ret; exact ⟨rfl, HU4.out.seq HU9.out⟩
        · obtain rfl : m = 0 := HLM.out rfl
          go_wp2_with fail
          refine (lineLen_any _ _ 0 true HS4.out).mono ?_
          rintro e w' ⟨rfl, rfl⟩
          go_wp2_with fail
          refine (lineLong_any _ _ 0 true HS4.out).mono ?_
          rintro e w' ⟨rfl, rfl⟩
          go_wp2_with fail
          refine (lineRuns_any _).mono ?_
          rintro e w' ⟨rfl, hu⟩
          have HU9 := Lib.hid hu
          clear hu
          go_wp2_with fail
          go_ret; exact ⟨rfl, HU4.out.seq HU9.out⟩
end Go.Proofs.Ytfpibngdpooedaa
