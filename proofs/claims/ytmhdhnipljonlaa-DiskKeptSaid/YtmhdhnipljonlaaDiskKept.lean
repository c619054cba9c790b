/- The walk of DiskKept. -/
import Derived.Test.YtmhdhnipljonlaaDiskRuns
import Derived.Test.YtmhdhnipljonlaaDiskOne
import Derived.Test.YtmhdhnipljonlaaRoomed
namespace Go.Proofs.Ytmhdhnipljonlaa
open Go.RowKit
set_option linter.unusedSimpArgs false
set_option linter.unusedVariables false
abbrev nF : ByteArray := ⟨#[102]⟩
/-- A slice's bytes from t on may be written. -/
structure MutFrom (w : World) (a : Option Addr) (n t : Nat) : Prop where
  ex : t < n → ∃ g, a = some ⟨g, 0, none⟩ ∧ ∀ u, t ≤ u → u < n → (∃ x : UInt8, w.cell? ⟨g, u, none⟩ = some (bv x)) ∧ w.frozen? ⟨g, u, none⟩ = false
theorem MutFrom.addr {w : World} {a : Option Addr} {n t : Nat} (h : MutFrom w a n t) (ht : t < n) : ∃ g, a = some ⟨g, 0, none⟩ := by
  obtain ⟨g, h1, -⟩ := h.ex ht
  exact ⟨g, h1⟩
theorem MutFrom.at_ {w : World} {g n t : Nat} (h : MutFrom w (some ⟨g, 0, none⟩) n t) (ht : t < n) : ∃ x : UInt8, w.cell? ⟨g, t, none⟩ = some (bv x) ∧ w.frozen? ⟨g, t, none⟩ = false := by
  obtain ⟨g', h1, h2⟩ := h.ex ht
  injection h1 with h1; injection h1 with h1; subst h1
  obtain ⟨⟨x, hx⟩, hf⟩ := h2 t (Nat.le_refl _) ht
  exact ⟨x, hx, hf⟩
theorem MutFrom.set_ {w : World} {g n t : Nat} (h : MutFrom w (some ⟨g, 0, none⟩) n t) : ∀ V, MutFrom (w.setCell ⟨g, t, none⟩ V) (some ⟨g, 0, none⟩) n (t + 1) := fun V => ⟨fun ht => by
  obtain ⟨g', h1, h2⟩ := h.ex (by omega)
  injection h1 with h1; injection h1 with h1; subst h1
  refine ⟨g, rfl, fun u hu hun => ?_⟩
  obtain ⟨⟨x, hx⟩, hf⟩ := h2 u (by omega) hun
  exact ⟨⟨x, by rw [World.cell?_setCell_other _ _ _ _ (by intro h; injection h with h1 h2 h3; omega)]; exact hx⟩, by rw [World.frozen?_setCell]; exact hf⟩⟩
theorem Blk.mut {w : World} {g : Nat} {e : TypeId} {l : List UInt8} (h : Blk w g e (l.map bv)) : MutFrom w (some ⟨g, 0, none⟩) l.length 0 := ⟨fun _ => ⟨g, rfl, fun u _ hu => ⟨⟨nth l u, by rw [h.cell, List.getElem?_map, List.getElem?_eq_getElem hu, nth_get _ _ hu]; rfl⟩, h.frozen u⟩⟩⟩
theorem Own.mut {base : Nat} {e : TypeId} {w : World} {a : Option Addr} {n k : Nat} {l : List UInt8} (h : Own bv base e w (.slice a n k) l) : MutFrom w a l.length 0 := ⟨fun hl => by
  obtain ⟨g, k', ys, he, -, hb, -, -⟩ := h.form (fun q => by rw [q] at hl; simp at hl)
  injection he with e1 e2 e3
  refine ⟨g, e1, fun u _ hu => ⟨⟨nth l u, ?_⟩, hb.frozen u⟩⟩
  rw [hb.cell, List.getElem?_append_left (by simpa using hu), List.getElem?_map, List.getElem?_eq_getElem hu, nth_get _ _ hu]; rfl⟩
theorem back_len (nm : ByteArray) (p : List UInt8) (n : Int) : (dBack ⟨[(nm, p)], [], wMake nm :: (chunks p).map (wPut nm)⟩ n).now.length ≤ 100000 := by
  show (dBackF ⟨[(nm, p)], [], wMake nm :: (chunks p).map (wPut nm)⟩ n).length ≤ 100000
  unfold dBackF
  dsimp only
  cases hn : n.toNat with
  | zero => exact Nat.zero_le _
  | succ m =>
    rw [List.take_succ_cons]
    have h1 : wAll [] (wMake nm :: ((chunks p).map (wPut nm)).take m) = wAll [(nm, [])] (((chunks p).map (wPut nm)).take m) := rfl
    rw [h1, ← List.map_take, wAll_puts]
    simp
set_option maxRecDepth 20000 in
set_option maxHeartbeats 8000000 in
theorem diskKept_any (w : World) (v : Value) (p : List UInt8) (hp : Bytes w v p) (_ : p.length ≤ 140737488351232) (n : Int) (hn : I64 n) :
    Calls Try.prog 10 #[v, .int .i64 n] w fun e w' => e = .returned (.bool true) ∧ Upd [] w w' := by
  have HP := Lib.hid hp
  have HN := Lib.hid hn
  obtain ⟨pa, pc, rfl, hp1, hp2, -⟩ := hp
  have hpc : pc ≤ 9223372036854775807 := by unfold maxLen at hp2; omega
  clear hp2 hn
  by_cases hbig : 500 < p.length
  · have hq3 : (500 : Int) < p.length := by omega
    have hcut0 : ∀ W, (Instr.slice 27 (.slice pa p.length pc) none (some (.int .i64 500)) none).run Try.prog W = .ok (.slice pa 500 pc) W := fun W => run_cut_h (P := Try.prog) (size := 1) Try.underlying27 (by kernel_rfl) pa p.length pc 500 (by omega) W
    have hcap : 500 ≤ pc := by omega
    have HPQ0 : Hid (Bytes w (.slice pa 500 pc) (p.take 500)) := HP.out.take 500 (by omega)
    have hql : (p.take 500).length = 500 := by rw [List.length_take]; omega
    obtain ⟨q, hq⟩ : ∃ q, p.take 500 = q := ⟨_, rfl⟩
    rw [hq] at HPQ0 hql
    have HPQ : Hid (Bytes w (.slice pa q.length pc) q) := by rw [hql]; exact HPQ0
    have HQ5 : Hid (q.length ≤ 500) := by unfold Hid; omega
    have hqc : q.length ≤ pc := by omega
    rw [← hql] at hcut0
    clear HPQ0 hq hql hcap
    go_enter Try.func10, Try.ntmps10
    have hl500 : q.length ≤ 500 := HQ5.out
    have HAO := Lib.hid (append_one nF q (by kernel_rfl) (by omega))
    have hcutf : ∀ g W, (Instr.slice 27 (.slice (some ⟨g, 0, none⟩) (q.length + 80) (q.length + 80)) none (some (.int .i64 (q.length : Int))) none).run Try.prog W = .ok (.slice (some ⟨g, 0, none⟩) q.length (q.length + 80)) W := fun g W => run_cut_h (P := Try.prog) (size := 1) Try.underlying27 (by kernel_rfl) (some ⟨g, 0, none⟩) (q.length + 80) (q.length + 80) q.length (by omega) W
    go_wp2_with fail
    (with_reducible refine (dNew_any w w (Upd.refl [] w)).mono ?_)
    rintro e w1 ⟨gd, G1, rfl, h1, hu1, hf1⟩
    have H1 := Lib.hid h1
    have HP1 := Lib.hid (HPQ.out.upd0 hu1)
    clear h1 hf1
    go_wp2_with fail
    (refine (roomyByte_any _ q 8 _ HP1.out (by omega)).mono ?_)
    rintro e w3 ⟨u3, rfl, hroom⟩
    have HPRE := Lib.hid (hroom.pre (by unfold maxLen; omega))
    have HFUL := Lib.hid (hroom.rd (by unfold maxLen; omega))
    obtain ⟨rfl, hbf, hu3⟩ := hroom
    have HBF := Lib.hid hbf
    have H3 := Lib.hid (H1.out.upd0 hu3)
    have HNG : Hid (w1.heap.size ∉ G1) := fun hx => by have := (H1.out.ge _ hx).2; omega
    have HAPB : Hid (∀ x ∈ blk (.slice (some ⟨w1.heap.size, 0, none⟩) q.length (q.length + 80)), x ∉ G1) := fun x hx => by simp [blk] at hx; subst hx; exact HNG.out
    have HSZ : Hid (w.heap.size ≤ w1.heap.size) := hu1.size
    clear hbf hu3 hu1 H1
    go_wp2_with fail
    (with_reducible refine (dAppend_any nF _ q HPRE.out HAPB.out H3.out (by omega) (by simp) (by simp)).mono ?_)
    rw [HAO.out]
    rintro e w4 ⟨rfl, ho⟩
    obtain ⟨G4, h4, hu4, hf4⟩ := DOut.dd ho
    have H4 := Lib.hid h4
    have HFUL4 := Lib.hid (HFUL.out.upd hu4 (fun x hx h => by simp [blk] at hx; subst hx; exact HNG.out h))
    have HBF4 := Lib.hid (HBF.out.upd hu4 HNG.out)
    have HSZ3 := Lib.hid HBF.out.lt
    have HNG4 : Hid (w1.heap.size ∉ G4) := fun hx => by
      rcases hf4 _ hx with r | r
      · exact HNG.out r
      · have := HSZ3.out; omega
    have HP4 := Lib.hid (HPQ.out.upd0 H4.out.old)
    clear ho h4 hu4 hf4 H3 HFUL HBF HPRE HP1 HAPB hcutf
    dsimp only at H4
    go_wp2_with fail
    (refine (intactByte_ok _ _ q 8 _ HFUL4.out HP4.out (by omega)).mono ?_)
    rintro e w5 ⟨rfl, n5, rfl⟩
    have hu5 := (Upd.refl [] w4).drewN n5
    have H5 := Lib.hid (H4.out.upd0 hu5)
    have HM5 : Hid (MutFrom (w4.drewN n5) (some ⟨w1.heap.size, 0, none⟩) (q.length + 80) 0) := by
      have := (HBF4.out.upd hu5 (by simp)).mut
      unfold Hid; simpa using this
    generalize w4.drewN n5 = w5 at *
    clear hu5 H4 HFUL4 HBF4 HP4
    go_wp2_with fail
    go_loopw [7] (fun i wr => ∃ t : Nat, t ≤ q.length + 80 ∧ i = .int .i64 t ∧ Hid (MutFrom wr (some ⟨w1.heap.size, 0, none⟩) (q.length + 80) t) ∧ Hid (Upd [w1.heap.size] w5 wr)) (fun i _ => q.length + 80 - (intOf i).toNat)
    case atStart => exact ⟨0, Nat.zero_le _, rfl, HM5, Upd.refl _ _⟩
    case round =>
      obtain ⟨t, ht, rfl, hm, hu⟩ := hrel
      clear HM5
      by_cases htl : t < q.length + 80
      · obtain ⟨x, hx, f0⟩ := hm.out.at_ htl
        have p5 : (0 : Int) ≤ t := by omega
        have p6 : (t : Int) < q.length + 80 := by omega
        have HMS := Lib.hid hm.out.set_
        have HU7 : Hid (∀ V, Upd [w1.heap.size] w5 (wr.setCell ⟨w1.heap.size, t, none⟩ V)) := fun V => hu.out.setCell _ _ (.inl (by simp))
        clear hm hu
        go_wp2_with fail
        go_roundw
        case rel => exact ⟨t + 1, by omega, by go_num, HMS.out _, HU7.out _⟩
        case measure => simp [intOf]; omega
      · obtain rfl : t = q.length + 80 := by omega
        have H6 := Lib.hid (H5.out.upd hu.out (fun x hx h => HNG4.out (by simp at h; rw [← h]; exact hx)) (fun x hx => by simp at hx; subst hx; exact HSZ.out))
        clear hm hu H5
        go_wp2_with fail
        (with_reducible refine (dRead_any nF H6.out (by simp)).mono ?_)
        rw [show dGet [(nF, q)] nF = (q, true) from get_one nF q]
        rintro e w7 ⟨v7, rfl, ho7, hu7⟩
        obtain ⟨a7, k7, rfl, -, hk7, -⟩ := ho7.rd
        have hk7' : k7 ≤ 9223372036854775807 := by unfold maxLen at hk7; omega
        have H7 := Lib.hid (H6.out.upd0 hu7)
        have HM7 := Lib.hid ho7.mut
        have HAP7 : Hid (∀ x ∈ blk (.slice a7 q.length k7), w.heap.size ≤ x ∧ x ∉ G4) := fun x hx => by
          have h1 := (ho7.ge x hx).1
          refine ⟨by have := H6.out.old.size; omega, fun hg => ?_⟩
          have := (H6.out.ge x hg).2; omega
        clear ho7 hu7 H6 hk7
        dsimp only
        go_wp2_with fail
        go_loopw [10] (fun i wr => ∃ t : Nat, t ≤ q.length ∧ i = .int .i64 t ∧ Hid (MutFrom wr a7 q.length t) ∧ Hid (Upd (blk (.slice a7 q.length k7)) w7 wr)) (fun i _ => q.length - (intOf i).toNat)
        case atStart => exact ⟨0, Nat.zero_le _, rfl, HM7, Upd.refl _ _⟩
        case round =>
          obtain ⟨t, ht, rfl, hm, hu⟩ := hrel
          clear HM7
          by_cases htl : t < q.length
          · obtain ⟨g7, rfl⟩ := hm.out.addr htl
            obtain ⟨x, hx, f0⟩ := hm.out.at_ htl
            have p5 : (0 : Int) ≤ t := by omega
            have p6 : (t : Int) < q.length := by omega
            have HMS := Lib.hid hm.out.set_
            have HU7 : Hid (∀ V, Upd (blk (.slice (some ⟨g7, 0, none⟩) q.length k7)) w7 (wr.setCell ⟨g7, t, none⟩ V)) := fun V => hu.out.setCell _ _ (.inl (by simp [blk]))
            clear hm hu
            go_wp2_with fail
            go_roundw
            case rel => exact ⟨t + 1, by omega, by go_num, HMS.out _, HU7.out _⟩
            case measure => simp [intOf]; omega
          · obtain rfl : t = q.length := by omega
            have H8 := Lib.hid (H7.out.upd hu.out (fun x hx h => (HAP7.out x h).2 hx) (fun x hx => (HAP7.out x hx).1))
            clear hm hu H7
            go_wp2_with fail
            (with_reducible refine (dRead_any nF H8.out (by simp)).mono ?_)
            rw [show dGet [(nF, q)] nF = (q, true) from get_one nF q]
            rintro e w9 ⟨v9, rfl, ho9, hu9⟩
            have H9 := Lib.hid (H8.out.upd0 hu9)
            have HR9 := Lib.hid ho9.rd
            have HP9 := Lib.hid (HPQ.out.upd0 H9.out.old)
            obtain ⟨a9, k9, rfl, -⟩ := ho9.rd
            clear ho9 hu9 H8
            dsimp only
            go_wp2_with fail
            (with_reducible refine (sameByte_ok _ _ q _ HR9.out HP9.out).mono ?_)
            rintro e w10 ⟨rfl, n10, rfl⟩
            have H10 := Lib.hid (H9.out.upd0 ((Upd.refl [] w9).drewN n10))
            generalize w9.drewN n10 = w10 at *
            clear H9 HR9 HP9
            go_wp2_with fail
            (with_reducible refine (dBack_any n HN.out H10.out (by simp)).mono ?_)
            rintro e w11 ⟨rfl, ho⟩
            obtain ⟨G11, h11, -, -⟩ := DOut.dd ho
            have H11 := Lib.hid h11
            have hbk := back_one nF q n
            have HBK := Lib.hid hbk
            have HBL := Lib.hid (back_len nF q n)
            clear ho h11 H10 hbk
            go_wp2_with fail
            (with_reducible refine (dRead_any nF H11.out HBL.out).mono ?_)
            rw [show dGet (dBack ⟨[(nF, q)], [], wMake nF :: (chunks q).map (wPut nF)⟩ n).now nF = (q.take (32 * (n.toNat - 1)), decide (n.toNat ≠ 0)) from HBK.out]
            rintro e w12 ⟨v12, rfl, ho12, hu12⟩
            have HO12 := Lib.hid (H11.out.old.seq hu12)
            have HP12 := Lib.hid (HPQ.out.upd0 (H11.out.old.seq hu12))
            have hle : (q.take (32 * (n.toNat - 1))).length ≤ q.length := by rw [List.length_take]; omega
            have HTK : Hid (q.take (q.take (32 * (n.toNat - 1))).length = q.take (32 * (n.toNat - 1))) := by
              unfold Hid
              rw [List.length_take]
              rcases Nat.le_total (32 * (n.toNat - 1)) q.length with r | r
              · rw [Nat.min_eq_left r]
              · rw [Nat.min_eq_right r, List.take_length, List.take_of_length_le r]
            obtain ⟨bo, hbo⟩ : ∃ b, decide (n.toNat ≠ 0) = b := ⟨_, rfl⟩
            rw [hbo]
            generalize q.take (32 * (n.toNat - 1)) = r at *
            have HR12 := Lib.hid ho12.rd
            obtain ⟨a12, k12, rfl, -⟩ := ho12.rd
            have HPT : Hid (Bytes w12 (.slice pa r.length pc) r) := by
              have := HP12.out.take r.length hle
              rw [HTK.out] at this; exact this
            have hcutp := fun W => run_cut_h (P := Try.prog) (size := 1) Try.underlying27 (by kernel_rfl) pa q.length pc r.length (by omega) W
            have z1 : (r.length : Int) ≤ q.length := by omega
            have z2 : (r.length : Int) ≤ pc := by omega
            have z3 : (0 : Int) ≤ r.length := by omega
            clear ho12 hu12 HP12 H11 hbo
            go_wp2_with fail
            (with_reducible refine (sameByte_ok _ _ r _ HR12.out HPT.out).mono ?_)
            rintro e w13 ⟨rfl, n13, rfl⟩
            have HO13 := Lib.hid (HO12.out.drewN n13)
            generalize w12.drewN n13 = w13 at *
            clear HO12 HR12 HPT hcutp
            go_wp2_with fail
            (with_reducible refine (diskRuns_any _).mono ?_)
            rintro e w14 ⟨rfl, hu14⟩
            go_wp2_with fail
            go_ret
            exact ⟨rfl, HO13.out.seq hu14⟩
  · have hq3 : ¬ (500 : Int) < p.length := by omega
    have HQ5 : Hid (p.length ≤ 500) := by unfold Hid; omega
    have HPQ := HP
    have hqc := hp1
    obtain ⟨q, hq⟩ : ∃ q, p = q := ⟨_, rfl⟩
    subst hq
    clear hbig
    go_enter Try.func10, Try.ntmps10
    have hl500 : p.length ≤ 500 := HQ5.out
    have HAO := Lib.hid (append_one nF p (by kernel_rfl) (by omega))
    have hcutf : ∀ g W, (Instr.slice 27 (.slice (some ⟨g, 0, none⟩) (p.length + 80) (p.length + 80)) none (some (.int .i64 (p.length : Int))) none).run Try.prog W = .ok (.slice (some ⟨g, 0, none⟩) p.length (p.length + 80)) W := fun g W => run_cut_h (P := Try.prog) (size := 1) Try.underlying27 (by kernel_rfl) (some ⟨g, 0, none⟩) (p.length + 80) (p.length + 80) p.length (by omega) W
    go_wp2_with fail
    (with_reducible refine (dNew_any w w (Upd.refl [] w)).mono ?_)
    rintro e w1 ⟨gd, G1, rfl, h1, hu1, hf1⟩
    have H1 := Lib.hid h1
    have HP1 := Lib.hid (HPQ.out.upd0 hu1)
    clear h1 hf1
    go_wp2_with fail
    (refine (roomyByte_any _ p 8 _ HP1.out (by omega)).mono ?_)
    rintro e w3 ⟨u3, rfl, hroom⟩
    have HPRE := Lib.hid (hroom.pre (by unfold maxLen; omega))
    have HFUL := Lib.hid (hroom.rd (by unfold maxLen; omega))
    obtain ⟨rfl, hbf, hu3⟩ := hroom
    have HBF := Lib.hid hbf
    have H3 := Lib.hid (H1.out.upd0 hu3)
    have HNG : Hid (w1.heap.size ∉ G1) := fun hx => by have := (H1.out.ge _ hx).2; omega
    have HAPB : Hid (∀ x ∈ blk (.slice (some ⟨w1.heap.size, 0, none⟩) p.length (p.length + 80)), x ∉ G1) := fun x hx => by simp [blk] at hx; subst hx; exact HNG.out
    have HSZ : Hid (w.heap.size ≤ w1.heap.size) := hu1.size
    clear hbf hu3 hu1 H1
    go_wp2_with fail
    (with_reducible refine (dAppend_any nF _ p HPRE.out HAPB.out H3.out (by omega) (by simp) (by simp)).mono ?_)
    rw [HAO.out]
    rintro e w4 ⟨rfl, ho⟩
    obtain ⟨G4, h4, hu4, hf4⟩ := DOut.dd ho
    have H4 := Lib.hid h4
    have HFUL4 := Lib.hid (HFUL.out.upd hu4 (fun x hx h => by simp [blk] at hx; subst hx; exact HNG.out h))
    have HBF4 := Lib.hid (HBF.out.upd hu4 HNG.out)
    have HSZ3 := Lib.hid HBF.out.lt
    have HNG4 : Hid (w1.heap.size ∉ G4) := fun hx => by
      rcases hf4 _ hx with r | r
      · exact HNG.out r
      · have := HSZ3.out; omega
    have HP4 := Lib.hid (HPQ.out.upd0 H4.out.old)
    clear ho h4 hu4 hf4 H3 HFUL HBF HPRE HP1 HAPB hcutf
    dsimp only at H4
    go_wp2_with fail
    (refine (intactByte_ok _ _ p 8 _ HFUL4.out HP4.out (by omega)).mono ?_)
    rintro e w5 ⟨rfl, n5, rfl⟩
    have hu5 := (Upd.refl [] w4).drewN n5
    have H5 := Lib.hid (H4.out.upd0 hu5)
    have HM5 : Hid (MutFrom (w4.drewN n5) (some ⟨w1.heap.size, 0, none⟩) (p.length + 80) 0) := by
      have := (HBF4.out.upd hu5 (by simp)).mut
      unfold Hid; simpa using this
    generalize w4.drewN n5 = w5 at *
    clear hu5 H4 HFUL4 HBF4 HP4
    go_wp2_with fail
    go_loopw [7] (fun i wr => ∃ t : Nat, t ≤ p.length + 80 ∧ i = .int .i64 t ∧ Hid (MutFrom wr (some ⟨w1.heap.size, 0, none⟩) (p.length + 80) t) ∧ Hid (Upd [w1.heap.size] w5 wr)) (fun i _ => p.length + 80 - (intOf i).toNat)
    case atStart => exact ⟨0, Nat.zero_le _, rfl, HM5, Upd.refl _ _⟩
    case round =>
      obtain ⟨t, ht, rfl, hm, hu⟩ := hrel
      clear HM5
      by_cases htl : t < p.length + 80
      · obtain ⟨x, hx, f0⟩ := hm.out.at_ htl
        have p5 : (0 : Int) ≤ t := by omega
        have p6 : (t : Int) < p.length + 80 := by omega
        have HMS := Lib.hid hm.out.set_
        have HU7 : Hid (∀ V, Upd [w1.heap.size] w5 (wr.setCell ⟨w1.heap.size, t, none⟩ V)) := fun V => hu.out.setCell _ _ (.inl (by simp))
        clear hm hu
        go_wp2_with fail
        go_roundw
        case rel => exact ⟨t + 1, by omega, by go_num, HMS.out _, HU7.out _⟩
        case measure => simp [intOf]; omega
      · obtain rfl : t = p.length + 80 := by omega
        have H6 := Lib.hid (H5.out.upd hu.out (fun x hx h => HNG4.out (by simp at h; rw [← h]; exact hx)) (fun x hx => by simp at hx; subst hx; exact HSZ.out))
        clear hm hu H5
        go_wp2_with fail
        (with_reducible refine (dRead_any nF H6.out (by simp)).mono ?_)
        rw [show dGet [(nF, p)] nF = (p, true) from get_one nF p]
        rintro e w7 ⟨v7, rfl, ho7, hu7⟩
        obtain ⟨a7, k7, rfl, -, hk7, -⟩ := ho7.rd
        have hk7' : k7 ≤ 9223372036854775807 := by unfold maxLen at hk7; omega
        have H7 := Lib.hid (H6.out.upd0 hu7)
        have HM7 := Lib.hid ho7.mut
        have HAP7 : Hid (∀ x ∈ blk (.slice a7 p.length k7), w.heap.size ≤ x ∧ x ∉ G4) := fun x hx => by
          have h1 := (ho7.ge x hx).1
          refine ⟨by have := H6.out.old.size; omega, fun hg => ?_⟩
          have := (H6.out.ge x hg).2; omega
        clear ho7 hu7 H6 hk7
        dsimp only
        go_wp2_with fail
        go_loopw [10] (fun i wr => ∃ t : Nat, t ≤ p.length ∧ i = .int .i64 t ∧ Hid (MutFrom wr a7 p.length t) ∧ Hid (Upd (blk (.slice a7 p.length k7)) w7 wr)) (fun i _ => p.length - (intOf i).toNat)
        case atStart => exact ⟨0, Nat.zero_le _, rfl, HM7, Upd.refl _ _⟩
        case round =>
          obtain ⟨t, ht, rfl, hm, hu⟩ := hrel
          clear HM7
          by_cases htl : t < p.length
          · obtain ⟨g7, rfl⟩ := hm.out.addr htl
            obtain ⟨x, hx, f0⟩ := hm.out.at_ htl
            have p5 : (0 : Int) ≤ t := by omega
            have p6 : (t : Int) < p.length := by omega
            have HMS := Lib.hid hm.out.set_
            have HU7 : Hid (∀ V, Upd (blk (.slice (some ⟨g7, 0, none⟩) p.length k7)) w7 (wr.setCell ⟨g7, t, none⟩ V)) := fun V => hu.out.setCell _ _ (.inl (by simp [blk]))
            clear hm hu
            go_wp2_with fail
            go_roundw
            case rel => exact ⟨t + 1, by omega, by go_num, HMS.out _, HU7.out _⟩
            case measure => simp [intOf]; omega
          · obtain rfl : t = p.length := by omega
            have H8 := Lib.hid (H7.out.upd hu.out (fun x hx h => (HAP7.out x h).2 hx) (fun x hx => (HAP7.out x hx).1))
            clear hm hu H7
            go_wp2_with fail
            (with_reducible refine (dRead_any nF H8.out (by simp)).mono ?_)
            rw [show dGet [(nF, p)] nF = (p, true) from get_one nF p]
            rintro e w9 ⟨v9, rfl, ho9, hu9⟩
            have H9 := Lib.hid (H8.out.upd0 hu9)
            have HR9 := Lib.hid ho9.rd
            have HP9 := Lib.hid (HPQ.out.upd0 H9.out.old)
            obtain ⟨a9, k9, rfl, -⟩ := ho9.rd
            clear ho9 hu9 H8
            dsimp only
            go_wp2_with fail
            (with_reducible refine (sameByte_ok _ _ p _ HR9.out HP9.out).mono ?_)
            rintro e w10 ⟨rfl, n10, rfl⟩
            have H10 := Lib.hid (H9.out.upd0 ((Upd.refl [] w9).drewN n10))
            generalize w9.drewN n10 = w10 at *
            clear H9 HR9 HP9
            go_wp2_with fail
            (with_reducible refine (dBack_any n HN.out H10.out (by simp)).mono ?_)
            rintro e w11 ⟨rfl, ho⟩
            obtain ⟨G11, h11, -, -⟩ := DOut.dd ho
            have H11 := Lib.hid h11
            have hbk := back_one nF p n
            have HBK := Lib.hid hbk
            have HBL := Lib.hid (back_len nF p n)
            clear ho h11 H10 hbk
            go_wp2_with fail
            (with_reducible refine (dRead_any nF H11.out HBL.out).mono ?_)
            rw [show dGet (dBack ⟨[(nF, p)], [], wMake nF :: (chunks p).map (wPut nF)⟩ n).now nF = (p.take (32 * (n.toNat - 1)), decide (n.toNat ≠ 0)) from HBK.out]
            rintro e w12 ⟨v12, rfl, ho12, hu12⟩
            have HO12 := Lib.hid (H11.out.old.seq hu12)
            have HP12 := Lib.hid (HPQ.out.upd0 (H11.out.old.seq hu12))
            have hle : (p.take (32 * (n.toNat - 1))).length ≤ p.length := by rw [List.length_take]; omega
            have HTK : Hid (p.take (p.take (32 * (n.toNat - 1))).length = p.take (32 * (n.toNat - 1))) := by
              unfold Hid
              rw [List.length_take]
              rcases Nat.le_total (32 * (n.toNat - 1)) p.length with r | r
              · rw [Nat.min_eq_left r]
              · rw [Nat.min_eq_right r, List.take_length, List.take_of_length_le r]
            obtain ⟨bo, hbo⟩ : ∃ b, decide (n.toNat ≠ 0) = b := ⟨_, rfl⟩
            rw [hbo]
            generalize p.take (32 * (n.toNat - 1)) = r at *
            have HR12 := Lib.hid ho12.rd
            obtain ⟨a12, k12, rfl, -⟩ := ho12.rd
            have HPT : Hid (Bytes w12 (.slice pa r.length pc) r) := by
              have := HP12.out.take r.length hle
              rw [HTK.out] at this; exact this
            have hcutp := fun W => run_cut_h (P := Try.prog) (size := 1) Try.underlying27 (by kernel_rfl) pa p.length pc r.length (by omega) W
            have z1 : (r.length : Int) ≤ p.length := by omega
            have z2 : (r.length : Int) ≤ pc := by omega
            have z3 : (0 : Int) ≤ r.length := by omega
            clear ho12 hu12 HP12 H11 hbo
            go_wp2_with fail
            (with_reducible refine (sameByte_ok _ _ r _ HR12.out HPT.out).mono ?_)
            rintro e w13 ⟨rfl, n13, rfl⟩
            have HO13 := Lib.hid (HO12.out.drewN n13)
            generalize w12.drewN n13 = w13 at *
            clear HO12 HR12 HPT hcutp
            go_wp2_with fail
            (with_reducible refine (diskRuns_any _).mono ?_)
            rintro e w14 ⟨rfl, hu14⟩
            go_wp2_with fail
            go_ret
            exact ⟨rfl, HO13.out.seq hu14⟩
end Go.Proofs.Ytmhdhnipljonlaa
