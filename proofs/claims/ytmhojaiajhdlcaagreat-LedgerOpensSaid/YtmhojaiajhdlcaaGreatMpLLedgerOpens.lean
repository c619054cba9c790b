/- LedgerOpens: the law returns true, whatever it is given. -/
import Derived.Test.YtmhojaiajhdlcaaGreatMp18
import Derived.Test.YtmhojaiajhdlcaaGreatMp1
import Derived.Test.YtmhojaiajhdlcaaGreatMp12
import Derived.Test.YtmhojaiajhdlcaaGreatMp15
namespace Go.Proofs.YtmhojaiajhdlcaaGreat
open Go.RowKit
set_option linter.unusedSimpArgs false
set_option linter.unusedVariables false
theorem l2MarkR {w0 w u : World} {X : List Nat} {gd gl gr gk : Nat} {rl rl2 : List Rec} {s s2 : DS} (h : L2 w0 w X u gd gl gr gk rl s rl2 s2) :
    Calls Tryz.prog 22 #[.pointer (some ⟨gr, 0, none⟩)] w fun e w' => e = .returned (.tuple #[]) ∧ L2 w0 w' X u gd gl gr gk rl s rl2 (dMark s2) := by
  obtain ⟨F, G, H, K, h1, h2, h3, h9⟩ := id h.ex
  refine (rSetMark_any h2.rd).mono ?_
  rintro e w' ⟨rfl, ho⟩
  exact ⟨rfl, L2.diskR h1 h2 h3 h9 ho⟩
/-- The first elements of a list of the call's own. -/
theorem own_cut {base : Nat} {e : TypeId} {w : World} {a : Option Addr} {n cap : Nat} {l : List UInt8} (h : Own bv base e w (.slice a n cap) l) (k : Nat) (hk : k ≤ l.length) : Own bv base e w (.slice a k cap) (l.take k) := by
  obtain ⟨h1, h2⟩ := h
  rcases h2 with ⟨he, hn⟩ | ⟨g, cap', cur, he, hb, hg, hc, hm, hs, ht⟩
  · injection he with e1 e2 e3
    subst e1; subst e3
    obtain rfl : l = [] := List.eq_nil_of_length_eq_zero hn
    obtain rfl : k = 0 := by simpa using hk
    exact World.ownsRow_nil _ _ _ _
  · injection he with e1 e2 e3
    subst e1; subst e3
    refine ⟨by simp, .inr ⟨g, cap, cur, by rw [List.length_take, Nat.min_eq_left hk], hb, hg, by rw [List.length_take]; omega, hm, hs, ?_⟩⟩
    have h3 : (cur.toList.take (l.length * 1)).take k = (l.map bv).take k := by rw [ht]
    rw [List.take_take, Nat.mul_one, Nat.min_eq_left hk] at h3
    rw [List.length_take, Nat.min_eq_left hk, Nat.mul_one, h3, List.map_take]
theorem within_b (cut : Int) (m : Nat) : ∃ n : Nat, within cut 0 (m : Int) = (n : Int) ∧ n ≤ m := by
  have hp : 0 < (m : Int) - 0 + 1 := by omega
  have h1 := Int.emod_nonneg cut (b := (m : Int) - 0 + 1) (by omega)
  have h2 := Int.emod_lt_of_pos cut hp
  obtain ⟨n, hn⟩ := Int.eq_ofNat_of_zero_le h1
  refine ⟨n, ?_, by omega⟩
  unfold within
  rw [hn]; omega
structure LOk (s : DS) (rl : List Rec) : Prop where
  ok : DOk s
  one : s.now.length ≤ 10
  z : s.now.length ≤ 4999 ∧ s.log.length ≤ 500000000 ∧ s.mark.length ≤ 100000 ∧ rl.length ≤ 100000000
theorem lok_append (p : List UInt8) (hp : p.length ≤ 4000) : LOk (dMark (dAppend ⟨[], [], []⟩ nmL p).2) [] := by
  have hg := grows_append DOk.zero nmL p (by simp)
  have h1 := hg.now
  have h2 := hg.log
  simp at h1 h2
  refine ⟨(DOk.zero.append nmL p (by simp)).mark, by show (dAppend ⟨[], [], []⟩ nmL p).2.now.length ≤ 10; omega, ?_⟩
  simp only [dMark]
  refine ⟨by omega, by simp, by omega, by simp⟩
theorem lok_open {s : DS} (h : LOk s []) (h2 : s.now.length ≤ 9 ∧ s.log.length ≤ 1000) : LOk (lOpen s).2 (lOpen s).1 := by
  have hz := h.z
  have hl := lOpen_len h.ok
  have hle := lScan_le (dGet s.now nmL).1
  have key : DOk (lOpen s).2 ∧ Grows s (lOpen s).2 0 := by
    unfold lOpen
    dsimp only
    split
    · rename_i hlt
      refine ⟨?_, grows_cut _ _ _ _⟩
      unfold dCut
      cases hin : inD s.now nmL with
      | false => exact h.ok
      | true =>
        rw [if_pos rfl, if_neg (by omega)]
        exact (h.ok.cut nmL _ hin (by omega) (by omega) (by omega)).2
    · exact ⟨h.ok, Grows.refl _ _⟩
  obtain ⟨h1, h3⟩ := key
  have g1 := h3.now
  have g2 := h3.log
  have g3 := h3.mark
  refine ⟨h1, by omega, ⟨by omega, by omega, by rw [g3]; omega, by omega⟩⟩
/-- Both ledgers, and slices that show b, which no call on the program's disk writes. -/
structure L3 (w0 w : World) (vs : List Value) (b : List UInt8) (gd gl gr gk : Nat) (rl : List Rec) (s : DS) (rl2 : List Rec) (s2 : DS) : Prop where
  ex : ∃ F G H K, LD w0 w gd gl F G rl s ∧ RKD w0 w gr gk H K rl2 s2 ∧ Ap (F ++ G) (H ++ K) ∧ ∀ v ∈ vs, Bytes w v b ∧ (∀ x ∈ blk v, x ∉ F ++ G) ∧ (∀ x ∈ blk v, x < w.heap.size)
section
variable {w0 w w' u : World} {vs : List Value} {b : List UInt8} {gd gl gl' gr gk gk' : Nat} {rl rl' rl2 : List Rec} {s s' s2 : DS} {F G H K : List Nat}
theorem L3.of {X : List Nat} (h : L2 w0 w X u gd gl gr gk rl s rl2 s2) (b : List UInt8) : L3 w0 w [] b gd gl gr gk rl s rl2 s2 := by
  obtain ⟨F, G, H, K, h1, h2, h3, h9⟩ := id h.ex
  exact ⟨F, G, H, K, h1, h2, h3, by simp⟩
theorem L3.two (h : L3 w0 w vs b gd gl gr gk rl s rl2 s2) : L2 w0 w [] w gd gl gr gk rl s rl2 s2 := by
  obtain ⟨F, G, H, K, h1, h2, h3, h9⟩ := id h.ex
  exact ⟨F, G, H, K, h1, h2, h3, Nat.le_refl _, by simp, by simp, by simp, by simp⟩
theorem L3.upd0 (h : L3 w0 w vs b gd gl gr gk rl s rl2 s2) (hu : Upd [] w w') : L3 w0 w' vs b gd gl gr gk rl s rl2 s2 := by
  obtain ⟨F, G, H, K, h1, h2, h3, h9⟩ := id h.ex
  exact ⟨F, G, H, K, h1.upd0 hu, h2.upd0 hu, h3, fun v hv => ⟨(h9 v hv).1.upd0 hu, (h9 v hv).2.1, fun x hx => Nat.lt_of_lt_of_le ((h9 v hv).2.2 x hx) hu.size⟩⟩
theorem L3.bytes (h : L3 w0 w vs b gd gl gr gk rl s rl2 s2) {v : Value} (hv : v ∈ vs) : Bytes w v b := by
  obtain ⟨F, G, H, K, h1, h2, h3, h9⟩ := id h.ex
  exact (h9 v hv).1
theorem L3.step (h1 : LD w0 w gd gl F G rl s) (h2 : RKD w0 w gr gk H K rl2 s2) (h3 : Ap (F ++ G) (H ++ K)) (h9 : ∀ v ∈ vs, Bytes w v b ∧ (∀ x ∈ blk v, x ∉ F ++ G) ∧ (∀ x ∈ blk v, x < w.heap.size)) {Y : List Nat} (hX : ∀ x ∈ Y, x ∈ F ++ G) (ho : LOut w0 w gd gl' Y rl' s' w') : L3 w0 w' vs b gd gl' gr gk rl' s' rl2 s2 := by
  obtain ⟨F', G', k1, k2, k3, k4⟩ := (show ∃ F' G', _ from ho)
  replace k2 := k2.mono (T := F ++ G) (fun x hx => .inl (hX x hx))
  replace k3 := fun x hx => (k3 x hx).imp (hX x) id
  replace k4 := fun x hx => (k4 x hx).imp (hX x) id
  have hHK : ∀ x ∈ H ++ K, x < w.heap.size := fun x hx => by
    rcases List.mem_append.1 hx with q | q
    · exact (h2.geF x q).2
    · exact (h2.rd.ge x q).2
  have hn : ∀ x ∈ F' ++ G', x ∈ F ++ G ∨ w.heap.size ≤ x := fun x hx => by
    rcases List.mem_append.1 hx with q | q
    · exact k3 x q
    · exact k4 x q
  refine ⟨F', G', H, K, k1, h2.upd k2 (fun x hx hs => h3 x hs (List.mem_append.2 (.inl hx))) (fun x hx hs => h3 x hs (List.mem_append.2 (.inr hx))) (fun x hx => ?_), ap_grow h3 hn hHK, fun v hv => ⟨(h9 v hv).1.upd k2 (h9 v hv).2.1, fun x hx hf => ?_, fun x hx => Nat.lt_of_lt_of_le ((h9 v hv).2.2 x hx) k2.size⟩⟩
  · rcases List.mem_append.1 hx with q | q
    · exact (h1.geF x q).1
    · exact (h1.dd.ge x q).1
  · rcases hn x hf with q | q
    · exact (h9 v hv).2.1 x hx q
    · have := (h9 v hv).2.2 x hx; omega
theorem l3Read (h : L3 w0 w vs b gd gl gr gk rl s rl2 s2) (nm : ByteArray) (hz : s.now.length ≤ 4999 ∧ s.log.length ≤ 500000000 ∧ s.mark.length ≤ 100000 ∧ rl.length ≤ 100000000) {ok : Bool} (he : dGet s.now nm = (b, ok)) :
    Calls Tryz.prog 28 #[.pointer (some ⟨gd, 0, none⟩), sv nm] w fun e w' => ∃ a k, e = .returned (.tuple #[.slice a b.length k, .bool ok]) ∧ L3 w0 w' (.slice a b.length k :: vs) b gd gl gr gk rl s rl2 s2 := by
  obtain ⟨F, G, H, K, h1, h2, h3, h9⟩ := id (h.ex)
  have h4 := dkRead_any nm h1.dd (by omega)
  rw [he] at h4
  refine h4.mono ?_
  rintro e w' ⟨v, rfl, ho, hu⟩
  have hr := ho.rd
  have hge := ho.ge
  obtain ⟨a, k, rfl, -⟩ := id hr
  refine ⟨a, k, rfl, F, G, H, K, h1.upd0 hu, h2.upd0 hu, h3, fun v hv => ?_⟩
  rcases List.mem_cons.1 hv with rfl | hv
  · refine ⟨hr, fun x hx hf => ?_, fun x hx => (hge x hx).2⟩
    have := (hge x hx).1
    rcases List.mem_append.1 hf with q | q
    · have := (h1.geF x q).2; omega
    · have := (h1.dd.ge x q).2; omega
  · exact ⟨(h9 v hv).1.upd0 hu, (h9 v hv).2.1, fun x hx => Nat.lt_of_lt_of_le ((h9 v hv).2.2 x hx) hu.size⟩
theorem l3ReadR (h : L3 w0 w vs b gd gl gr gk rl s rl2 s2) (nm : ByteArray) (hz : s2.now.length ≤ 4999 ∧ s2.log.length ≤ 500000000 ∧ s2.mark.length ≤ 100000 ∧ rl2.length ≤ 100000000) {ok : Bool} (he : dGet s2.now nm = (b, ok)) :
    Calls Tryz.prog 29 #[.pointer (some ⟨gr, 0, none⟩), sv nm] w fun e w' => ∃ a k, e = .returned (.tuple #[.slice a b.length k, .bool ok]) ∧ L3 w0 w' (.slice a b.length k :: vs) b gd gl gr gk rl s rl2 s2 := by
  obtain ⟨F, G, H, K, h1, h2, h3, h9⟩ := id (h.ex)
  have h4 := rdRead_any nm h2.rd (by omega)
  rw [he] at h4
  refine h4.mono ?_
  rintro e w' ⟨v, rfl, hr, hin, hu⟩
  obtain ⟨a, k, rfl, -⟩ := id hr
  refine ⟨a, k, rfl, F, G, H, K, h1.upd0 hu, h2.upd0 hu, h3, fun v hv => ?_⟩
  rcases List.mem_cons.1 hv with rfl | hv
  · exact ⟨hr, fun x hx hf => h3 x hf (List.mem_append.2 (.inr (hin x hx))), fun x hx => Nat.lt_of_lt_of_le (h2.rd.ge x (hin x hx)).2 hu.size⟩
  · exact ⟨(h9 v hv).1.upd0 hu, (h9 v hv).2.1, fun x hx => Nat.lt_of_lt_of_le ((h9 v hv).2.2 x hx) hu.size⟩
theorem l3Mark (h : L3 w0 w vs b gd gl gr gk rl s rl2 s2) (hz : s.now.length ≤ 4999 ∧ s.log.length ≤ 500000000 ∧ s.mark.length ≤ 100000 ∧ rl.length ≤ 100000000) :
    Calls Tryz.prog 21 #[.pointer (some ⟨gd, 0, none⟩)] w fun e w' => e = .returned (.tuple #[]) ∧ L3 w0 w' vs b gd gl gr gk rl (dMark s) rl2 s2 := by
  obtain ⟨F, G, H, K, h1, h2, h3, h9⟩ := id h.ex
  refine (dMark_any h1.dd (by omega)).mono ?_
  rintro e w' ⟨rfl, ho⟩
  obtain ⟨G', k1, k2, k3⟩ := h1.disk (Upd.refl [] w) ho
  exact ⟨rfl, L3.step h1 h2 h3 h9 (fun _ h => h) (h1.out k1 k2 k3)⟩
theorem l3OpenKeep (h : L3 w0 w vs b gd gl gr gk rl s rl2 s2) (hz : s.now.length ≤ 4999 ∧ s.log.length ≤ 500000000 ∧ s.mark.length ≤ 100000 ∧ rl.length ≤ 100000000) (he : lOpen s = (rl', s')) :
    Calls Tryz.prog 23 #[.pointer (some ⟨gd, 0, none⟩)] w fun e w' => ∃ gl', e = .returned (.tuple #[.pointer (some ⟨gl', 0, none⟩), .int .i64 0]) ∧ L3 w0 w' vs b gd gl' gr gk rl' s' rl2 s2 ∧ ∃ gm lv, LC w0 w' gl gd gm lv rl := by
  obtain ⟨F, G, H, K, h1, h2, h3, h9⟩ := id h.ex
  have h4 := ledOpen_any h1.dd (by omega) (by omega)
  rw [he] at h4
  refine h4.mono ?_
  rintro e w' ⟨gl', rfl, ho⟩
  refine ⟨gl', rfl, L3.step h1 h2 h3 h9 (fun x hx => List.mem_append.2 (.inr hx)) ho, ?_⟩
  obtain ⟨F', G', k1, k2, k3, k4⟩ := (show ∃ F' G', _ from ho)
  obtain ⟨gm, lv, hl, rfl⟩ := h1.lc
  exact ⟨gm, lv, hl.upd k2 (fun x hx hg => h1.ap x hx hg) (fun x hx => (h1.dd.ge x hx).1)⟩
end
end Go.Proofs.YtmhojaiajhdlcaaGreat
namespace Go.Proofs.YtmhojaiajhdlcaaGreat
open Go.RowKit
set_option linter.unusedSimpArgs false
set_option linter.unusedVariables false
theorem lenOf {w0 w : World} {gl gd gm : Nat} {lv : Value} {rl : List Rec} (h : LC w0 w gl gd gm lv rl) {n : Nat} (hn : rl.length = n) : Calls Tryz.prog 30 #[.pointer (some ⟨gl, 0, none⟩)] w fun e w' => e = .returned (.int .i64 (n : Int)) ∧ w = w' := by
  subst hn
  exact ledLen_any h
noncomputable def regO22 : Code := regIn 22 Tryz.f4.body
noncomputable def restO22 : Code := restIn 22 Tryz.f4.body
set_option maxRecDepth 100000 in
set_option maxHeartbeats 8000000 in
theorem lo22 {w W : World} {gd gl gr gk : Nat} {rl : List Rec} {s : DS} {x0 x1 x2 x3 x4 x5 x6 x7 x8 x12 x13 x14 x15 x16 x17 x18 x19 x20 x21 x22 x23 x24 x25 x26 x27 x28 x29 x30 x31 x32 x33 x34 x35 x36 x37 x38 x39 x40 x41 x42 x43 x44 x45 x46 x47 x48 x49 x50 x51 x52 x53 x54 x55 x56 x57 x58 x59 x60 x61 x62 x63 x64 x65 x66 x67 x68 x69 x70 x71 x72 x73 x74 x75 x76 x77 x78 x79 x80 x81 x82 x83 x84 x85 x86 x87 x88 x89 x90 x91 x92 x93 x94 x95 x96 x97 x98 x99 x100 x101 x102 x103 x104 x105 x106 x107 x108 x109 x110 x111 x112 x113 x114 x115 x116 x117 x118 x119 x120 x121 x122 x123 x124 x125 x126 x127 x128 x129 x130 x131 x132 x133 x134 x135 x136 x137 x138 x139 x140 x141 x142 x143 x144 : Value} {Q : Exit → Act → World → Prop} (hB : L2 w W [] W gd gl gr gk rl s rl s) (hZ : LOk s rl) (hag : lOpen (dMark s) = (rl, dMark s))
    (hQ : ∀ (y0 y1 y2 y3 y4 y5 y7 y8 y9 y10 y11 y12 y13 y14 y15 y16 y17 y18 y19 y20 y21 y22 y23 y24 y25 y26 y27 y28 y29 y30 y31 y32 y33 y34 y35 y36 y37 y38 y39 y40 y41 y42 y43 y44 y45 y46 y47 y48 y49 y50 y51 y52 y53 y54 y55 y56 y57 y58 y59 y60 y61 y62 y63 y64 y65 y66 y67 y68 y69 y70 y71 y72 y73 y74 y75 y76 y77 y78 y79 y80 y81 y82 y83 y84 y85 y86 y87 y88 y89 y90 y91 y92 y93 y94 y95 y96 y97 y98 y99 y100 y101 y102 y103 y104 y105 y106 y107 y108 y109 y110 y111 y112 y113 y114 y115 y116 y117 y118 y119 y120 y121 y122 y123 y124 y125 y126 y127 y128 y129 y130 y131 y132 y133 y134 y135 y136 y137 y138 y139 y140 y141 y142 y143 y144 : Value)  (w' : World), Upd [] w w' → Q .ret ⟨#[y0, y1, y2, y3, y4, y5, .bool true, y7, y8, y9, y10, y11, y12, y13, y14, y15, y16, y17, y18, y19, y20, y21, y22, y23, y24, y25, y26, y27, y28, y29, y30, y31, y32, y33, y34, y35, y36, y37, y38, y39, y40, y41, y42, y43, y44, y45, y46, y47, y48, y49, y50, y51, y52, y53, y54, y55, y56, y57, y58, y59, y60, y61, y62, y63, y64, y65, y66, y67, y68, y69, y70, y71, y72, y73, y74, y75, y76, y77, y78, y79, y80, y81, y82, y83, y84, y85, y86, y87, y88, y89, y90, y91, y92, y93, y94, y95, y96, y97, y98, y99, y100, y101, y102, y103, y104, y105, y106, y107, y108, y109, y110, y111, y112, y113, y114, y115, y116, y117, y118, y119, y120, y121, y122, y123, y124, y125, y126, y127, y128, y129, y130, y131, y132, y133, y134, y135, y136, y137, y138, y139, y140, y141, y142, y143, y144], []⟩ w') {K : Act → World → Prop} (hK : ∀ a w, Code.wp Tryz.prog restO22 Q a w → K a w) : Code.wp Tryz.prog regO22 (Exit.then K Q) ⟨#[x0, x1, x2, x3, x4, x5, x6, x7, x8, .pointer (some ⟨gd, 0, none⟩), .pointer (some ⟨gr, 0, none⟩), .pointer (some ⟨gl, 0, none⟩), x12, x13, x14, x15, x16, x17, x18, x19, x20, x21, x22, x23, x24, x25, x26, x27, x28, x29, x30, x31, x32, x33, x34, x35, x36, x37, x38, x39, x40, x41, x42, x43, x44, x45, x46, x47, x48, x49, x50, x51, x52, x53, x54, x55, x56, x57, x58, x59, x60, x61, x62, x63, x64, x65, x66, x67, x68, x69, x70, x71, x72, x73, x74, x75, x76, x77, x78, x79, x80, x81, x82, x83, x84, x85, x86, x87, x88, x89, x90, x91, x92, x93, x94, x95, x96, x97, x98, x99, x100, x101, x102, x103, x104, x105, x106, x107, x108, x109, x110, x111, x112, x113, x114, x115, x116, x117, x118, x119, x120, x121, x122, x123, x124, x125, x126, x127, x128, x129, x130, x131, x132, x133, x134, x135, x136, x137, x138, x139, x140, x141, x142, x143, x144], []⟩ W := by
  conv => arg 2; whnf
  change ∀ a w, Code.wp _ (Code.seq _ _) Q a w → K a w at hK
  have HQ := Lib.hid hQ
  clear hQ
  have HB := Lib.hid hB
  have HZ := Lib.hid hZ.z
  have HZM : Hid ((dMark s).now.length ≤ 4999 ∧ (dMark s).log.length ≤ 500000000 ∧ (dMark s).mark.length ≤ 100000 ∧ rl.length ≤ 100000000) := by have := hZ.z; exact ⟨this.1, Nat.zero_le _, by show s.now.length ≤ _; omega, this.2.2.2⟩
  have HAG := Lib.hid hag
  obtain ⟨bb, okb, hbb⟩ : ∃ b ok, dGet s.now nmL = (b, ok) := ⟨_, _, rfl⟩
  have HBB := Lib.hid hbb
  obtain ⟨nn, hnn⟩ : ∃ nn, rl.length = nn := ⟨_, rfl⟩
  have HNN := Lib.hid hnn
  have HL0 : Hid ((dMark s).log.length = 0) := rfl
  clear hB hZ hag hbb hnn
  go_wp2_with fail
  (with_reducible refine (l3Read (L3.of HB.out bb) nmL HZ.out HBB.out).mono ?_)
  rintro e w5 ⟨a5, k5, rfl, h5⟩
  have H5 := Lib.hid h5
  clear h5
  go_wp2_with fail
  (with_reducible refine (l3ReadR H5.out nmL HZ.out HBB.out).mono ?_)
  rintro e w6 ⟨a6, k6, rfl, h6⟩
  have H6 := Lib.hid h6
  clear h6 H5
  go_wp2_with fail
  (with_reducible refine (l3Mark H6.out HZ.out).mono ?_)
  rintro e w7 ⟨rfl, h7⟩
  have H7 := Lib.hid h7
  clear h7 H6
  go_wp2_with fail
  (with_reducible refine (l3OpenKeep H7.out HZM.out HAG.out).mono ?_)
  rintro e w8 ⟨gh, rfl, h8, gm, lv, hlc⟩
  have H8 := Lib.hid h8
  have HLC := Lib.hid hlc
  have HR1 := Lib.hid (h8.bytes (v := .slice a5 bb.length k5) (by simp))
  have HR2 := Lib.hid (h8.bytes (v := .slice a6 bb.length k6) (by simp))
  clear h8 hlc H7
  go_wp2_with fail
  (with_reducible refine (same_by HR1.out HR2.out).mono ?_)
  rintro e w9 ⟨rfl, hu9⟩
  have H9 := Lib.hid (H8.out.upd0 hu9).two
  have HLC9 := Lib.hid (HLC.out.upd0 hu9)
  clear hu9 H8 HLC HR1 HR2
  go_wp2_with fail
  (with_reducible refine (l2Count H9.out HL0.out).mono ?_)
  rintro e w' ⟨rfl, rfl⟩
  go_wp2_with fail
  (with_reducible refine (l2Len H9.out HNN.out).mono ?_)
  rintro e w' ⟨rfl, rfl⟩
  go_wp2_with fail
  (with_reducible refine (lenOf HLC9.out HNN.out).mono ?_)
  rintro e w' ⟨rfl, rfl⟩
  have x1 : ((nn : Int) == (nn : Int)) = true := by simp
  have HO := Lib.hid H9.out.old
  clear H9 HLC9
  go_wp2_with fail
  (with_reducible refine (ledgerRuns_any _).mono ?_)
  rintro e w10 ⟨rfl, hu10⟩
  have HO2 := Lib.hid (HO.out.seq hu10)
  clear hu10
  go_wp2_with fail
  exact HQ.out _ _ _ _ _ _ _ _ _ _ _ _ _ _ _ _ _ _ _ _ _ _ _ _ _ _ _ _ _ _ _ _ _ _ _ _ _ _ _ _ _ _ _ _ _ _ _ _ _ _ _ _ _ _ _ _ _ _ _ _ _ _ _ _ _ _ _ _ _ _ _ _ _ _ _ _ _ _ _ _ _ _ _ _ _ _ _ _ _ _ _ _ _ _ _ _ _ _ _ _ _ _ _ _ _ _ _ _ _ _ _ _ _ _ _ _ _ _ _ _ _ _ _ _ _ _ _ _ _ _ _ _ _ _ _ _ _ _ _ _ _ _ _ _ _ HO2.out
end Go.Proofs.YtmhojaiajhdlcaaGreat
namespace Go.Proofs.YtmhojaiajhdlcaaGreat
open Go.RowKit
set_option linter.unusedSimpArgs false
set_option linter.unusedVariables false
theorem ledOpen_s {w0 w : World} {gd : Nat} {G : List Nat} {rl' : List Rec} {s s' : DS} (h : DD w0 w gd G s) (hz : s.now.length ≤ 4999 ∧ s.log.length ≤ 500000000 ∧ s.mark.length ≤ 100000 ∧ ([] : List Rec).length ≤ 100000000) (he : lOpen s = (rl', s')) :
    Calls Tryz.prog 23 #[.pointer (some ⟨gd, 0, none⟩)] w fun e w' => ∃ gl, e = .returned (.tuple #[.pointer (some ⟨gl, 0, none⟩), .int .i64 0]) ∧ LOut w0 w gd gl G rl' s' w' := by
  have := ledOpen_any h (by omega) (by omega)
  rw [he] at this
  exact this
theorem rfOpen_s {w0 w : World} {gr : Nat} {G : List Nat} {rl' : List Rec} {s s' : DS} (h : RD w0 w gr G s) (hz : s.now.length ≤ 4999 ∧ s.log.length ≤ 500000000 ∧ s.mark.length ≤ 100000 ∧ ([] : List Rec).length ≤ 100000000) (he : lOpen s = (rl', s')) :
    Calls Tryz.prog 24 #[.pointer (some ⟨gr, 0, none⟩)] w fun e w' => ∃ gk, e = .returned (.pointer (some ⟨gk, 0, none⟩)) ∧ RKOut w0 w gr gk G rl' s' w' := by
  have := rfOpen_any h (by omega) (by omega)
  rw [he] at this
  exact this
noncomputable def regO18 : Code := regIn 18 Tryz.f4.body
noncomputable def restO18 : Code := restIn 18 Tryz.f4.body
set_option maxRecDepth 100000 in
set_option maxHeartbeats 8000000 in
theorem lo18 {w W : World} {gd gr : Nat} {s : DS} {G1 G2 : List Nat} {x0 x1 x2 x3 x4 x5 x6 x7 x8 x11 x12 x13 x14 x15 x16 x17 x18 x19 x20 x21 x22 x23 x24 x25 x26 x27 x28 x29 x30 x31 x32 x33 x34 x35 x36 x37 x38 x39 x40 x41 x42 x43 x44 x45 x46 x47 x48 x49 x50 x51 x52 x53 x54 x55 x56 x57 x58 x59 x60 x61 x62 x63 x64 x65 x66 x67 x68 x69 x70 x71 x72 x73 x74 x75 x76 x77 x78 x79 x80 x81 x82 x83 x84 x85 x86 x87 x88 x89 x90 x91 x92 x93 x94 x95 x96 x97 x98 x99 x100 x101 x102 x103 x104 x105 x106 x107 x108 x109 x110 x111 x112 x113 x114 x115 x116 x117 x118 x119 x120 x121 x122 x123 x124 x125 x126 x127 x128 x129 x130 x131 x132 x133 x134 x135 x136 x137 x138 x139 x140 x141 x142 x143 x144 : Value} {Q : Exit → Act → World → Prop} (hD : DD w W gd G1 s) (hR : RD w W gr G2 s) (hA : Ap G1 G2) (hZ : LOk s []) (h9 : s.now.length ≤ 9 ∧ s.log.length ≤ 1000)
    (hQ : ∀ (y0 y1 y2 y3 y4 y5 y7 y8 y9 y10 y11 y12 y13 y14 y15 y16 y17 y18 y19 y20 y21 y22 y23 y24 y25 y26 y27 y28 y29 y30 y31 y32 y33 y34 y35 y36 y37 y38 y39 y40 y41 y42 y43 y44 y45 y46 y47 y48 y49 y50 y51 y52 y53 y54 y55 y56 y57 y58 y59 y60 y61 y62 y63 y64 y65 y66 y67 y68 y69 y70 y71 y72 y73 y74 y75 y76 y77 y78 y79 y80 y81 y82 y83 y84 y85 y86 y87 y88 y89 y90 y91 y92 y93 y94 y95 y96 y97 y98 y99 y100 y101 y102 y103 y104 y105 y106 y107 y108 y109 y110 y111 y112 y113 y114 y115 y116 y117 y118 y119 y120 y121 y122 y123 y124 y125 y126 y127 y128 y129 y130 y131 y132 y133 y134 y135 y136 y137 y138 y139 y140 y141 y142 y143 y144 : Value)  (w' : World), Upd [] w w' → Q .ret ⟨#[y0, y1, y2, y3, y4, y5, .bool true, y7, y8, y9, y10, y11, y12, y13, y14, y15, y16, y17, y18, y19, y20, y21, y22, y23, y24, y25, y26, y27, y28, y29, y30, y31, y32, y33, y34, y35, y36, y37, y38, y39, y40, y41, y42, y43, y44, y45, y46, y47, y48, y49, y50, y51, y52, y53, y54, y55, y56, y57, y58, y59, y60, y61, y62, y63, y64, y65, y66, y67, y68, y69, y70, y71, y72, y73, y74, y75, y76, y77, y78, y79, y80, y81, y82, y83, y84, y85, y86, y87, y88, y89, y90, y91, y92, y93, y94, y95, y96, y97, y98, y99, y100, y101, y102, y103, y104, y105, y106, y107, y108, y109, y110, y111, y112, y113, y114, y115, y116, y117, y118, y119, y120, y121, y122, y123, y124, y125, y126, y127, y128, y129, y130, y131, y132, y133, y134, y135, y136, y137, y138, y139, y140, y141, y142, y143, y144], []⟩ w') {K : Act → World → Prop} (hK : ∀ a w, Code.wp Tryz.prog restO18 Q a w → K a w) : Code.wp Tryz.prog regO18 (Exit.then K Q) ⟨#[x0, x1, x2, x3, x4, x5, x6, x7, x8, .pointer (some ⟨gd, 0, none⟩), .pointer (some ⟨gr, 0, none⟩), x11, x12, x13, x14, x15, x16, x17, x18, x19, x20, x21, x22, x23, x24, x25, x26, x27, x28, x29, x30, x31, x32, x33, x34, x35, x36, x37, x38, x39, x40, x41, x42, x43, x44, x45, x46, x47, x48, x49, x50, x51, x52, x53, x54, x55, x56, x57, x58, x59, x60, x61, x62, x63, x64, x65, x66, x67, x68, x69, x70, x71, x72, x73, x74, x75, x76, x77, x78, x79, x80, x81, x82, x83, x84, x85, x86, x87, x88, x89, x90, x91, x92, x93, x94, x95, x96, x97, x98, x99, x100, x101, x102, x103, x104, x105, x106, x107, x108, x109, x110, x111, x112, x113, x114, x115, x116, x117, x118, x119, x120, x121, x122, x123, x124, x125, x126, x127, x128, x129, x130, x131, x132, x133, x134, x135, x136, x137, x138, x139, x140, x141, x142, x143, x144], []⟩ W := by
  conv => arg 2; whnf
  change ∀ a w, Code.wp _ (Code.seq _ _) Q a w → K a w at hK
  have HQ := Lib.hid hQ
  clear hQ
  obtain ⟨rl, s3, hop⟩ : ∃ rl s3, lOpen s = (rl, s3) := ⟨_, _, rfl⟩
  have HOP := Lib.hid hop
  have HZ3 : Hid (LOk s3 rl) := by have := lok_open hZ h9; rw [hop] at this; exact this
  have HAG : Hid (lOpen (dMark s3) = (rl, dMark s3)) := by have := lOpen_again hZ.ok; rw [hop] at this; exact this
  have HD := Lib.hid hD
  have HR := Lib.hid hR
  have HA := Lib.hid hA
  have HZ := Lib.hid hZ.z
  clear hD hR hA hZ hop h9
  go_wp2_with fail
  (with_reducible refine (ledOpen_s HD.out HZ.out HOP.out).mono ?_)
  rintro e w3 ⟨gl, rfl, ho⟩
  obtain ⟨F3, G3, k1, k2, k3, k4⟩ := (show ∃ F' G', _ from ho)
  have HR3 : Hid (RD w w3 gr G2 s) := HR.out.upd k2 (fun x hx hs => HA.out x hs hx) (fun x hx => (HD.out.ge x hx).1)
  have HL3 : Hid (LD w w3 gd gl F3 G3 rl s3) := k1
  have HA3 : Hid (Ap (F3 ++ G3) G2) := by
    refine ap_grow HA.out (n := W.heap.size) (fun x hx => ?_) (fun y hy => (HR.out.ge y hy).2)
    rcases List.mem_append.1 hx with q | q
    · exact k3 x q
    · exact k4 x q
  clear ho k1 k2 k3 k4 HR HA HD
  go_wp2_with fail
  (with_reducible refine (rfOpen_s HR3.out HZ.out HOP.out).mono ?_)
  rintro e w4 ⟨gk, rfl, ho⟩
  obtain ⟨F4, G4, k1, k2, k3, k4⟩ := (show ∃ F' G', _ from ho)
  have HLP : Hid (L2 w w4 [] w4 gd gl gr gk rl s3 rl s3) := by
    refine ⟨F3, G3, F4, G4, HL3.out.upd k2 (fun x hx hs => HA3.out x (List.mem_append.2 (.inl hx)) hs) (fun x hx hs => HA3.out x (List.mem_append.2 (.inr hx)) hs) (fun x hx => (HR3.out.ge x hx).1), k1, ?_, Nat.le_refl _, by simp, by simp, by simp, by simp⟩
    refine ap_sym (ap_grow (ap_sym HA3.out) (n := w3.heap.size) (fun x hx => ?_) (fun y hy => ?_))
    · rcases List.mem_append.1 hx with q | q
      · exact k3 x q
      · exact k4 x q
    · rcases List.mem_append.1 hy with q | q
      · exact (HL3.out.geF y q).2
      · exact (HL3.out.dd.ge y q).2
  clear ho k1 k2 k3 k4 HR3 HL3 HA3
  obtain ⟨ra, rk, gc1, hrr, hrk, hrk2⟩ := HLP.out.rows
  obtain ⟨oa, oc, gc2, hoc, hoc2⟩ := HLP.out.ops
  have HRR := Lib.hid hrr
  obtain ⟨cc, hcc⟩ : ∃ cc, s3.log.length = cc := ⟨_, rfl⟩
  rw [hcc] at gc2 hoc
  have HCC := Lib.hid hcc
  have HLN : Hid (rl.length ≤ 100000000) := HZ3.out.z.2.2.2
  have HC1' : Hid (∀ V, Upd [] w4 V → Calls Tryz.prog 26 #[.pointer (some ⟨gl, 0, none⟩), .int .i64 0] V fun e w' => ∃ a q k, e = .returned (.slice a q k) ∧ Hid (RdN 15 recCells w' (.slice a q k) rl) ∧ Upd [] w4 w') := fun V hV => by
    refine (l2List (HLP.out.upd0 hV) 0 0 (Nat.zero_le _) (.inr (.inl rfl)) HLN.out (List.drop_zero)).mono ?_
    rintro e w' ⟨a, q, k, rfl, h, hu⟩
    exact ⟨a, q, k, rfl, h, hV.seq hu⟩
  have HC2' : Hid (∀ V a q k, RdN 15 recCells V (.slice a q k) rl → Upd [] w4 V → Calls Tryz.prog 25 #[.slice a q k, .slice ra rl.length rk] V fun e w' => e = .returned (.bool true) ∧ Upd [] w4 w') := fun V a q k h hV => by
    refine (l2Same a q k _ h (HRR.out.upd0 recCells_len hV)).mono ?_
    rintro e w' ⟨rfl, hu⟩
    exact ⟨rfl, hV.seq hu⟩
  have HC3' : Hid (∀ V, Upd [] w4 V → Calls Tryz.prog 27 #[.pointer (some ⟨gd, 0, none⟩)] V fun e w' => e = .returned (.int .i64 (cc : Int)) ∧ Upd [] w4 w') := fun V hV => by
    refine (l2Count (HLP.out.upd0 hV) HCC.out).mono ?_
    rintro e w' ⟨rfl, rfl⟩
    exact ⟨rfl, hV⟩
  have ru := Upd.refl [] w4
  have HG1 := Lib.hid gc1
  have HG2 := Lib.hid gc2
  have x2 : ((cc : Int) != (cc : Int)) = false := by simp
  clear hrr hcc
  go_wp2_with fail
  go_region_held3 (fun w' => w'.cell? ⟨gk, 1, none⟩ = some (.slice ra rl.length rk) ∧ w'.cell? ⟨gr, 2, none⟩ = some (.slice oa cc oc)) (first | go_keep | exact ⟨ru.cell HG1.out (by simp), ru.cell HG2.out (by simp)⟩)
    (first
      | (go_at_call 26; (with_reducible refine (HC1'.out _ (Upd.seq ru ?_)).mono ?_); (repeat (first | exact Upd.refl _ _ | apply Upd.drew | apply Upd.drewN | apply Upd.alloc)); (rintro _ W1 ⟨a5, n5, k5, rfl, hr5, ru⟩; dsimp only))
      | (go_at_call 25; (with_reducible refine (HC2'.out _ a5 n5 k5 (RdN.upd0 recCells_len hr5.out ?_) (Upd.seq ru ?_)).mono ?_); (repeat (first | exact Upd.refl _ _ | apply Upd.drew | apply Upd.drewN | apply Upd.alloc)); (rintro _ W2 ⟨rfl, ru⟩; dsimp only))
      | (go_at_call 27; (with_reducible refine (HC3'.out _ (Upd.seq ru ?_)).mono ?_); (repeat (first | exact Upd.refl _ _ | apply Upd.drew | apply Upd.drewN | apply Upd.alloc)); (rintro _ W3 ⟨rfl, ru⟩; dsimp only)))
  all_goals
    have HF : Hid (L2 w W3 [] W3 gd gl gr gk rl s3 rl s3) := (HLP.out.upd0 ru).free
    clear ru HC1' HC2' HC3' gc1 gc2
    go_upto_region 22 with fail
    exact lo22 HF.out HZ3.out HAG.out HQ.out (by assumption)
end Go.Proofs.YtmhojaiajhdlcaaGreat
namespace Go.Proofs.YtmhojaiajhdlcaaGreat
open Go.RowKit
set_option linter.unusedSimpArgs false
set_option linter.unusedVariables false
noncomputable def regO9 : Code := regIn 9 Tryz.f4.body
noncomputable def restO9 : Code := restIn 9 Tryz.f4.body
set_option maxRecDepth 100000 in
set_option maxHeartbeats 8000000 in
theorem lo9 {w W : World} {b wl : List UInt8} {cut : Int} {b1 wa : Option Addr} {bc wk : Nat} {x0 x3 x4 x5 x6 x8 x9 x10 x11 x12 x13 x14 x15 x16 x17 x18 x19 x20 x21 x22 x23 x24 x25 x26 x27 x28 x29 x30 x31 x32 x33 x34 x35 x36 x37 x38 x39 x40 x41 x42 x43 x44 x45 x46 x47 x48 x49 x50 x51 x52 x53 x54 x55 x56 x57 x58 x59 x60 x61 x62 x63 x64 x65 x66 x67 x68 x69 x70 x71 x72 x73 x74 x75 x76 x77 x78 x79 x80 x81 x82 x83 x84 x85 x86 x87 x88 x89 x90 x91 x92 x93 x94 x95 x96 x97 x98 x99 x100 x101 x102 x103 x104 x105 x106 x107 x108 x109 x110 x111 x112 x113 x114 x115 x116 x117 x118 x119 x120 x121 x122 x123 x124 x125 x126 x127 x128 x129 x130 x131 x132 x133 x134 x135 x136 x137 x138 x139 x140 x141 x142 x143 x144 : Value} {Q : Exit → Act → World → Prop} (hb : Bytes W (.slice b1 b.length bc) b) (hbl : b.length ≤ 500) (hI : -9223372036854775808 ≤ cut ∧ cut ≤ 9223372036854775807) (hO : Own bv w.heap.size 5 W (.slice wa wl.length wk) wl) (hwl : wl.length ≤ 3500) (hU : Upd [] w W)
    (hQ : ∀ (y0 y1 y2 y3 y4 y5 y7 y8 y9 y10 y11 y12 y13 y14 y15 y16 y17 y18 y19 y20 y21 y22 y23 y24 y25 y26 y27 y28 y29 y30 y31 y32 y33 y34 y35 y36 y37 y38 y39 y40 y41 y42 y43 y44 y45 y46 y47 y48 y49 y50 y51 y52 y53 y54 y55 y56 y57 y58 y59 y60 y61 y62 y63 y64 y65 y66 y67 y68 y69 y70 y71 y72 y73 y74 y75 y76 y77 y78 y79 y80 y81 y82 y83 y84 y85 y86 y87 y88 y89 y90 y91 y92 y93 y94 y95 y96 y97 y98 y99 y100 y101 y102 y103 y104 y105 y106 y107 y108 y109 y110 y111 y112 y113 y114 y115 y116 y117 y118 y119 y120 y121 y122 y123 y124 y125 y126 y127 y128 y129 y130 y131 y132 y133 y134 y135 y136 y137 y138 y139 y140 y141 y142 y143 y144 : Value)  (w' : World), Upd [] w w' → Q .ret ⟨#[y0, y1, y2, y3, y4, y5, .bool true, y7, y8, y9, y10, y11, y12, y13, y14, y15, y16, y17, y18, y19, y20, y21, y22, y23, y24, y25, y26, y27, y28, y29, y30, y31, y32, y33, y34, y35, y36, y37, y38, y39, y40, y41, y42, y43, y44, y45, y46, y47, y48, y49, y50, y51, y52, y53, y54, y55, y56, y57, y58, y59, y60, y61, y62, y63, y64, y65, y66, y67, y68, y69, y70, y71, y72, y73, y74, y75, y76, y77, y78, y79, y80, y81, y82, y83, y84, y85, y86, y87, y88, y89, y90, y91, y92, y93, y94, y95, y96, y97, y98, y99, y100, y101, y102, y103, y104, y105, y106, y107, y108, y109, y110, y111, y112, y113, y114, y115, y116, y117, y118, y119, y120, y121, y122, y123, y124, y125, y126, y127, y128, y129, y130, y131, y132, y133, y134, y135, y136, y137, y138, y139, y140, y141, y142, y143, y144], []⟩ w') {K : Act → World → Prop} (hK : ∀ a w, Code.wp Tryz.prog restO9 Q a w → K a w) : Code.wp Tryz.prog regO9 (Exit.then K Q) ⟨#[x0, .slice b1 b.length bc, .int .i64 cut, x3, x4, x5, x6, .slice wa wl.length wk, x8, x9, x10, x11, x12, x13, x14, x15, x16, x17, x18, x19, x20, x21, x22, x23, x24, x25, x26, x27, x28, x29, x30, x31, x32, x33, x34, x35, x36, x37, x38, x39, x40, x41, x42, x43, x44, x45, x46, x47, x48, x49, x50, x51, x52, x53, x54, x55, x56, x57, x58, x59, x60, x61, x62, x63, x64, x65, x66, x67, x68, x69, x70, x71, x72, x73, x74, x75, x76, x77, x78, x79, x80, x81, x82, x83, x84, x85, x86, x87, x88, x89, x90, x91, x92, x93, x94, x95, x96, x97, x98, x99, x100, x101, x102, x103, x104, x105, x106, x107, x108, x109, x110, x111, x112, x113, x114, x115, x116, x117, x118, x119, x120, x121, x122, x123, x124, x125, x126, x127, x128, x129, x130, x131, x132, x133, x134, x135, x136, x137, x138, x139, x140, x141, x142, x143, x144], []⟩ W := by
  conv => arg 2; whnf
  change ∀ a w, Code.wp _ (Code.seq _ _) Q a w → K a w at hK
  have HQ := Lib.hid hQ
  clear hQ
  obtain ⟨n, hn, hnl⟩ := within_b cut wl.length
  have HN := Lib.hid hn
  have HNL := Lib.hid hnl
  obtain ⟨c9, hw1, hw2, hw3⟩ : ∃ c9 : Unit, wl.length ≤ wk ∧ wk ≤ maxLen ∧ True := by
    obtain ⟨a9, k9, he9, q1, q2, -⟩ := hO.rd
    injection he9 with e1 e2 e3
    subst e3
    exact ⟨(), q1, q2, trivial⟩
  have hwk : wk ≤ 9223372036854775807 := by unfold maxLen at hw2; omega
  have HC : Hid (Own bv w.heap.size 5 W (.slice wa n wk) (wl.take n)) := own_cut hO n hnl
  have HBB := Lib.hid hb
  have hcut := fun V => run_cut_h (P := Tryz.prog) (size := 1) Tryz.underlying28 sizeByte wa wl.length wk n (by omega) V
  have HRUN := Lib.hid (fun ty => run_app (P := Tryz.prog) (w := W) (ty := ty) bv_one Tryz.underlying28 infoB8 rfl (.slice wa n wk) (.slice b1 b.length bc) (wl.take n) b HC.out hb (by rw [List.length_take]; omega) (by rw [List.length_take]; unfold maxLen; omega) hU.size)
  have HU := Lib.hid hU
  have HLEN : Hid ((wl.take n ++ b).length ≤ 4000) := by unfold Hid; rw [List.length_append, List.length_take]; omega
  have hwl1 : (wl.length : Int) ≤ 4611686018427387904 := by omega
  have HI := Lib.hid hI
  have HGE : Hid (∀ x ∈ blk (.slice wa n wk), w.heap.size ≤ x) := fun x hx => (HC.out.ge x hx).1
  clear hO hb hn hnl hw2 hw3 hU c9 hI
  go_wp2_with fail
  (with_reducible refine (within_any cut 0 wl.length W HI.out (by omega) (by omega) hwl1).mono ?_)
  rw [HN.out]
  rintro e w1 ⟨rfl, rfl⟩
  go_wp2_with (at_builtin; go_must (refine wpList_app_of rfl _ _ rfl (.slice wa n wk) (.slice b1 b.length bc) rfl rfl (HRUN.out _) ?_; rintro v2 w2 ⟨ho2, hu2, hk2⟩; have HO2 := Lib.hid ho2; have HU2 := Lib.hid hu2; clear ho2 hu2 hk2 HRUN; dsimp only))
  have HP : Hid (Bytes w2 v2 (wl.take n ++ b)) := HO2.out.rd
  have hup2 : Upd [] w w2 := HU.out.trans HU2.out (by simp) (fun x hx => .inr (HGE.out x hx))
  have HUW := Lib.hid hup2
  have HV2 : Hid (∀ x ∈ blk v2, w.heap.size ≤ x ∧ x < w2.heap.size) := HO2.out.ge
  obtain ⟨p, hp⟩ : ∃ p, wl.take n ++ b = p := ⟨_, rfl⟩
  rw [hp] at HP HLEN
  clear hp hup2 HO2 HU2 HC hcut HGE
  obtain ⟨pa, pk, rfl, -⟩ := id HP.out
  go_wp2_with fail
  (with_reducible refine (dNew_any w w2 HUW.out).mono ?_)
  rintro e w3 ⟨gd, G1, rfl, h1, hu1, hf1⟩
  have H1 := Lib.hid h1
  obtain ⟨G2, h2, hf2⟩ := RD.new w w3 (HUW.out.seq hu1)
  have hu3 : Upd [] w3 (w3.alloc (.cells #[.slice none 0 0, .slice none 0 0, .slice none 0 0] 45)) := (Upd.refl [] w3).alloc _
  have HT : Hid (DD w (w3.alloc (.cells #[.slice none 0 0, .slice none 0 0, .slice none 0 0] 45)) gd G1 ⟨[], [], []⟩) := H1.out.upd0 hu3
  have HR : Hid (RD w (w3.alloc (.cells #[.slice none 0 0, .slice none 0 0, .slice none 0 0] 45)) w3.heap.size G2 ⟨[], [], []⟩) := h2
  have HA : Hid (Ap G1 G2) := fun x hx hy => by have := (H1.out.ge x hx).2; have := hf2 x hy; omega
  have HP4 := Lib.hid (HP.out.upd0 (hu1.seq hu3))
  have HA1 : Hid (∀ x ∈ blk (.slice pa p.length pk), x ∉ G1) := fun x hx hg => by have := (HV2.out x hx).2; have := hf1 x hg; omega
  have HA2 : Hid (∀ x ∈ blk (.slice pa p.length pk), x ∉ G2) := fun x hx hg => by have := (HV2.out x hx).2; have := hf2 x hg; have := hu1.size; omega
  have HLT : Hid (∀ x ∈ blk (.slice pa p.length pk), x < (w3.alloc (.cells #[.slice none 0 0, .slice none 0 0, .slice none 0 0] 45)).heap.size) := fun x hx => by have := (HV2.out x hx).2; have := hu1.size; have := hu3.size; omega
  clear h1 hu1 hf1 h2 hf2 H1 hu3 HP HV2
  go_wp2_with fail
  generalize w3.alloc (.cells #[.slice none 0 0, .slice none 0 0, .slice none 0 0] 45) = w4 at *
  generalize w3.heap.size = gr at *
  obtain ⟨r1, s1, hap⟩ : ∃ r s1, dAppend ⟨[], [], []⟩ nmL p = (r, s1) := ⟨_, _, rfl⟩
  have HAP := Lib.hid hap
  have HLO : Hid (LOk (dMark s1) []) := by have := lok_append p HLEN.out; rw [hap] at this; exact this
  have HG9 : Hid (s1.now.length ≤ 9) := by have := (grows_append DOk.zero nmL p (by simp)).now; rw [hap] at this; simp at this; unfold Hid; omega
  clear hap
  (with_reducible refine (dAppend_any nmL (.slice pa p.length pk) p HP4.out (fun _ => HA1.out) HT.out (by have := HLEN.out; omega) (by simp) (by simp)).mono ?_)
  rw [HAP.out]
  rintro e w5 ⟨rfl, G3, k1, k2, k3⟩
  have HT5 : Hid (DD w w5 gd G3 s1) := k1
  have HR5 : Hid (RD w w5 gr G2 ⟨[], [], []⟩) := HR.out.upd k2 (fun x hx hs => HA.out x hs hx) (fun x hx => (HT.out.ge x hx).1)
  have HA5 : Hid (Ap G3 G2) := ap_grow HA.out k3 (fun y hy => (HR.out.ge y hy).2)
  have HP5 := Lib.hid (HP4.out.upd k2 (fun x hx hs => HA1.out x hx hs))
  have HS5 : Hid (∀ x ∈ blk (.slice pa p.length pk), x ∉ G3) := fun x hx hg => by
    rcases k3 x hg with q | q
    · exact HA1.out x hx q
    · have := HLT.out x hx; omega
  clear k1 k2 k3 HT HR HA HP4 HA1
  dsimp only
  go_wp2_with fail
  (with_reducible refine (rAppend_any nmL (.slice pa p.length pk) p HP5.out (fun _ => HA2.out) HR5.out (by have := HLEN.out; omega) (by simp) (by simp)).mono ?_)
  rw [HAP.out]
  rintro e w6 ⟨rfl, G4, k1, k2, k3⟩
  have HR6 : Hid (RD w w6 gr G4 s1) := k1
  have HT6 : Hid (DD w w6 gd G3 s1) := HT5.out.upd k2 (fun x hx hs => HA5.out x hx hs) (fun x hx => (HR5.out.ge x hx).1)
  have HA6 : Hid (Ap G3 G4) := ap_sym (ap_grow (ap_sym HA5.out) k3 (fun y hy => (HT5.out.ge y hy).2))
  clear k1 k2 k3 HT5 HR5 HA5 HP5 HA2 HS5 HLT
  dsimp only
  go_wp2_with fail
  (with_reducible refine (dMark_any HT6.out (by have := HG9.out; omega)).mono ?_)
  rintro e w7 ⟨rfl, G5, k1, k2, k3⟩
  have HT7 : Hid (DD w w7 gd G5 (dMark s1)) := k1
  have HR7 : Hid (RD w w7 gr G4 s1) := HR6.out.upd k2 (fun x hx hs => HA6.out x hs hx) (fun x hx => (HT6.out.ge x hx).1)
  have HA7 : Hid (Ap G5 G4) := ap_grow HA6.out k3 (fun y hy => (HR6.out.ge y hy).2)
  clear k1 k2 k3 HT6 HR6 HA6
  go_wp2_with fail
  (with_reducible refine (rSetMark_any HR7.out).mono ?_)
  rintro e w8 ⟨rfl, G6, k1, k2, k3⟩
  have HR8 : Hid (RD w w8 gr G6 (dMark s1)) := k1
  have HT8 : Hid (DD w w8 gd G5 (dMark s1)) := HT7.out.upd k2 (fun x hx hs => HA7.out x hx hs) (fun x hx => (HR7.out.ge x hx).1)
  have HA8 : Hid (Ap G5 G6) := ap_sym (ap_grow (ap_sym HA7.out) k3 (fun y hy => (HT7.out.ge y hy).2))
  clear k1 k2 k3 HT7 HR7 HA7
  go_upto_region 18 with fail
  exact lo18 HT8.out HR8.out HA8.out HLO.out ⟨HG9.out, Nat.zero_le _⟩ HQ.out (by assumption)
end Go.Proofs.YtmhojaiajhdlcaaGreat
namespace Go.Proofs.YtmhojaiajhdlcaaGreat
open Go.RowKit
set_option linter.unusedSimpArgs false
set_option linter.unusedVariables false
theorem rput_ok {w : World} (ino gen at_ : Int) (rule : ByteArray) (kind c0 c1 c2 c3 c4 c5 c6 c7 c8 c9 : Int) {p : List UInt8} (hok : recOk (mkRec ino gen at_ rule kind c0 c1 c2 c3 c4 c5 c6 c7 c8 c9) = true) (hp : encRec (mkRec ino gen at_ rule kind c0 c1 c2 c3 c4 c5 c6 c7 c8 c9) = p) : Calls Tryz.prog 9 #[.agg #[.int .i64 ino, .int .i64 gen, .int .i64 at_, .string rule, .int .i64 kind, .int .i64 c0, .int .i64 c1, .int .i64 c2, .int .i64 c3, .int .i64 c4, .int .i64 c5, .int .i64 c6, .int .i64 c7, .int .i64 c8, .int .i64 c9]] w fun e w' => ∃ a k, e = .returned (.slice a p.length k) ∧ Hid (Bytes w' (.slice a p.length k) p) ∧ Upd [] w w' := by
  subst hp
  refine (rfPut_c w ino gen at_ rule kind c0 c1 c2 c3 c4 c5 c6 c7 c8 c9 hok).mono ?_
  rintro e w' ⟨v, rfl, hv, hu⟩
  have hr := hv.rd
  obtain ⟨a, k, rfl, -⟩ := id hr
  exact ⟨a, k, rfl, hr, hu⟩
set_option maxRecDepth 100000 in
set_option maxHeartbeats 8000000 in
theorem ledgerOpens_any (w : World) (vl : Value) (l : List Rec) (hl : RdN 15 recCells w vl l) (vb : Value) (b : List UInt8) (hb : Bytes w vb b) (hz : b.length ≤ 140737488351232) (cut : Int) (hc : I64 cut) :
    Calls Tryz.prog 4 #[vl, vb, .int .i64 cut] w fun e w' => e = .returned (.bool true) ∧ Upd [] w w' := by
  obtain ⟨a1, cap1, rfl, hlc1, hcm1, hcell1⟩ := hl
  have hm1 : l.length ≤ 9223372036854775807 := by unfold maxLen at hcm1; omega
  have HC1 := Lib.hid hcell1
  have HB := Lib.hid hb
  obtain ⟨b1, bc, rfl, -⟩ := hb
  have HI : Hid (-9223372036854775808 ≤ cut ∧ cut ≤ 9223372036854775807) := hc
  clear hlc1 hcm1 hcell1 hc
  by_cases hbig : 500 < b.length
  · have t6 : (500 : Int) < b.length := by omega
    go_enter Tryz.func4, Tryz.ntmps4
    go_wp2_with fail
    (with_reducible refine (ledgerRuns_any _).mono ?_)
    rintro e w15 ⟨rfl, hu15⟩
    have HU := Lib.hid hu15
    clear hu15
    go_wp2_with fail
    go_ret
    exact ⟨rfl, HU.out⟩
  · have t6 : ¬ (500 : Int) < b.length := by omega
    have HBL : Hid (b.length ≤ 500) := by unfold Hid; omega
    clear hbig
    go_enter Tryz.func4, Tryz.ntmps4
    go_wp2_with fail
    go_loopw [7, 8] (fun vw vi wr => ∃ (k : Nat) (wl : List UInt8) (wa : Option Addr) (wk : Nat), k ≤ 12 ∧ k ≤ l.length ∧ vw = .slice wa wl.length wk ∧ vi = .int .i64 k ∧ Hid (Own bv w.heap.size 5 wr (.slice wa wl.length wk) wl) ∧ Hid (wl.length ≤ 250 * k) ∧ Hid (Upd [] w wr)) (fun vw vi _ => 12 - (intOf vi).toNat)
    case atStart => exact ⟨0, [], none, 0, by omega, by omega, rfl, rfl, World.ownsRow_nil _ _ _ _, by simp [Hid], Upd.refl _ _⟩
    case round =>
      obtain ⟨k, wl, wa, wk, hk, hkl, rfl, rfl, ho, hwl, hu⟩ := hrel
      have hend : (k < l.length ∧ k < 12) ∨ (k = l.length ∧ Hid (k ≤ 12)) ∨ (k = 12 ∧ k < l.length) := by unfold Hid; omega
      rcases hend with ⟨hlt, h40⟩ | hend
      · obtain ⟨lb, loff, rfl, hca⟩ := HC1.out (by intro h; simp [h] at hlt)
        have q1 : (k : Int) < l.length := by omega
        have q2 : (k : Int) < 12 := by omega
        have q3 : (0 : Int) ≤ k := by omega
        have hcb : ∀ i, i < 15 → w.cell? ⟨lb, loff + (k * 15 + i), none⟩ = (recCells (nth l k))[i]? := hca k hlt
        generalize nth l k = x at hcb
        obtain ⟨ino, gen, at_, rule, kind, c0, c1, c2, c3, c4, c5, c6, c7, c8, c9, rfl⟩ := rec_mk x
        have hold := hu.out
        have hca : ∀ (V : World), Upd [] w V → ∀ i, i < 15 → V.cell? ⟨lb, loff + (k * 15 + i), none⟩ = (recCells (mkRec ino gen at_ rule kind c0 c1 c2 c3 c4 c5 c6 c7 c8 c9))[i]? := fun V hV i hi => by
          have h1 := hcb i hi
          have h2 : i < (recCells (mkRec ino gen at_ rule kind c0 c1 c2 c3 c4 c5 c6 c7 c8 c9)).length := by rw [recCells_len]; exact hi
          rw [List.getElem?_eq_getElem h2] at h1 ⊢
          exact hV.cell h1 (by simp)
        have HCA := Lib.hid hca
        replace hca := hca wr hold
        have d0 : wr.cell? ⟨lb, loff + k * 15, none⟩ = some (.int .i64 ino) := hca 0 (by omega)
        have d1 : wr.cell? ⟨lb, loff + k * 15 + 1, none⟩ = some (.int .i64 gen) := hca 1 (by omega)
        have d2 : wr.cell? ⟨lb, loff + k * 15 + 2, none⟩ = some (.int .i64 at_) := hca 2 (by omega)
        have d3 : wr.cell? ⟨lb, loff + k * 15 + 3, none⟩ = some (.string rule) := hca 3 (by omega)
        have d4 : wr.cell? ⟨lb, loff + k * 15 + 4, none⟩ = some (.int .i64 kind) := hca 4 (by omega)
        have d5 : wr.cell? ⟨lb, loff + k * 15 + 5, none⟩ = some (.int .i64 c0) := hca 5 (by omega)
        have d6 : wr.cell? ⟨lb, loff + k * 15 + 6, none⟩ = some (.int .i64 c1) := hca 6 (by omega)
        have d7 : wr.cell? ⟨lb, loff + k * 15 + 7, none⟩ = some (.int .i64 c2) := hca 7 (by omega)
        have d8 : wr.cell? ⟨lb, loff + k * 15 + 8, none⟩ = some (.int .i64 c3) := hca 8 (by omega)
        have d9 : wr.cell? ⟨lb, loff + k * 15 + 9, none⟩ = some (.int .i64 c4) := hca 9 (by omega)
        have d10 : wr.cell? ⟨lb, loff + k * 15 + 10, none⟩ = some (.int .i64 c5) := hca 10 (by omega)
        have d11 : wr.cell? ⟨lb, loff + k * 15 + 11, none⟩ = some (.int .i64 c6) := hca 11 (by omega)
        have d12 : wr.cell? ⟨lb, loff + k * 15 + 12, none⟩ = some (.int .i64 c7) := hca 12 (by omega)
        have d13 : wr.cell? ⟨lb, loff + k * 15 + 13, none⟩ = some (.int .i64 c8) := hca 13 (by omega)
        have d14 : wr.cell? ⟨lb, loff + k * 15 + 14, none⟩ = some (.int .i64 c9) := hca 14 (by omega)
        clear hca hcb hold
        obtain ⟨ok, hok⟩ : ∃ ok, recOk (mkRec ino gen at_ rule kind c0 c1 c2 c3 c4 c5 c6 c7 c8 c9) = ok := ⟨_, rfl⟩
        have HOK := Lib.hid hok
        clear hok
        go_wp2_with fail
        (with_reducible refine (rright_ok ino gen at_ rule kind c0 c1 c2 c3 c4 c5 c6 c7 c8 c9 HOK.out).mono ?_)
        rintro e w2 ⟨rfl, hu2⟩
        have HU2 := Lib.hid (hu.out.seq hu2)
        have HO2 := Lib.hid (ho.out.upd hu2 (by simp))
        clear hu2 hu ho d0 d1 d2 d3 d4 d5 d6 d7 d8 d9 d10 d11 d12 d13 d14
        cases ok with
        | false =>
          go_wp2_with fail
          go_roundw
          case rel => exact ⟨k + 1, wl, wa, wk, by omega, by omega, rfl, by go_num, HO2, by have := hwl.out; unfold Hid; omega, HU2⟩
          case measure => simp [intOf]; omega
        | true =>
          have HFL := Lib.hid (encRec_len HOK.out)
          obtain ⟨p, hp⟩ : ∃ p, encRec (mkRec ino gen at_ rule kind c0 c1 c2 c3 c4 c5 c6 c7 c8 c9) = p := ⟨_, rfl⟩
          have HP := Lib.hid hp
          rw [hp] at HFL
          have hput : putF wl p = wl ++ frameOf p := putF_fit _ _ ⟨by have := HFL.out; omega, by have := HFL.out; omega⟩
          have HPUT := Lib.hid hput
          have HFO := Lib.hid (frameOf_len p)
          have hca := HCA.out w2 HU2.out
          have d0 : w2.cell? ⟨lb, loff + k * 15, none⟩ = some (.int .i64 ino) := hca 0 (by omega)
          have d1 : w2.cell? ⟨lb, loff + k * 15 + 1, none⟩ = some (.int .i64 gen) := hca 1 (by omega)
          have d2 : w2.cell? ⟨lb, loff + k * 15 + 2, none⟩ = some (.int .i64 at_) := hca 2 (by omega)
          have d3 : w2.cell? ⟨lb, loff + k * 15 + 3, none⟩ = some (.string rule) := hca 3 (by omega)
          have d4 : w2.cell? ⟨lb, loff + k * 15 + 4, none⟩ = some (.int .i64 kind) := hca 4 (by omega)
          have d5 : w2.cell? ⟨lb, loff + k * 15 + 5, none⟩ = some (.int .i64 c0) := hca 5 (by omega)
          have d6 : w2.cell? ⟨lb, loff + k * 15 + 6, none⟩ = some (.int .i64 c1) := hca 6 (by omega)
          have d7 : w2.cell? ⟨lb, loff + k * 15 + 7, none⟩ = some (.int .i64 c2) := hca 7 (by omega)
          have d8 : w2.cell? ⟨lb, loff + k * 15 + 8, none⟩ = some (.int .i64 c3) := hca 8 (by omega)
          have d9 : w2.cell? ⟨lb, loff + k * 15 + 9, none⟩ = some (.int .i64 c4) := hca 9 (by omega)
          have d10 : w2.cell? ⟨lb, loff + k * 15 + 10, none⟩ = some (.int .i64 c5) := hca 10 (by omega)
          have d11 : w2.cell? ⟨lb, loff + k * 15 + 11, none⟩ = some (.int .i64 c6) := hca 11 (by omega)
          have d12 : w2.cell? ⟨lb, loff + k * 15 + 12, none⟩ = some (.int .i64 c7) := hca 12 (by omega)
          have d13 : w2.cell? ⟨lb, loff + k * 15 + 13, none⟩ = some (.int .i64 c8) := hca 13 (by omega)
          have d14 : w2.cell? ⟨lb, loff + k * 15 + 14, none⟩ = some (.int .i64 c9) := hca 14 (by omega)
          clear hca hp hput
          go_wp2_with fail
          (with_reducible refine (rput_ok ino gen at_ rule kind c0 c1 c2 c3 c4 c5 c6 c7 c8 c9 HOK.out HP.out).mono ?_)
          rintro e w3 ⟨a3, k3, rfl, hr3, hu3⟩
          have HU3 := Lib.hid (HU2.out.seq hu3)
          have HO3 := Lib.hid (HO2.out.upd hu3 (by simp))
          clear hu3 HU2 HO2 d0 d1 d2 d3 d4 d5 d6 d7 d8 d9 d10 d11 d12 d13 d14
          go_wp2_with fail
          (with_reducible refine (rFrame_any _ _ wl p w3 HO3.out.rd hr3.out (by have := hwl.out; omega) (by have := HFL.out; omega)).mono ?_)
          rw [HPUT.out]
          rintro e w4 ⟨v4, rfl, ho4, hu4⟩
          obtain ⟨wl', hwl'⟩ : ∃ wl', wl ++ frameOf p = wl' := ⟨_, rfl⟩
          have hlen : wl'.length = wl.length + (8 + p.length) := by rw [← hwl', List.length_append, HFO.out]
          rw [hwl'] at ho4
          have HO4 := Lib.hid (ho4.base_le (Nat.le_trans HU3.out.size (Nat.le_refl _)))
          have HU4 := Lib.hid (HU3.out.seq hu4)
          have HLN : Hid (wl'.length ≤ 250 * (k + 1)) := by have := hwl.out; have := HFL.out; unfold Hid; omega
          obtain ⟨a4, k4, rfl, -⟩ := id ho4.rd
          clear ho4 hu4 hlen hwl' HO3 HU3
          go_wp2_with fail
          go_roundw
          case rel => exact ⟨k + 1, wl', a4, k4, by omega, by omega, rfl, by go_num, HO4, HLN, HU4⟩
          case measure => simp [intOf]; omega
      · have HB9 := Lib.hid (HB.out.upd0 hu.out)
        have HW9 : Hid (wl.length ≤ 3500) := by have := hwl.out; unfold Hid; omega
        clear HC1
        rcases hend with ⟨hke, h40⟩ | ⟨hke, hkn⟩
        · have q1 : ¬ (k : Int) < l.length := by omega
          clear h40
          go_upto_region 9 with fail
          refine lo9 HB9.out HBL.out HI.out ho.out HW9.out hu.out (fun _ _ _ _ _ _ _ _ _ _ _ _ _ _ _ _ _ _ _ _ _ _ _ _ _ _ _ _ _ _ _ _ _ _ _ _ _ _ _ _ _ _ _ _ _ _ _ _ _ _ _ _ _ _ _ _ _ _ _ _ _ _ _ _ _ _ _ _ _ _ _ _ _ _ _ _ _ _ _ _ _ _ _ _ _ _ _ _ _ _ _ _ _ _ _ _ _ _ _ _ _ _ _ _ _ _ _ _ _ _ _ _ _ _ _ _ _ _ _ _ _ _ _ _ _ _ _ _ _ _ _ _ _ _ _ _ _ _ _ _ _ _ _ _ w9 h => ?_) (by assumption)
          have HF := Lib.hid h
          clear h
          go_ret
          exact ⟨rfl, HF.out⟩
        · have q1 : (k : Int) < l.length := by omega
          have q2 : ¬ (k : Int) < 12 := by omega
          go_upto_region 9 with fail
          refine lo9 HB9.out HBL.out HI.out ho.out HW9.out hu.out (fun _ _ _ _ _ _ _ _ _ _ _ _ _ _ _ _ _ _ _ _ _ _ _ _ _ _ _ _ _ _ _ _ _ _ _ _ _ _ _ _ _ _ _ _ _ _ _ _ _ _ _ _ _ _ _ _ _ _ _ _ _ _ _ _ _ _ _ _ _ _ _ _ _ _ _ _ _ _ _ _ _ _ _ _ _ _ _ _ _ _ _ _ _ _ _ _ _ _ _ _ _ _ _ _ _ _ _ _ _ _ _ _ _ _ _ _ _ _ _ _ _ _ _ _ _ _ _ _ _ _ _ _ _ _ _ _ _ _ _ _ _ _ _ _ w9 h => ?_) (by assumption)
          have HF := Lib.hid h
          clear h
          go_ret
          exact ⟨rfl, HF.out⟩
end Go.Proofs.YtmhojaiajhdlcaaGreat
namespace Go.Proofs.YtmhojaiajhdlcaaGreat.lLedgerOpens
open Go.ChangeShapes Go.WideShapes Go.ChangeAt Go.RowKit Go.Deep
open Go.ChangeMaps (open_string shut_string)
set_option linter.unusedSimpArgs false
set_option linter.unusedVariables false
theorem own : ownKnob Tryz.prog.godebug = none := by kernel_rfl
theorem laidOut : laidOutB Tryz.prog = true := by kernel_rfl
theorem cells_bytes : Tryz.checked.prog.cellsOf 5 = 1 := by kernel_rfl
theorem size_bytes : Tryz.checked.prog.bytesOf 5 = 1 := by kernel_rfl
set_option maxRecDepth 100000 in
theorem walk (H : Type) (enc : TypeId × Value → H) : LawCalls Tryz.prog 4 Tryz.f4 H enc (fun ds => True) := by
  intro W base args ds ps hval hA hsz hk
  rw [Tryz.params4] at hA hval hsz
  obtain ⟨v0, vs0, d0, ds0, p0, q0, hargs, rfl, rfl, h0, r0⟩ := trodAll_cons hA
  obtain ⟨v1, vs1, d1, ds1, p1, q1, rfl, rfl, rfl, h1, r1⟩ := trodAll_cons r0
  obtain ⟨v2, vs2, d2, ds2, p2, q2, rfl, rfl, rfl, h2, r2⟩ := trodAll_cons r1
  obtain ⟨rfl, rfl, rfl⟩ := trodAll_nil r2
  obtain rfl : args = #[v0, v1, v2] := by cases args; simp_all
  obtain ⟨l0, w0, g0⟩ := open_recs (hval 0 _ v0 rfl rfl) h0
  obtain ⟨l1, w1, z1, u1⟩ := open_bytes Tryz.underlying28 Tryz.underlying5 cells_bytes size_bytes (hval 1 _ v1 rfl rfl) h1
  have z1 := z1 _ _ 1 hsz rfl rfl
  obtain ⟨a2, rfl, w2⟩ := open_num Tryz.underlying3 (hval 2 _ v2 rfl rfl) h2
  exact ledgerOpens_any W v0 l0 w0 v1 l1 w1 z1 a2 w2
set_option maxRecDepth 100000 in
theorem lifted (os : Os) (started : os.Started) (H : Type) (enc : TypeId × Value → H) :
    ReturnsInHanded {} Tryz.checked os 4 .any (Rows.ledgerOpensSpec.pre6 enc Tryz.prog Tryz.f4 Rows.ledgerOpensRow.domain false) (Rows.ledgerOpensSpec.post enc Tryz.prog Tryz.f4 false true false false) :=
  law_said (C := Tryz.checked) own started (by kernel_rfl) Tryz.func4
    (ChangeSpec.witness6 (enc := enc) (C := Tryz.checked) false ⟨#[], #[.slice none 0 0, .slice none 0 0, .int .i64 0], []⟩ 8 (by kernel_rfl) (by kernel_rfl) (by kernel_rfl) (by kernel_rfl))
    laidOut (by rw [Tryz.params4]; intro t ht; simp only [List.mem_cons, List.not_mem_nil, or_false] at ht; rcases ht with rfl | rfl | rfl <;> exact ⟨by kernel_rfl, of_decide_eq_true (by kernel_rfl)⟩) rfl 4 (by kernel_rfl) Tryz.underlying4 (by intro ds h; match ds, h with | [d0, d1, d2], _ => exact ⟨rfl, rfl, rfl⟩) (walk H enc)
theorem proved : Rows.LedgerOpensSaid :=
  OpenClaim.holds_of_wide 4 Tryz.f4 rfl rfl rfl rfl rfl rfl rfl ⟨rfl, rfl, rfl, rfl, rfl⟩ rfl rfl rfl rfl rfl (by kernel_rfl) Tryz.func4 (by kernel_rfl)
    (of_decide_eq_true (by kernel_rfl)) (by unfold Func.isWrapper; rw [if_neg (of_decide_eq_false (by kernel_rfl))]; exact ⟨rfl, rfl⟩)
    (fun os started H enc _ => lifted os started H enc)
end Go.Proofs.YtmhojaiajhdlcaaGreat.lLedgerOpens
