/- JournalOpens: the law returns true, whatever it is given. -/
import Derived.Test.YtmhojaiajhdlcaaGreatMj12
import Derived.Test.YtmhojaiajhdlcaaGreatMj8
import Derived.Test.YtmhojaiajhdlcaaGreatMj2
import Derived.Test.YtmhojaiajhdlcaaGreatMj1
namespace Go.Proofs.YtmhojaiajhdlcaaGreat
open Go.RowKit
set_option linter.unusedSimpArgs false
set_option linter.unusedVariables false
theorem setL_sz (x : Ask24) (h5 : x.kd ≠ 5) (hs : I64 x.slot) (hn : I64 x.n) : (encChs (setL x)).length ≤ 700 := by
  have h3 := cut3_size x.data
  have e1 : ∀ n : Nat, n < 100 → (encNum n).length ≤ 9 := fun n hn => by rw [encNum_len]; have := nb_le8 n (by omega); omega
  have k1 := encCh_le x.slot (cut3 x.data) hs (by omega)
  have k2 := encCh_le x.n sTwo hn (by decide)
  have z2 : sTwo.size = 3 := by decide
  unfold setL
  split
  · unfold encChs
    have : (encNum (0 + 1 + 1)).length ≤ 9 := e1 _ (by omega)
    simp only [List.flatMap_cons, List.flatMap_nil, List.length_append, List.length_cons, List.length_nil]
    omega
  · rw [encChs_one, List.length_append]
    have := e1 1 (by omega)
    omega
/-- What a first Set leaves. -/
structure JoSet (s : DS) : Prop where
  now : s.now.length ≤ 2
  j : (dGet s.now nmJ).1.length ≤ 1000
theorem jo_set (x : Ask24) (h5 : x.kd ≠ 5) (hs : I64 x.slot) (hn : I64 x.n) {l : List Ch} (hl : setL x = l) {e : Int} {t' : JS} {s' : DS} (he : jSet [] ⟨[], [], []⟩ l = (e, t', s')) : JoSet s' := by
  subst hl
  have S := sets (Q := TT) (St.zero (Q := TT) trivial) JInv.zero (setL x) (fun _ _ _ => trivial) (fun _ => trivial)
  rw [he] at S
  have hsz := setL_sz x h5 hs hn
  refine ⟨S.st.now, ?_⟩
  by_cases h0 : e = 0
  · have hc := S.cont h0 (by rw [frameOf_len]; show ([] : List UInt8).length + _ ≤ _; simp; omega)
    have hc2 : (dGet s'.now nmJ).1 = (dGet ([] : DF) nmJ).1 ++ frameOf (encChs (setL x)) := hc
    rw [hc2, List.length_append, frameOf_len]
    show ([] : List UInt8).length + _ ≤ _
    simp; omega
  · have hz : s' = ⟨[], [], []⟩ := (S.no h0).2
    rw [hz]
    show ([] : List UInt8).length ≤ 1000
    simp
/-- What is laid: the journal, and the file that was to take its place. -/
def joLay (p o : List UInt8) : DS := if o = [] then (dAppend ⟨[], [], []⟩ nmJ p).2 else (dAppend (dAppend ⟨[], [], []⟩ nmJ p).2 nmN o).2
theorem jo_st1 (p : List UInt8) (hp : p.length ≤ 10000) : St TT 10001 (dAppend ⟨[], [], []⟩ nmJ p).2 := by
  have h := (St.zero (Q := TT) trivial).append (nm := nmJ) p (.inl rfl) (fun _ _ _ => trivial)
  exact h.st.more (by omega)
theorem jo_st2 (p o : List UInt8) (hp : p.length ≤ 10000) (ho : o.length ≤ 400) : St TT 20001 (joLay p o) := by
  have h1 := jo_st1 p hp
  unfold joLay
  split
  · exact h1.more (by omega)
  · have h := h1.append (nm := nmN) o (.inr rfl) (fun _ _ _ => trivial)
    exact h.st.more (by omega)
theorem jo_again {k : Nat} {s : DS} (h : St TT k s) : jOpen (dMark (jOpen s).2) = ((jOpen s).1, dMark (jOpen s).2) := by
  obtain ⟨h1, h2⟩ := jOpen_ok h
  have hi : JInv (jOpen s).1 (dMark (jOpen s).2) := ⟨h1.j, h1.n⟩
  exact jOpen_inv hi
/-- The journal is opened again; the one that was there is kept. -/
theorem jdOpenKeep {w0 w : World} {gd gj : Nat} {F G : List Nat} {t : JS} {s : DS} {Q : List UInt8 → Prop} {k : Nat} (h : JD w0 w gd gj F G t s) (hs : St Q k s) (hk : k ≤ 470000000) (he : jOpen s = (t, s)) :
    Calls Tryz.prog 40 #[.pointer (some ⟨gd, 0, none⟩)] w fun e w' => ∃ gk, e = .returned (.tuple #[.pointer (some ⟨gk, 0, none⟩), .int .i64 0]) ∧ JP w0 w' gd gj t s ∧ JP w0 w' gd gk t s := by
  have hc := jopen_any h.dd (by have := hs.now; omega) (by have := hs.lg; omega)
  rw [he] at hc
  refine hc.mono ?_
  rintro e w' ⟨gk, rfl, ho⟩
  refine ⟨gk, rfl, ?_, JP.of ho⟩
  obtain ⟨F', G', k1, k2, k3, k4⟩ := (show ∃ F' G', _ from ho)
  obtain ⟨gt, F0, hc, rfl⟩ := h.jc
  have hlt := h.geF
  refine ⟨gj :: F0, G', ⟨gt, F0, hc.upd k2 (fun x hx hg => h.ap x hx hg) (fun x hx => (h.dd.ge x hx).1), rfl⟩, k1.dd, fun x hx hg => ?_⟩
  rcases k4 x hg with q | q
  · exact h.ap x hx q
  · have := (hlt x hx).2; omega
/-- Both disks, and two slices that no call on them writes. -/
structure Kb (w : World) (v : Value) (p : List UInt8) (G1 G2 : List Nat) : Prop where
  b : Bytes w v p
  a : p ≠ [] → ∀ x ∈ blk v, x ∉ G1 ∧ x ∉ G2
theorem Kb.step {w w' : World} {v : Value} {p : List UInt8} {G1 G2 G1' G2' S : List Nat} (h : Kb w v p G1 G2) (hu : Upd S w w') (hS : ∀ x ∈ S, x ∈ G1 ∨ x ∈ G2) (h1 : ∀ x ∈ G1', x ∈ G1 ∨ w.heap.size ≤ x) (h2 : ∀ x ∈ G2', x ∈ G2 ∨ w.heap.size ≤ x) : Kb w' v p G1' G2' := by
  by_cases hp : p = []
  · subst hp
    obtain ⟨a, c, rfl, q1, q2, -⟩ := h.b
    exact ⟨⟨a, c, rfl, q1, q2, fun h => absurd rfl h⟩, fun q => absurd rfl q⟩
  · have ha := h.a hp
    have hl := h.b.lt hp
    refine ⟨h.b.upd hu (fun x hx hs => ?_), fun _ x hx => ⟨fun q => ?_, fun q => ?_⟩⟩
    · rcases hS x hs with q | q
      · exact (ha x hx).1 q
      · exact (ha x hx).2 q
    · rcases h1 x q with q | q
      · exact (ha x hx).1 q
      · have := hl x hx; omega
    · rcases h2 x q with q | q
      · exact (ha x hx).2 q
      · have := hl x hx; omega
structure PR (w0 w : World) (gd gr : Nat) (s s2 : DS) (v : Value) (p : List UInt8) (u : Value) (o : List UInt8) : Prop where
  ex : ∃ G1 G2, DD w0 w gd G1 s ∧ RD w0 w gr G2 s2 ∧ Ap G1 G2 ∧ Kb w v p G1 G2 ∧ Kb w u o G1 G2
section
variable {w0 w w' : World} {gd gr : Nat} {s s2 s' : DS} {v u : Value} {p o : List UInt8}
theorem PR.swap (h : PR w0 w gd gr s s2 v p u o) : PR w0 w gd gr s s2 u o v p := by
  obtain ⟨G1, G2, h1, h2, h3, h4, h5⟩ := h.ex
  exact ⟨G1, G2, h1, h2, h3, h5, h4⟩
theorem PR.old (h : PR w0 w gd gr s s2 v p u o) : Upd [] w0 w := by
  obtain ⟨G1, G2, h1, -⟩ := h.ex
  exact h1.old
theorem PR.dstep (h : PR w0 w gd gr s s2 v p u o) {r : DS} (hd : ∀ G1, DD w0 w gd G1 s → DOut w0 w gd G1 r w') : PR w0 w' gd gr r s2 v p u o := by
  obtain ⟨G1, G2, h1, h2, h3, h4, h5⟩ := h.ex
  obtain ⟨G3, k1, k2, k3⟩ := hd G1 h1
  exact ⟨G3, G2, k1, h2.upd k2 (fun x hx hs => h3 x hs hx) (fun x hx => (h1.ge x hx).1), apx_grow h3 k3 (fun y hy => (h2.ge y hy).2), h4.step k2 (fun x hx => .inl hx) k3 (fun x hx => .inl hx), h5.step k2 (fun x hx => .inl hx) k3 (fun x hx => .inl hx)⟩
theorem PR.rstep (h : PR w0 w gd gr s s2 v p u o) {r : DS} (hd : ∀ G2, RD w0 w gr G2 s2 → ROut w0 w gr G2 r w') : PR w0 w' gd gr s r v p u o := by
  obtain ⟨G1, G2, h1, h2, h3, h4, h5⟩ := h.ex
  obtain ⟨G4, k1, k2, k3⟩ := hd G2 h2
  exact ⟨G1, G4, h1.upd k2 (fun x hx hs => h3 x hx hs) (fun x hx => (h2.ge x hx).1), k1, apx_sym (apx_grow (apx_sym h3) k3 (fun y hy => (h1.ge y hy).2)), h4.step k2 (fun x hx => .inr hx) (fun x hx => .inl hx) k3, h5.step k2 (fun x hx => .inr hx) (fun x hx => .inl hx) k3⟩
theorem prAppD {Q : List UInt8 → Prop} {k : Nat} (h : PR w0 w gd gr s s2 v p u o) (nm : ByteArray) (hpl : p.length ≤ 100000000) (hs : St Q k s) (hk : k ≤ 470000000) {r : DS} (he : (dAppend s nm p).2 = r) :
    Calls Tryz.prog 19 #[.pointer (some ⟨gd, 0, none⟩), sv nm, v] w fun e w' => ∃ n, e = .returned (.int .i64 n) ∧ PR w0 w' gd gr r s2 v p u o := by
  subst he
  obtain ⟨G1, G2, h1, h2, h3, h4, h5⟩ := id h.ex
  refine (dAppend_any nm v p h4.b (fun q x hx => (h4.a q x hx).1) h1 hpl (by have := hs.now; omega) (by have := hs.lg; omega)).mono ?_
  rintro e w' ⟨rfl, ho⟩
  obtain ⟨G3, k1, k2, k3⟩ := ho
  exact ⟨_, rfl, ⟨G3, G2, k1, h2.upd k2 (fun x hx hs => h3 x hs hx) (fun x hx => (h1.ge x hx).1), apx_grow h3 k3 (fun y hy => (h2.ge y hy).2), h4.step k2 (fun x hx => .inl hx) k3 (fun x hx => .inl hx), h5.step k2 (fun x hx => .inl hx) k3 (fun x hx => .inl hx)⟩⟩
theorem prAppR {Q : List UInt8 → Prop} {k : Nat} (h : PR w0 w gd gr s s2 v p u o) (nm : ByteArray) (hpl : p.length ≤ 100000000) (hs : St Q k s2) (hk : k ≤ 470000000) {r : DS} (he : (dAppend s2 nm p).2 = r) :
    Calls Tryz.prog 20 #[.pointer (some ⟨gr, 0, none⟩), sv nm, v] w fun e w' => ∃ n, e = .returned (.int .i64 n) ∧ PR w0 w' gd gr s r v p u o := by
  subst he
  obtain ⟨G1, G2, h1, h2, h3, h4, h5⟩ := id h.ex
  refine (rAppend_any nm v p h4.b (fun q x hx => (h4.a q x hx).2) h2 hpl (by have := hs.now; omega) (by have := hs.lg; omega)).mono ?_
  rintro e w' ⟨rfl, ho⟩
  obtain ⟨G4, k1, k2, k3⟩ := ho
  exact ⟨_, rfl, ⟨G1, G4, h1.upd k2 (fun x hx hs => h3 x hx hs) (fun x hx => (h2.ge x hx).1), k1, apx_sym (apx_grow (apx_sym h3) k3 (fun y hy => (h1.ge y hy).2)), h4.step k2 (fun x hx => .inr hx) (fun x hx => .inl hx) k3, h5.step k2 (fun x hx => .inr hx) (fun x hx => .inl hx) k3⟩⟩
theorem prMark {Q : List UInt8 → Prop} {k : Nat} (h : PR w0 w gd gr s s2 v p u o) (hs : St Q k s) :
    Calls Tryz.prog 21 #[.pointer (some ⟨gd, 0, none⟩)] w fun e w' => e = .returned (.tuple #[]) ∧ PR w0 w' gd gr (dMark s) s2 v p u o := by
  obtain ⟨G1, G2, h1, h2, h3, h4, h5⟩ := id h.ex
  refine (dMark_any h1 (by have := hs.now; omega)).mono ?_
  rintro e w' ⟨rfl, G3, k1, k2, k3⟩
  exact ⟨rfl, ⟨G3, G2, k1, h2.upd k2 (fun x hx hs => h3 x hs hx) (fun x hx => (h1.ge x hx).1), apx_grow h3 k3 (fun y hy => (h2.ge y hy).2), h4.step k2 (fun x hx => .inl hx) k3 (fun x hx => .inl hx), h5.step k2 (fun x hx => .inl hx) k3 (fun x hx => .inl hx)⟩⟩
theorem prMarkR (h : PR w0 w gd gr s s2 v p u o) :
    Calls Tryz.prog 22 #[.pointer (some ⟨gr, 0, none⟩)] w fun e w' => e = .returned (.tuple #[]) ∧ PR w0 w' gd gr s (dMark s2) v p u o := by
  obtain ⟨G1, G2, h1, h2, h3, h4, h5⟩ := id h.ex
  refine (rSetMark_any h2).mono ?_
  rintro e w' ⟨rfl, G4, k1, k2, k3⟩
  exact ⟨rfl, ⟨G1, G4, h1.upd k2 (fun x hx hs => h3 x hx hs) (fun x hx => (h2.ge x hx).1), k1, apx_sym (apx_grow (apx_sym h3) k3 (fun y hy => (h1.ge y hy).2)), h4.step k2 (fun x hx => .inr hx) (fun x hx => .inl hx) k3, h5.step k2 (fun x hx => .inr hx) (fun x hx => .inl hx) k3⟩⟩
end
/-- The first elements of a list of the call's own. -/
theorem own_cut {base : Nat} {e : TypeId} {w : World} {a : Option Addr} {n cap : Nat} {l : List UInt8} (h : Own bv base e w (.slice a n cap) l) (k : Nat) (hk : k ≤ l.length) : Own bv base e w (.slice a k cap) (l.take k) := by
  obtain ⟨h1, h2⟩ := h
  rcases h2 with ⟨he, hn⟩ | ⟨g, cap', cur, he, hb, hg, hc, hm, hs, ht⟩
  · injection he with e1 e2 e3
    subst e1; subst e3
    obtain rfl : l = [] := List.eq_nil_of_length_eq_zero hn
    obtain rfl : k = 0 := by simpa using hk
    exact World.ownsRow_nil _ _ _ _
  · injection he with e1 e2 e3
    subst e1; subst e3
    refine ⟨by simp, .inr ⟨g, cap, cur, by rw [List.length_take, Nat.min_eq_left hk], hb, hg, by rw [List.length_take]; omega, hm, hs, ?_⟩⟩
    have h3 : (cur.toList.take (l.length * 1)).take k = (l.map bv).take k := by rw [ht]
    rw [List.take_take, Nat.mul_one, Nat.min_eq_left hk] at h3
    rw [List.length_take, Nat.min_eq_left hk, Nat.mul_one, h3, List.map_take]
end Go.Proofs.YtmhojaiajhdlcaaGreat
namespace Go.Proofs.YtmhojaiajhdlcaaGreat
open Go.RowKit
set_option linter.unusedSimpArgs false
set_option linter.unusedVariables false
theorem jdMark {w0 w : World} {gd gj : Nat} {F G : List Nat} {t : JS} {s : DS} {Q : List UInt8 → Prop} {k : Nat} (h : JD w0 w gd gj F G t s) (hs : St Q k s) :
    Calls Tryz.prog 21 #[.pointer (some ⟨gd, 0, none⟩)] w fun e w' => e = .returned (.tuple #[]) ∧ ∃ F' G', JD w0 w' gd gj F' G' t (dMark s) := by
  refine (dMark_any h.dd (by have := hs.now; omega)).mono ?_
  rintro e w' ⟨rfl, ho⟩
  obtain ⟨F', G', h1, -⟩ := h.disk ho
  exact ⟨rfl, F', G', h1⟩
noncomputable def regP28 : Code := regAtOf 28 Tryz.f6.body
noncomputable def restP28 : Code := restAtOf 28 Tryz.f6.body
set_option maxRecDepth 100000 in
set_option maxHeartbeats 8000000 in
theorem jo28 {w W : World} {gd gj : Nat} {F G : List Nat} {t : JS} {s : DS} {k : Nat} {x0 x1 x2 x3 x4 x5 x6 x7 x8 x10 x11 x12 x13 x14 x15 x16 x17 x19 x20 x21 x22 x23 x24 x25 x26 x27 x28 x29 x30 x31 x32 x33 x34 x35 x36 x37 x38 x39 x40 x41 x42 x43 x44 x45 x46 x47 x48 x49 x50 x51 x52 x53 x54 x55 x56 x57 x58 x59 x60 x61 x62 x63 x64 x65 x66 x67 x68 x69 x70 x71 x72 x73 x74 x75 x76 x77 x78 x79 x80 x81 x82 x83 x84 x85 x86 x87 x88 x89 x90 x91 x92 x93 x94 x95 x96 x97 x98 x99 x100 x101 x102 x103 x104 x105 x106 x107 x108 x109 x110 x111 x112 x113 x114 x115 x116 x117 x118 x119 x120 x121 x122 x123 x124 x125 x126 x127 x128 x129 x130 x131 x132 x133 x134 x135 x136 x137 x138 x139 x140 x141 x142 x143 x144 x145 x146 x147 x148 x149 x150 x151 x152 : Value} {Q : Exit → Act → World → Prop} (hJ : JD w W gd gj F G t s) (hs : St TT k s) (ho : jOpen (dMark s) = (t, dMark s))
    (hQ : ∀ (y0 y1 y2 y3 y4 y5 y6 y7 y9 y10 y11 y12 y13 y14 y15 y16 y17 y18 y19 y20 y21 y22 y23 y24 y25 y26 y27 y28 y29 y30 y31 y32 y33 y34 y35 y36 y37 y38 y39 y40 y41 y42 y43 y44 y45 y46 y47 y48 y49 y50 y51 y52 y53 y54 y55 y56 y57 y58 y59 y60 y61 y62 y63 y64 y65 y66 y67 y68 y69 y70 y71 y72 y73 y74 y75 y76 y77 y78 y79 y80 y81 y82 y83 y84 y85 y86 y87 y88 y89 y90 y91 y92 y93 y94 y95 y96 y97 y98 y99 y100 y101 y102 y103 y104 y105 y106 y107 y108 y109 y110 y111 y112 y113 y114 y115 y116 y117 y118 y119 y120 y121 y122 y123 y124 y125 y126 y127 y128 y129 y130 y131 y132 y133 y134 y135 y136 y137 y138 y139 y140 y141 y142 y143 y144 y145 y146 y147 y148 y149 y150 y151 y152 : Value)  (w' : World), Upd [] w w' → Q .ret ⟨#[y0, y1, y2, y3, y4, y5, y6, y7, .bool true, y9, y10, y11, y12, y13, y14, y15, y16, y17, y18, y19, y20, y21, y22, y23, y24, y25, y26, y27, y28, y29, y30, y31, y32, y33, y34, y35, y36, y37, y38, y39, y40, y41, y42, y43, y44, y45, y46, y47, y48, y49, y50, y51, y52, y53, y54, y55, y56, y57, y58, y59, y60, y61, y62, y63, y64, y65, y66, y67, y68, y69, y70, y71, y72, y73, y74, y75, y76, y77, y78, y79, y80, y81, y82, y83, y84, y85, y86, y87, y88, y89, y90, y91, y92, y93, y94, y95, y96, y97, y98, y99, y100, y101, y102, y103, y104, y105, y106, y107, y108, y109, y110, y111, y112, y113, y114, y115, y116, y117, y118, y119, y120, y121, y122, y123, y124, y125, y126, y127, y128, y129, y130, y131, y132, y133, y134, y135, y136, y137, y138, y139, y140, y141, y142, y143, y144, y145, y146, y147, y148, y149, y150, y151, y152], []⟩ w') {K : Act → World → Prop} (hK : ∀ a w, Code.wp Tryz.prog restP28 Q a w → K a w) : Code.wp Tryz.prog regP28 (Exit.then K Q) ⟨#[x0, x1, x2, x3, x4, x5, x6, x7, x8, .pointer (some ⟨gd, 0, none⟩), x10, x11, x12, x13, x14, x15, x16, x17, .pointer (some ⟨gj, 0, none⟩), x19, x20, x21, x22, x23, x24, x25, x26, x27, x28, x29, x30, x31, x32, x33, x34, x35, x36, x37, x38, x39, x40, x41, x42, x43, x44, x45, x46, x47, x48, x49, x50, x51, x52, x53, x54, x55, x56, x57, x58, x59, x60, x61, x62, x63, x64, x65, x66, x67, x68, x69, x70, x71, x72, x73, x74, x75, x76, x77, x78, x79, x80, x81, x82, x83, x84, x85, x86, x87, x88, x89, x90, x91, x92, x93, x94, x95, x96, x97, x98, x99, x100, x101, x102, x103, x104, x105, x106, x107, x108, x109, x110, x111, x112, x113, x114, x115, x116, x117, x118, x119, x120, x121, x122, x123, x124, x125, x126, x127, x128, x129, x130, x131, x132, x133, x134, x135, x136, x137, x138, x139, x140, x141, x142, x143, x144, x145, x146, x147, x148, x149, x150, x151, x152], []⟩ W := by
  conv => arg 2; whnf
  change ∀ a w, Code.wp _ (Code.seq _ _) Q a w → K a w at hK
  have HQ := Lib.hid hQ
  clear hQ
  have HJ := Lib.hid hJ
  have HS := Lib.hid hs
  have HM := Lib.hid hs.mark
  have HO := Lib.hid ho
  have HK0 : Hid ((0 : Nat) ≤ 470000000) := by unfold Hid; omega
  obtain ⟨ks, hks⟩ : ∃ ks, t.map (·.1) = ks := ⟨_, rfl⟩
  have HKS := Lib.hid hks
  have HL0 : Hid ((dMark s).log.length = 0) := rfl
  clear hJ hs ho hks
  go_wp2_with fail
  (with_reducible refine (jdMark HJ.out HS.out).mono ?_)
  rintro e w3 ⟨rfl, F3, G3, h3⟩
  have H3 := Lib.hid h3
  clear h3
  go_wp2_with fail
  (with_reducible refine (jdOpenKeep H3.out HM.out HK0.out HO.out).mono ?_)
  rintro e w4 ⟨gh, rfl, h4, h5⟩
  have H4 := Lib.hid h4
  have H5 := Lib.hid h5
  clear h4 h5
  go_wp2_with fail
  (with_reducible refine (jpCount H5.out HL0.out).mono ?_)
  rintro e w' ⟨rfl, rfl⟩
  go_wp2_with fail
  (with_reducible refine (jpSlots H5.out HKS.out).mono ?_)
  rintro e w5 ⟨a5, k5, rfl, hr5, hu5⟩
  have HU5 := Lib.hid hu5
  clear hu5
  go_wp2_with fail
  (with_reducible refine (jpSlots (H4.out.upd0 HU5.out) HKS.out).mono ?_)
  rintro e w6 ⟨a6, k6, rfl, hr6, hu6⟩
  have HR5 := Lib.hid (hr5.out.upd0 hu6)
  have HU6 := Lib.hid (HU5.out.seq hu6)
  clear hu6 hr5
  go_wp2_with fail
  (with_reducible refine (sameInt_any _ _ ks ks w6 HR5.out hr6.out).mono ?_)
  rintro e w7 ⟨rfl, n7, rfl⟩
  have HU7 := Lib.hid (HU6.out.drewN n7)
  have x1 : decide (ks = ks) = true := by simp
  clear hr6
  go_wp2_with fail
  (with_reducible refine (journalRuns_any _).mono ?_)
  rintro e w15 ⟨rfl, hu15⟩
  have HU := Lib.hid ((H5.out.old.seq HU7.out).seq hu15)
  clear hu15
  go_wp2_with fail
  exact HQ.out _ _ _ _ _ _ _ _ _ _ _ _ _ _ _ _ _ _ _ _ _ _ _ _ _ _ _ _ _ _ _ _ _ _ _ _ _ _ _ _ _ _ _ _ _ _ _ _ _ _ _ _ _ _ _ _ _ _ _ _ _ _ _ _ _ _ _ _ _ _ _ _ _ _ _ _ _ _ _ _ _ _ _ _ _ _ _ _ _ _ _ _ _ _ _ _ _ _ _ _ _ _ _ _ _ _ _ _ _ _ _ _ _ _ _ _ _ _ _ _ _ _ _ _ _ _ _ _ _ _ _ _ _ _ _ _ _ _ _ _ _ _ _ _ _ _ _ _ _ _ _ _ _ HU.out
end Go.Proofs.YtmhojaiajhdlcaaGreat
namespace Go.Proofs.YtmhojaiajhdlcaaGreat
open Go.RowKit
set_option linter.unusedSimpArgs false
set_option linter.unusedVariables false
theorem jopen_s {w0 w : World} {gd k : Nat} {G : List Nat} {t' : JS} {s s' : DS} (h : DD w0 w gd G s) (hs : St TT k s) (hk : k ≤ 470000000) (he : jOpen s = (t', s')) :
    Calls Tryz.prog 40 #[.pointer (some ⟨gd, 0, none⟩)] w fun e w' => ∃ gj, e = .returned (.tuple #[.pointer (some ⟨gj, 0, none⟩), .int .i64 0]) ∧ JOut w0 w gd gj G t' s' w' := by
  have := jopen_any h (by have := hs.now; omega) (by have := hs.lg; omega)
  rw [he] at this
  exact this
theorem rjopen_s {w0 w : World} {gr k : Nat} {G : List Nat} {t' : JS} {s s' : DS} (h : RD w0 w gr G s) (hs : St TT k s) (hk : k ≤ 470000000) (he : jOpen s = (t', s')) :
    Calls Tryz.prog 42 #[.pointer (some ⟨gr, 0, none⟩)] w fun e w' => ∃ gk, e = .returned (.pointer (some ⟨gk, 0, none⟩)) ∧ RJOut w0 w gr gk G t' s' w' := by
  have := rjOpen_any h (by have := hs.now; omega) (by have := hs.lg; omega)
  rw [he] at this
  exact this
noncomputable def regP23 : Code := regAtOf 23 Tryz.f6.body
noncomputable def restP23 : Code := restAtOf 23 Tryz.f6.body
set_option maxRecDepth 100000 in
set_option maxHeartbeats 8000000 in
theorem jo23 {w W : World} {gd gr : Nat} {s : DS} {v u : Value} {p o : List UInt8} {x0 x1 x2 x3 x4 x5 x6 x7 x8 x11 x12 x13 x14 x15 x16 x17 x18 x19 x20 x21 x22 x23 x24 x25 x26 x27 x28 x29 x30 x31 x32 x33 x34 x35 x36 x37 x38 x39 x40 x41 x42 x43 x44 x45 x46 x47 x48 x49 x50 x51 x52 x53 x54 x55 x56 x57 x58 x59 x60 x61 x62 x63 x64 x65 x66 x67 x68 x69 x70 x71 x72 x73 x74 x75 x76 x77 x78 x79 x80 x81 x82 x83 x84 x85 x86 x87 x88 x89 x90 x91 x92 x93 x94 x95 x96 x97 x98 x99 x100 x101 x102 x103 x104 x105 x106 x107 x108 x109 x110 x111 x112 x113 x114 x115 x116 x117 x118 x119 x120 x121 x122 x123 x124 x125 x126 x127 x128 x129 x130 x131 x132 x133 x134 x135 x136 x137 x138 x139 x140 x141 x142 x143 x144 x145 x146 x147 x148 x149 x150 x151 x152 : Value} {Q : Exit → Act → World → Prop} (hP : PR w W gd gr s s v p u o) (hs : St TT 20001 s)
    (hQ : ∀ (y0 y1 y2 y3 y4 y5 y6 y7 y9 y10 y11 y12 y13 y14 y15 y16 y17 y18 y19 y20 y21 y22 y23 y24 y25 y26 y27 y28 y29 y30 y31 y32 y33 y34 y35 y36 y37 y38 y39 y40 y41 y42 y43 y44 y45 y46 y47 y48 y49 y50 y51 y52 y53 y54 y55 y56 y57 y58 y59 y60 y61 y62 y63 y64 y65 y66 y67 y68 y69 y70 y71 y72 y73 y74 y75 y76 y77 y78 y79 y80 y81 y82 y83 y84 y85 y86 y87 y88 y89 y90 y91 y92 y93 y94 y95 y96 y97 y98 y99 y100 y101 y102 y103 y104 y105 y106 y107 y108 y109 y110 y111 y112 y113 y114 y115 y116 y117 y118 y119 y120 y121 y122 y123 y124 y125 y126 y127 y128 y129 y130 y131 y132 y133 y134 y135 y136 y137 y138 y139 y140 y141 y142 y143 y144 y145 y146 y147 y148 y149 y150 y151 y152 : Value)  (w' : World), Upd [] w w' → Q .ret ⟨#[y0, y1, y2, y3, y4, y5, y6, y7, .bool true, y9, y10, y11, y12, y13, y14, y15, y16, y17, y18, y19, y20, y21, y22, y23, y24, y25, y26, y27, y28, y29, y30, y31, y32, y33, y34, y35, y36, y37, y38, y39, y40, y41, y42, y43, y44, y45, y46, y47, y48, y49, y50, y51, y52, y53, y54, y55, y56, y57, y58, y59, y60, y61, y62, y63, y64, y65, y66, y67, y68, y69, y70, y71, y72, y73, y74, y75, y76, y77, y78, y79, y80, y81, y82, y83, y84, y85, y86, y87, y88, y89, y90, y91, y92, y93, y94, y95, y96, y97, y98, y99, y100, y101, y102, y103, y104, y105, y106, y107, y108, y109, y110, y111, y112, y113, y114, y115, y116, y117, y118, y119, y120, y121, y122, y123, y124, y125, y126, y127, y128, y129, y130, y131, y132, y133, y134, y135, y136, y137, y138, y139, y140, y141, y142, y143, y144, y145, y146, y147, y148, y149, y150, y151, y152], []⟩ w') {K : Act → World → Prop} (hK : ∀ a w, Code.wp Tryz.prog restP23 Q a w → K a w) : Code.wp Tryz.prog regP23 (Exit.then K Q) ⟨#[x0, x1, x2, x3, x4, x5, x6, x7, x8, .pointer (some ⟨gd, 0, none⟩), .pointer (some ⟨gr, 0, none⟩), x11, x12, x13, x14, x15, x16, x17, x18, x19, x20, x21, x22, x23, x24, x25, x26, x27, x28, x29, x30, x31, x32, x33, x34, x35, x36, x37, x38, x39, x40, x41, x42, x43, x44, x45, x46, x47, x48, x49, x50, x51, x52, x53, x54, x55, x56, x57, x58, x59, x60, x61, x62, x63, x64, x65, x66, x67, x68, x69, x70, x71, x72, x73, x74, x75, x76, x77, x78, x79, x80, x81, x82, x83, x84, x85, x86, x87, x88, x89, x90, x91, x92, x93, x94, x95, x96, x97, x98, x99, x100, x101, x102, x103, x104, x105, x106, x107, x108, x109, x110, x111, x112, x113, x114, x115, x116, x117, x118, x119, x120, x121, x122, x123, x124, x125, x126, x127, x128, x129, x130, x131, x132, x133, x134, x135, x136, x137, x138, x139, x140, x141, x142, x143, x144, x145, x146, x147, x148, x149, x150, x151, x152], []⟩ W := by
  conv => arg 2; whnf
  change ∀ a w, Code.wp _ (Code.seq _ _) Q a w → K a w at hK
  have HQ := Lib.hid hQ
  clear hQ
  have HP := Lib.hid hP
  have HS := Lib.hid hs
  have HM := Lib.hid hs.mark
  obtain ⟨t, s4, hop⟩ : ∃ t s4, jOpen (dMark s) = (t, s4) := ⟨_, _, rfl⟩
  have HOP := Lib.hid hop
  have HS4 : Hid (St TT 2 s4) := by have := (jOpen_ok HM.out).2; rw [hop] at this; exact this
  have HAG : Hid (jOpen (dMark s4) = (t, dMark s4)) := by have := jo_again HM.out; rw [hop] at this; exact this
  have HK0 : Hid ((0 : Nat) ≤ 470000000) := by unfold Hid; omega
  clear hP hs hop
  go_wp2_with fail
  (with_reducible refine (prMark HP.out HS.out).mono ?_)
  rintro e w3 ⟨rfl, h3⟩
  have H3 := Lib.hid h3
  clear h3
  go_wp2_with fail
  (with_reducible refine (prMarkR H3.out).mono ?_)
  rintro e w4 ⟨rfl, h4⟩
  obtain ⟨G1, G2, k1, k2, k3, -⟩ := h4.ex
  have HD := Lib.hid k1
  have HR := Lib.hid k2
  have HA := Lib.hid k3
  clear h4 k1 k2 k3 H3
  go_wp2_with fail
  (with_reducible refine (jopen_s HD.out HM.out HK0.out HOP.out).mono ?_)
  rintro e w5 ⟨gj, rfl, ho⟩
  obtain ⟨F5, G5, k1, k2, k3⟩ := jr_start1 HD.out HR.out HA.out ho
  have HJ5 := Lib.hid k1
  have HR5 := Lib.hid k2
  have HA5 := Lib.hid k3
  clear ho k1 k2 k3 HD HR HA
  dsimp only
  go_wp2_with fail
  (with_reducible refine (rjopen_s HR5.out HM.out HK0.out HOP.out).mono ?_)
  rintro e w6 ⟨gk, rfl, ho⟩
  have HJ6 := Lib.hid (jr_start2 HJ5.out HR5.out HA5.out ho)
  clear ho HJ5 HR5 HA5
  dsimp only
  go_wp2_with fail
  (with_reducible refine (rjAlike_any HJ6.out HS4.out).mono ?_)
  rintro e w7 ⟨rfl, hu7⟩
  obtain ⟨F7, G7, G8, h7, -⟩ := (HJ6.out.upd0 hu7).ex
  have H7 := Lib.hid h7
  clear hu7 h7
  go_upto_region 28 with fail
  exact jo28 H7.out HS4.out HAG.out HQ.out (by assumption)
end Go.Proofs.YtmhojaiajhdlcaaGreat
namespace Go.Proofs.YtmhojaiajhdlcaaGreat
open Go.RowKit
set_option linter.unusedSimpArgs false
set_option linter.unusedVariables false
noncomputable def regP17 : Code := regAtOf 17 Tryz.f6.body
noncomputable def restP17 : Code := restAtOf 17 Tryz.f6.body
set_option maxRecDepth 100000 in
set_option maxHeartbeats 8000000 in
theorem jo17 {w W : World} {b o wl : List UInt8} {cut : Int} {b1 o1 wa : Option Addr} {bc oc wk gd gr n0 : Nat} {G1 G2 : List Nat} {x2 x4 x5 x6 x7 x8 x12 x13 x14 x15 x16 x17 x18 x19 x20 x21 x22 x23 x24 x25 x26 x27 x28 x29 x30 x31 x32 x33 x34 x35 x36 x37 x38 x39 x40 x41 x42 x43 x44 x45 x46 x47 x48 x49 x50 x51 x52 x53 x54 x55 x56 x57 x58 x59 x60 x61 x62 x63 x64 x65 x66 x67 x68 x69 x70 x71 x72 x73 x74 x75 x76 x77 x78 x79 x80 x81 x82 x83 x84 x85 x86 x87 x88 x89 x90 x91 x92 x93 x94 x95 x96 x97 x98 x99 x100 x101 x102 x103 x104 x105 x106 x107 x108 x109 x110 x111 x112 x113 x114 x115 x116 x117 x118 x119 x120 x121 x122 x123 x124 x125 x126 x127 x128 x129 x130 x131 x132 x133 x134 x135 x136 x137 x138 x139 x140 x141 x142 x143 x144 x145 x146 x147 x148 x149 x150 x151 x152 : Value} {Q : Exit → Act → World → Prop} (hD : DD w W gd G1 ⟨[], [], []⟩) (hR : RD w W gr G2 ⟨[], [], []⟩) (hA : Ap G1 G2) (hb : Bytes W (.slice b1 b.length bc) b) (hob : Bytes W (.slice o1 o.length oc) o) (hba : b ≠ [] → ∀ x ∈ blk (.slice b1 b.length bc), x < w.heap.size) (hoa : o ≠ [] → ∀ x ∈ blk (.slice o1 o.length oc), x < w.heap.size) (hbl : b.length ≤ 400) (hol : o.length ≤ 400) (hI : -9223372036854775808 ≤ cut ∧ cut ≤ 9223372036854775807) (hO : Own bv n0 5 W (.slice wa wl.length wk) wl) (hwl : wl.length ≤ 6000) (hG : (∀ x ∈ G1, x < n0) ∧ ∀ x ∈ G2, x < n0) (hn0 : w.heap.size ≤ n0 ∧ n0 ≤ W.heap.size)
    (hQ : ∀ (y0 y1 y2 y3 y4 y5 y6 y7 y9 y10 y11 y12 y13 y14 y15 y16 y17 y18 y19 y20 y21 y22 y23 y24 y25 y26 y27 y28 y29 y30 y31 y32 y33 y34 y35 y36 y37 y38 y39 y40 y41 y42 y43 y44 y45 y46 y47 y48 y49 y50 y51 y52 y53 y54 y55 y56 y57 y58 y59 y60 y61 y62 y63 y64 y65 y66 y67 y68 y69 y70 y71 y72 y73 y74 y75 y76 y77 y78 y79 y80 y81 y82 y83 y84 y85 y86 y87 y88 y89 y90 y91 y92 y93 y94 y95 y96 y97 y98 y99 y100 y101 y102 y103 y104 y105 y106 y107 y108 y109 y110 y111 y112 y113 y114 y115 y116 y117 y118 y119 y120 y121 y122 y123 y124 y125 y126 y127 y128 y129 y130 y131 y132 y133 y134 y135 y136 y137 y138 y139 y140 y141 y142 y143 y144 y145 y146 y147 y148 y149 y150 y151 y152 : Value)  (w' : World), Upd [] w w' → Q .ret ⟨#[y0, y1, y2, y3, y4, y5, y6, y7, .bool true, y9, y10, y11, y12, y13, y14, y15, y16, y17, y18, y19, y20, y21, y22, y23, y24, y25, y26, y27, y28, y29, y30, y31, y32, y33, y34, y35, y36, y37, y38, y39, y40, y41, y42, y43, y44, y45, y46, y47, y48, y49, y50, y51, y52, y53, y54, y55, y56, y57, y58, y59, y60, y61, y62, y63, y64, y65, y66, y67, y68, y69, y70, y71, y72, y73, y74, y75, y76, y77, y78, y79, y80, y81, y82, y83, y84, y85, y86, y87, y88, y89, y90, y91, y92, y93, y94, y95, y96, y97, y98, y99, y100, y101, y102, y103, y104, y105, y106, y107, y108, y109, y110, y111, y112, y113, y114, y115, y116, y117, y118, y119, y120, y121, y122, y123, y124, y125, y126, y127, y128, y129, y130, y131, y132, y133, y134, y135, y136, y137, y138, y139, y140, y141, y142, y143, y144, y145, y146, y147, y148, y149, y150, y151, y152], []⟩ w') {K : Act → World → Prop} (hK : ∀ a w, Code.wp Tryz.prog restP17 Q a w → K a w) : Code.wp Tryz.prog regP17 (Exit.then K Q) ⟨#[.slice b1 b.length bc, .slice o1 o.length oc, x2, .int .i64 cut, x4, x5, x6, x7, x8, .pointer (some ⟨gd, 0, none⟩), .pointer (some ⟨gr, 0, none⟩), .slice wa wl.length wk, x12, x13, x14, x15, x16, x17, x18, x19, x20, x21, x22, x23, x24, x25, x26, x27, x28, x29, x30, x31, x32, x33, x34, x35, x36, x37, x38, x39, x40, x41, x42, x43, x44, x45, x46, x47, x48, x49, x50, x51, x52, x53, x54, x55, x56, x57, x58, x59, x60, x61, x62, x63, x64, x65, x66, x67, x68, x69, x70, x71, x72, x73, x74, x75, x76, x77, x78, x79, x80, x81, x82, x83, x84, x85, x86, x87, x88, x89, x90, x91, x92, x93, x94, x95, x96, x97, x98, x99, x100, x101, x102, x103, x104, x105, x106, x107, x108, x109, x110, x111, x112, x113, x114, x115, x116, x117, x118, x119, x120, x121, x122, x123, x124, x125, x126, x127, x128, x129, x130, x131, x132, x133, x134, x135, x136, x137, x138, x139, x140, x141, x142, x143, x144, x145, x146, x147, x148, x149, x150, x151, x152], []⟩ W := by
  conv => arg 2; whnf
  change ∀ a w, Code.wp _ (Code.seq _ _) Q a w → K a w at hK
  have HQ := Lib.hid hQ
  clear hQ
  obtain ⟨n, hn, hnl⟩ := within_nat cut wl.length
  have HN := Lib.hid hn
  have HNL := Lib.hid hnl
  obtain ⟨c9, hw1, hw2, hw3⟩ : ∃ c9 : Unit, wl.length ≤ wk ∧ wk ≤ maxLen ∧ True := by
    obtain ⟨a9, k9, he9, q1, q2, -⟩ := hO.rd
    injection he9 with e1 e2 e3
    subst e3
    exact ⟨(), q1, q2, trivial⟩
  have hwk : wk ≤ 9223372036854775807 := by unfold maxLen at hw2; omega
  have HC : Hid (Own bv n0 5 W (.slice wa n wk) (wl.take n)) := own_cut hO n hnl
  have HBB := Lib.hid hb
  have HOB := Lib.hid hob
  have HBA := Lib.hid hba
  have HOA := Lib.hid hoa
  have HG := Lib.hid hG
  have HN0 := Lib.hid hn0
  have HHB : Hid (b.length ≤ 400 ∧ o.length ≤ 400) := ⟨hbl, hol⟩
  have hcut := fun V => run_cut_h (P := Tryz.prog) (size := 1) Tryz.underlying28 sizeByte wa wl.length wk n (by omega) V
  have HRUN := Lib.hid (fun ty => run_app (P := Tryz.prog) (w := W) (ty := ty) bv_one Tryz.underlying28 infoB8 rfl (.slice wa n wk) (.slice b1 b.length bc) (wl.take n) b HC.out hb (by rw [List.length_take]; omega) (by rw [List.length_take]; unfold maxLen; omega) hn0.2)
  have HLEN : Hid ((wl.take n ++ b).length ≤ 10000) := by unfold Hid; rw [List.length_append, List.length_take]; omega
  have hwl1 : (wl.length : Int) ≤ 4611686018427387904 := by omega
  have HI := Lib.hid hI
  have HGE : Hid (∀ x ∈ blk (.slice wa n wk), n0 ≤ x) := fun x hx => (HC.out.ge x hx).1
  have HD := Lib.hid hD
  have HR := Lib.hid hR
  have HA := Lib.hid hA
  have HWL := Lib.hid hwl
  by_cases ho0 : o = []
  · have t0 : ¬ (0 : Int) < (o.length : Int) := by rw [ho0]; simp
    have HO0 := Lib.hid ho0
    clear hO hb hn hnl hw2 hw3 hI hob hba hoa hG hn0 hbl hol hD hR hA hwl ho0
    go_wp2_with fail
    (with_reducible refine (within_any cut 0 wl.length W HI.out (by omega) (by omega) hwl1).mono ?_)
    rw [HN.out]
    rintro e w1 ⟨rfl, rfl⟩
    go_wp2_with (at_builtin; go_must (refine wpList_app_of rfl _ _ rfl (.slice wa n wk) (.slice b1 b.length bc) rfl rfl (HRUN.out _) ?_; rintro v2 w2 ⟨ho2, hu2, hk2⟩; have HO2 := Lib.hid ho2; have HU2 := Lib.hid hu2; clear ho2 hu2 hk2 HRUN; dsimp only))
    have HP : Hid (Bytes w2 v2 (wl.take n ++ b)) := HO2.out.rd
    have HV2 : Hid (∀ x ∈ blk v2, n0 ≤ x) := fun x hx => (HO2.out.ge x hx).1
    have HD2 : Hid (DD w w2 gd G1 ⟨[], [], []⟩) := HD.out.upd HU2.out (fun x hx hs => by have := HGE.out x hs; have := HG.out.1 x hx; omega) (fun x hx => by have := HGE.out x hx; have := HN0.out.1; omega)
    have HR2 : Hid (RD w w2 gr G2 ⟨[], [], []⟩) := HR.out.upd HU2.out (fun x hx hs => by have := HGE.out x hs; have := HG.out.2 x hx; omega) (fun x hx => by have := HGE.out x hx; have := HN0.out.1; omega)
    have HOB2 : Hid (Kb w2 (.slice o1 o.length oc) o G1 G2) := by
      have h := Kb.step (G1 := []) (G2 := blk (.slice wa n wk)) (G1' := G1) (G2' := G2) ⟨HOB.out, fun q x hx => ⟨by simp, fun hs => by have := HGE.out x hs; have := HOA.out q x hx; have := HN0.out.1; omega⟩⟩ HU2.out (fun x hx => .inr hx)
      refine ⟨?_, fun q x hx => ⟨fun hg => ?_, fun hg => ?_⟩⟩
      · exact (Kb.step (G1 := []) (G2 := blk (.slice wa n wk)) (G1' := []) (G2' := []) ⟨HOB.out, fun q x hx => ⟨by simp, fun hs => by have := HGE.out x hs; have := HOA.out q x hx; have := HN0.out.1; omega⟩⟩ HU2.out (fun x hx => .inr hx) (by simp) (by simp)).b
      · have := HOA.out q x hx; have := (HD.out.ge x hg).1; omega
      · have := HOA.out q x hx; have := (HR.out.ge x hg).1; omega
    obtain ⟨p, hp⟩ : ∃ p, wl.take n ++ b = p := ⟨_, rfl⟩
    rw [hp] at HP HLEN
    have HPB2 : Hid (Kb w2 v2 p G1 G2) := ⟨HP.out, fun q x hx => ⟨fun hg => by have := HV2.out x hx; have := HG.out.1 x hg; omega, fun hg => by have := HV2.out x hx; have := HG.out.2 x hg; omega⟩⟩
    clear hp HO2 HU2 HC hcut HGE
    obtain ⟨pa, pk, rfl, -⟩ := id HP.out
    have H2 : Hid (PR w w2 gd gr ⟨[], [], []⟩ ⟨[], [], []⟩ (.slice pa p.length pk) p (.slice o1 o.length oc) o) := ⟨G1, G2, HD2.out, HR2.out, HA.out, HPB2.out, HOB2.out⟩
    obtain ⟨s1, hs1⟩ : ∃ s1, (dAppend ⟨[], [], []⟩ nmJ p).2 = s1 := ⟨_, rfl⟩
    have HS1 := Lib.hid hs1
    have HST1 : Hid (St TT 10001 s1) := by have := jo_st1 p HLEN.out; rw [hs1] at this; exact this
    have HST0 : Hid (St TT 0 ⟨[], [], []⟩) := St.zero trivial
    have HK0 : Hid ((0 : Nat) ≤ 470000000) := by unfold Hid; omega
    have HK1 : Hid ((10001 : Nat) ≤ 470000000) := by unfold Hid; omega
    have HPL : Hid (p.length ≤ 100000000) := by have := HLEN.out; unfold Hid; omega
    clear hs1 HD2 HR2 HOB2 HPB2 HD HR HA HP HV2 HBB HOB HBA HOA HG HN0
    go_wp2_with fail
    (with_reducible refine (prAppD H2.out nmJ HPL.out HST0.out HK0.out HS1.out).mono ?_)
    rintro e w5 ⟨n5, rfl, h5⟩
    have H5 := Lib.hid h5
    clear h5
    go_wp2_with fail
    (with_reducible refine (prAppR H5.out nmJ HPL.out HST0.out HK0.out HS1.out).mono ?_)
    rintro e w6 ⟨n6, rfl, h6⟩
    have H6 := Lib.hid h6
    clear h6 H5 H2
    go_upto_region 23 with fail
    have HST : Hid (St TT 20001 (joLay p o)) := jo_st2 p o HLEN.out HHB.out.2
    have HF : Hid (PR w w6 gd gr (joLay p o) (joLay p o) (.slice pa p.length pk) p (.slice o1 o.length oc) o) := by
      have hz : joLay p o = s1 := by unfold joLay; rw [if_pos HO0.out]; exact HS1.out
      rw [hz]; exact H6.out
    exact jo23 HF.out HST.out HQ.out (by assumption)
  · have t0 : (0 : Int) < (o.length : Int) := by
      have : 0 < o.length := by rcases o with _ | ⟨x, o⟩ <;> simp at ho0 ⊢
      omega
    have HO0 := Lib.hid ho0
    clear hO hb hn hnl hw2 hw3 hI hob hba hoa hG hn0 hbl hol hD hR hA hwl ho0
    go_wp2_with fail
    (with_reducible refine (within_any cut 0 wl.length W HI.out (by omega) (by omega) hwl1).mono ?_)
    rw [HN.out]
    rintro e w1 ⟨rfl, rfl⟩
    go_wp2_with (at_builtin; go_must (refine wpList_app_of rfl _ _ rfl (.slice wa n wk) (.slice b1 b.length bc) rfl rfl (HRUN.out _) ?_; rintro v2 w2 ⟨ho2, hu2, hk2⟩; have HO2 := Lib.hid ho2; have HU2 := Lib.hid hu2; clear ho2 hu2 hk2 HRUN; dsimp only))
    have HP : Hid (Bytes w2 v2 (wl.take n ++ b)) := HO2.out.rd
    have HV2 : Hid (∀ x ∈ blk v2, n0 ≤ x) := fun x hx => (HO2.out.ge x hx).1
    have HD2 : Hid (DD w w2 gd G1 ⟨[], [], []⟩) := HD.out.upd HU2.out (fun x hx hs => by have := HGE.out x hs; have := HG.out.1 x hx; omega) (fun x hx => by have := HGE.out x hx; have := HN0.out.1; omega)
    have HR2 : Hid (RD w w2 gr G2 ⟨[], [], []⟩) := HR.out.upd HU2.out (fun x hx hs => by have := HGE.out x hs; have := HG.out.2 x hx; omega) (fun x hx => by have := HGE.out x hx; have := HN0.out.1; omega)
    have HOB2 : Hid (Kb w2 (.slice o1 o.length oc) o G1 G2) := by
      have h := Kb.step (G1 := []) (G2 := blk (.slice wa n wk)) (G1' := G1) (G2' := G2) ⟨HOB.out, fun q x hx => ⟨by simp, fun hs => by have := HGE.out x hs; have := HOA.out q x hx; have := HN0.out.1; omega⟩⟩ HU2.out (fun x hx => .inr hx)
      refine ⟨?_, fun q x hx => ⟨fun hg => ?_, fun hg => ?_⟩⟩
      · exact (Kb.step (G1 := []) (G2 := blk (.slice wa n wk)) (G1' := []) (G2' := []) ⟨HOB.out, fun q x hx => ⟨by simp, fun hs => by have := HGE.out x hs; have := HOA.out q x hx; have := HN0.out.1; omega⟩⟩ HU2.out (fun x hx => .inr hx) (by simp) (by simp)).b
      · have := HOA.out q x hx; have := (HD.out.ge x hg).1; omega
      · have := HOA.out q x hx; have := (HR.out.ge x hg).1; omega
    obtain ⟨p, hp⟩ : ∃ p, wl.take n ++ b = p := ⟨_, rfl⟩
    rw [hp] at HP HLEN
    have HPB2 : Hid (Kb w2 v2 p G1 G2) := ⟨HP.out, fun q x hx => ⟨fun hg => by have := HV2.out x hx; have := HG.out.1 x hg; omega, fun hg => by have := HV2.out x hx; have := HG.out.2 x hg; omega⟩⟩
    clear hp HO2 HU2 HC hcut HGE
    obtain ⟨pa, pk, rfl, -⟩ := id HP.out
    have H2 : Hid (PR w w2 gd gr ⟨[], [], []⟩ ⟨[], [], []⟩ (.slice pa p.length pk) p (.slice o1 o.length oc) o) := ⟨G1, G2, HD2.out, HR2.out, HA.out, HPB2.out, HOB2.out⟩
    obtain ⟨s1, hs1⟩ : ∃ s1, (dAppend ⟨[], [], []⟩ nmJ p).2 = s1 := ⟨_, rfl⟩
    have HS1 := Lib.hid hs1
    have HST1 : Hid (St TT 10001 s1) := by have := jo_st1 p HLEN.out; rw [hs1] at this; exact this
    have HST0 : Hid (St TT 0 ⟨[], [], []⟩) := St.zero trivial
    have HK0 : Hid ((0 : Nat) ≤ 470000000) := by unfold Hid; omega
    have HK1 : Hid ((10001 : Nat) ≤ 470000000) := by unfold Hid; omega
    have HPL : Hid (p.length ≤ 100000000) := by have := HLEN.out; unfold Hid; omega
    clear hs1 HD2 HR2 HOB2 HPB2 HD HR HA HP HV2 HBB HOB HBA HOA HG HN0
    go_wp2_with fail
    (with_reducible refine (prAppD H2.out nmJ HPL.out HST0.out HK0.out HS1.out).mono ?_)
    rintro e w5 ⟨n5, rfl, h5⟩
    have H5 := Lib.hid h5
    clear h5
    go_wp2_with fail
    (with_reducible refine (prAppR H5.out nmJ HPL.out HST0.out HK0.out HS1.out).mono ?_)
    rintro e w6 ⟨n6, rfl, h6⟩
    have H6 := Lib.hid h6
    clear h6 H5 H2
    obtain ⟨s2, hs2⟩ : ∃ s2, (dAppend s1 nmN o).2 = s2 := ⟨_, rfl⟩
    have HS2 := Lib.hid hs2
    have HOL : Hid (o.length ≤ 100000000) := by have := HHB.out.2; unfold Hid; omega
    clear hs2
    go_wp2_with fail
    (with_reducible refine (prAppD H6.out.swap nmN HOL.out HST1.out HK1.out HS2.out).mono ?_)
    rintro e w7 ⟨n7, rfl, h7⟩
    have H7 := Lib.hid h7
    clear h7
    go_wp2_with fail
    (with_reducible refine (prAppR H7.out nmN HOL.out HST1.out HK1.out HS2.out).mono ?_)
    rintro e w8 ⟨n8, rfl, h8⟩
    have H8 := Lib.hid h8
    clear h8 H7
    go_upto_region 23 with fail
    have HST : Hid (St TT 20001 (joLay p o)) := jo_st2 p o HLEN.out HHB.out.2
    have HF : Hid (PR w w8 gd gr (joLay p o) (joLay p o) (.slice o1 o.length oc) o (.slice pa p.length pk) p) := by
      have hz : joLay p o = s2 := by unfold joLay; rw [if_neg HO0.out, HS1.out]; exact HS2.out
      rw [hz]; exact H8.out
    exact jo23 HF.out HST.out HQ.out (by assumption)
end Go.Proofs.YtmhojaiajhdlcaaGreat
namespace Go.Proofs.YtmhojaiajhdlcaaGreat
open Go.RowKit
set_option linter.unusedSimpArgs false
set_option linter.unusedVariables false
theorem rjset_s {w0 w : World} {gr gk : Nat} {G : List Nat} {t' : JS} {s' : DS} {v : Value} {l : List Ch} {e : Int} (h : RJD w0 w gr gk G [] ⟨[], [], []⟩) (hl : RdN 2 chCells w v l) (hX : ∀ x ∈ blk v, x ∉ gk :: G) (hI : ∀ c ∈ l, I64 c.1 ∧ c.2.size ≤ 1000000) (he : jSet [] ⟨[], [], []⟩ l = (e, t', s')) :
    Calls Tryz.prog 39 #[.pointer (some ⟨gk, 0, none⟩), v] w fun x w' => x = .returned (.int .i64 e) ∧ ∃ G', RJD w0 w' gr gk G' t' s' := by
  have hc := rjSet_any v l h hl hX hI (by simp) (by simp)
  rw [he] at hc
  refine hc.mono ?_
  rintro x w' ⟨rfl, G', k1, -⟩
  exact ⟨rfl, G', k1⟩
theorem rdRead_s {w0 w : World} {gr : Nat} {G : List Nat} {s : DS} (h : RD w0 w gr G s) (hn : s.now.length ≤ 5000) {p : List UInt8} {ok : Bool} (he : dGet s.now nmJ = (p, ok)) :
    Calls Tryz.prog 29 #[.pointer (some ⟨gr, 0, none⟩), sv nmJ] w fun e w' => ∃ a k, e = .returned (.tuple #[.slice a p.length k, .bool ok]) ∧ Bytes w' (.slice a p.length k) p ∧ Upd [] w w' := by
  have hc := rdRead_any nmJ h hn
  rw [he] at hc
  refine hc.mono ?_
  rintro e w' ⟨v, rfl, hb, -, hu⟩
  obtain ⟨a, k, rfl, -⟩ := id hb
  exact ⟨a, k, rfl, hb, hu⟩
set_option maxRecDepth 100000 in
set_option maxHeartbeats 8000000 in
theorem journalOpens_any (w : World) (vb : Value) (b : List UInt8) (hb : Bytes w vb b) (hz1 : b.length ≤ 140737488351232) (vo : Value) (o : List UInt8) (ho : Bytes w vo o) (hz2 : o.length ≤ 140737488351232) (vl : Value) (l : List Ask24) (hl : RdN 4 ask24Cells w vl l) (hg : ∀ x ∈ l, Ask24Good x) (cut : Int) (hc : I64 cut) :
    Calls Tryz.prog 6 #[vb, vo, vl, .int .i64 cut] w fun e w' => e = .returned (.bool true) ∧ Upd [] w w' := by
  obtain ⟨a1, cap1, rfl, hlc1, hcm1, hcell1⟩ := hl
  have hm1 : l.length ≤ 9223372036854775807 := by unfold maxLen at hcm1; omega
  have HC1 := Lib.hid hcell1
  have HG := Lib.hid hg
  have HB := Lib.hid hb
  have HO := Lib.hid ho
  have HBA : Hid (b ≠ [] → ∀ x ∈ blk vb, x < w.heap.size) := fun q => hb.lt q
  have HOA : Hid (o ≠ [] → ∀ x ∈ blk vo, x < w.heap.size) := fun q => ho.lt q
  obtain ⟨b1, bc, rfl, hb1, hb2, -⟩ := hb
  obtain ⟨o1, oc, rfl, ho1, ho2, -⟩ := ho
  have hbm : b.length ≤ 9223372036854775807 := by unfold maxLen at hb2; omega
  have hom : o.length ≤ 9223372036854775807 := by unfold maxLen at ho2; omega
  have HI : Hid (-9223372036854775808 ≤ cut ∧ cut ≤ 9223372036854775807) := hc
  clear hlc1 hcm1 hcell1 hc hg hb1 hb2 ho1 ho2
  by_cases hbig : 400 < b.length
  · have t6 : (400 : Int) < b.length := by omega
    go_enter Tryz.func6, Tryz.ntmps6
    go_wp2_with fail
    (with_reducible refine (journalRuns_any _).mono ?_)
    rintro e w15 ⟨rfl, hu15⟩
    have HU := Lib.hid hu15
    clear hu15
    go_wp2_with fail
    go_ret
    exact ⟨rfl, HU.out⟩
  by_cases hbig2 : 400 < o.length
  · have t6 : ¬ (400 : Int) < b.length := by omega
    have t7 : (400 : Int) < o.length := by omega
    go_enter Tryz.func6, Tryz.ntmps6
    go_wp2_with fail
    (with_reducible refine (journalRuns_any _).mono ?_)
    rintro e w15 ⟨rfl, hu15⟩
    have HU := Lib.hid hu15
    clear hu15
    go_wp2_with fail
    go_ret
    exact ⟨rfl, HU.out⟩
  have t6 : ¬ (400 : Int) < b.length := by omega
  have t7 : ¬ (400 : Int) < o.length := by omega
  have HBL : Hid (b.length ≤ 400) := by unfold Hid; omega
  have HOL : Hid (o.length ≤ 400) := by unfold Hid; omega
  clear hbig hbig2
  go_enter Tryz.func6, Tryz.ntmps6
  go_wp2_with fail
  (with_reducible refine (dNew_any w w (Upd.refl [] w)).mono ?_)
  rintro e w1 ⟨gd, G1, rfl, h1, hu1, hf1⟩
  have H1 := Lib.hid h1
  obtain ⟨G2, h2, hf2⟩ := RD.new w w1 hu1
  have hu2 : Upd [] w1 (w1.alloc (.cells #[.slice none 0 0, .slice none 0 0, .slice none 0 0] 45)) := (Upd.refl [] w1).alloc _
  have HT : Hid (DD w (w1.alloc (.cells #[.slice none 0 0, .slice none 0 0, .slice none 0 0] 45)) gd G1 ⟨[], [], []⟩) := H1.out.upd0 hu2
  have HR : Hid (RD w (w1.alloc (.cells #[.slice none 0 0, .slice none 0 0, .slice none 0 0] 45)) w1.heap.size G2 ⟨[], [], []⟩) := h2
  have HA : Hid (Ap G1 G2) := fun x hx hy => by have := (H1.out.ge x hx).2; have := hf2 x hy; omega
  have HU2 : Hid (Upd [] w (w1.alloc (.cells #[.slice none 0 0, .slice none 0 0, .slice none 0 0] 45))) := hu1.seq hu2
  clear h1 hu1 hf1 h2 hf2 H1 hu2
  go_wp2_with fail
  generalize w1.alloc (.cells #[.slice none 0 0, .slice none 0 0, .slice none 0 0] 45) = w2 at *
  generalize w1.heap.size = gr at *
  have HG1 : Hid ((∀ x ∈ G1, x < w2.heap.size) ∧ ∀ x ∈ G2, x < w2.heap.size) := ⟨fun x hx => (HT.out.ge x hx).2, fun x hx => (HR.out.ge x hx).2⟩
  go_loopw [11, 12] (fun vw vi wr => ∃ (k : Nat) (wl : List UInt8) (wa : Option Addr) (wk : Nat), k ≤ 6 ∧ k ≤ l.length ∧ vw = .slice wa wl.length wk ∧ vi = .int .i64 k ∧ Hid (Own bv w2.heap.size 5 wr (.slice wa wl.length wk) wl) ∧ Hid (wl.length ≤ 1000 * k) ∧ Hid (Upd [] w2 wr)) (fun vw vi _ => 6 - (intOf vi).toNat)
  case atStart => exact ⟨0, [], none, 0, by omega, by omega, rfl, rfl, World.ownsRow_nil _ _ _ _, by simp [Hid], Upd.refl _ _⟩
  case round =>
    obtain ⟨k, wl, wa, wk, hk, hkl, rfl, rfl, ho, hwl, hu⟩ := hrel
    have hend : (k < l.length ∧ k < 6) ∨ (k = l.length ∧ Hid (k ≤ 6)) ∨ (k = 6 ∧ k < l.length) := by unfold Hid; omega
    rcases hend with ⟨hlt, h40⟩ | hend
    · obtain ⟨lb, loff, rfl, hca⟩ := HC1.out (by intro h; simp [h] at hlt)
      have q1 : (k : Int) < l.length := by omega
      have q2 : (k : Int) < 6 := by omega
      have q3 : (0 : Int) ≤ k := by omega
      have hcb : ∀ i, i < 4 → w.cell? ⟨lb, loff + (k * 4 + i), none⟩ = (ask24Cells (nth l k))[i]? := hca k hlt
      have hgx := HG.out (nth l k) (by rw [nth_get _ _ hlt]; exact List.getElem_mem _)
      generalize nth l k = x at hcb hgx
      obtain ⟨kd, slot, n0, data⟩ := x
      have HX := Lib.hid hgx
      have HA0 : Hid (w.cell? ⟨lb, loff + k * 4, none⟩ = some (.int .i64 kd)) := hcb 0 (by omega)
      have HA1 : Hid (w.cell? ⟨lb, loff + k * 4 + 1, none⟩ = some (.int .i64 slot)) := hcb 1 (by omega)
      have HA2 : Hid (w.cell? ⟨lb, loff + k * 4 + 2, none⟩ = some (.int .i64 n0)) := hcb 2 (by omega)
      have HA3 : Hid (w.cell? ⟨lb, loff + k * 4 + 3, none⟩ = some (.string data)) := hcb 3 (by omega)
      have HUW := Lib.hid (HU2.out.seq hu.out)
      have d0 : wr.cell? ⟨lb, loff + k * 4, none⟩ = some (.int .i64 kd) := (HUW.out).cell HA0.out (by simp)
      have d1 : wr.cell? ⟨lb, loff + k * 4 + 1, none⟩ = some (.int .i64 slot) := (HUW.out).cell HA1.out (by simp)
      have d2 : wr.cell? ⟨lb, loff + k * 4 + 2, none⟩ = some (.int .i64 n0) := (HUW.out).cell HA2.out (by simp)
      have d3 : wr.cell? ⟨lb, loff + k * 4 + 3, none⟩ = some (.string data) := (HUW.out).cell HA3.out (by simp)
      clear hca hcb HC1 HG
      by_cases k5 : kd = 5
      · subst k5
        have HWN : Hid (wl.length ≤ 1000 * (k + 1)) := by have := hwl.out; unfold Hid; omega
        go_wp2_with fail
        go_roundw
        case rel => exact ⟨k + 1, wl, wa, wk, by omega, by omega, rfl, by go_num, ho, HWN, hu⟩
        case measure => simp [intOf]; omega
      · have t5 : (kd == 5) = false := by rw [beq_eq_false_iff_ne]; exact k5
        have HK5 := Lib.hid k5
        have HOK : Hid (∀ c ∈ setL ⟨kd, slot, n0, data⟩, I64 c.1 ∧ c.2.size ≤ 1000000) := setL_ok _ hgx.slot hgx.n
        have HLEN : Hid (1 ≤ (setL ⟨kd, slot, n0, data⟩).length) := (setL_len _).1
        obtain ⟨cl, hcl⟩ : ∃ cl, setL ⟨kd, slot, n0, data⟩ = cl := ⟨_, rfl⟩
        have HL := Lib.hid hcl
        rw [hcl] at HOK HLEN
        obtain ⟨er, t1, s1, hset⟩ : ∃ e t' s', jSet [] ⟨[], [], []⟩ cl = (e, t', s') := ⟨_, _, _, rfl⟩
        have HSET := Lib.hid hset
        have HJS : Hid (JoSet s1) := jo_set _ k5 hgx.slot hgx.n hcl hset
        obtain ⟨p, pok, hpp⟩ : ∃ p ok, dGet s1.now nmJ = (p, ok) := ⟨_, _, rfl⟩
        have HPP := Lib.hid hpp
        have HPL : Hid (p.length ≤ 1000) := by have := HJS.out.j; rw [hpp] at this; exact this
        have HN1 : Hid (s1.now.length ≤ 5000) := by have := HJS.out.now; unfold Hid; omega
        obtain ⟨G3, r3, -⟩ := RD.new wr wr (Upd.refl [] wr)
        have HJ3 : Hid (RJD wr ((wr.alloc (.cells #[.slice none 0 0, .slice none 0 0, .slice none 0 0] 45)).alloc (.cells #[.pointer (some ⟨wr.heap.size, 0, none⟩), .string ⟨#[]⟩, .string ⟨#[]⟩, .string ⟨#[]⟩, .string ⟨#[]⟩, .string ⟨#[]⟩, .string ⟨#[]⟩, .string ⟨#[]⟩, .string ⟨#[]⟩, .string ⟨#[]⟩, .string ⟨#[]⟩, .string ⟨#[]⟩, .string ⟨#[]⟩, .string ⟨#[]⟩, .string ⟨#[]⟩, .string ⟨#[]⟩, .string ⟨#[]⟩, .string ⟨#[]⟩, .string ⟨#[]⟩, .string ⟨#[]⟩, .string ⟨#[]⟩, .string ⟨#[]⟩, .string ⟨#[]⟩, .string ⟨#[]⟩, .string ⟨#[]⟩, .string ⟨#[]⟩, .string ⟨#[]⟩, .string ⟨#[]⟩, .string ⟨#[]⟩, .string ⟨#[]⟩, .string ⟨#[]⟩, .string ⟨#[]⟩, .string ⟨#[]⟩, .string ⟨#[]⟩, .string ⟨#[]⟩, .string ⟨#[]⟩, .string ⟨#[]⟩, .string ⟨#[]⟩, .string ⟨#[]⟩, .string ⟨#[]⟩, .string ⟨#[]⟩, .string ⟨#[]⟩] 78)) wr.heap.size (wr.alloc (.cells #[.slice none 0 0, .slice none 0 0, .slice none 0 0] 45)).heap.size G3 [] ⟨[], [], []⟩) := RJD.new r3
        have hu3 : Upd [] wr ((wr.alloc (.cells #[.slice none 0 0, .slice none 0 0, .slice none 0 0] 45)).alloc (.cells #[.pointer (some ⟨wr.heap.size, 0, none⟩), .string ⟨#[]⟩, .string ⟨#[]⟩, .string ⟨#[]⟩, .string ⟨#[]⟩, .string ⟨#[]⟩, .string ⟨#[]⟩, .string ⟨#[]⟩, .string ⟨#[]⟩, .string ⟨#[]⟩, .string ⟨#[]⟩, .string ⟨#[]⟩, .string ⟨#[]⟩, .string ⟨#[]⟩, .string ⟨#[]⟩, .string ⟨#[]⟩, .string ⟨#[]⟩, .string ⟨#[]⟩, .string ⟨#[]⟩, .string ⟨#[]⟩, .string ⟨#[]⟩, .string ⟨#[]⟩, .string ⟨#[]⟩, .string ⟨#[]⟩, .string ⟨#[]⟩, .string ⟨#[]⟩, .string ⟨#[]⟩, .string ⟨#[]⟩, .string ⟨#[]⟩, .string ⟨#[]⟩, .string ⟨#[]⟩, .string ⟨#[]⟩, .string ⟨#[]⟩, .string ⟨#[]⟩, .string ⟨#[]⟩, .string ⟨#[]⟩, .string ⟨#[]⟩, .string ⟨#[]⟩, .string ⟨#[]⟩, .string ⟨#[]⟩, .string ⟨#[]⟩, .string ⟨#[]⟩] 78)) := HJ3.out.old
        have e3 : (wr.alloc (.cells #[.slice none 0 0, .slice none 0 0, .slice none 0 0] 45)).heap.size = wr.heap.size + 1 := by simp
        rw [e3] at HJ3
        have HU3 := Lib.hid (HUW.out.seq hu3)
        clear hgx hcl hset hpp r3 hu3 k5 e3
        go_upto_region 13 with fail
        generalize (wr.alloc (.cells #[.slice none 0 0, .slice none 0 0, .slice none 0 0] 45)).alloc (.cells #[.pointer (some ⟨wr.heap.size, 0, none⟩), .string ⟨#[]⟩, .string ⟨#[]⟩, .string ⟨#[]⟩, .string ⟨#[]⟩, .string ⟨#[]⟩, .string ⟨#[]⟩, .string ⟨#[]⟩, .string ⟨#[]⟩, .string ⟨#[]⟩, .string ⟨#[]⟩, .string ⟨#[]⟩, .string ⟨#[]⟩, .string ⟨#[]⟩, .string ⟨#[]⟩, .string ⟨#[]⟩, .string ⟨#[]⟩, .string ⟨#[]⟩, .string ⟨#[]⟩, .string ⟨#[]⟩, .string ⟨#[]⟩, .string ⟨#[]⟩, .string ⟨#[]⟩, .string ⟨#[]⟩, .string ⟨#[]⟩, .string ⟨#[]⟩, .string ⟨#[]⟩, .string ⟨#[]⟩, .string ⟨#[]⟩, .string ⟨#[]⟩, .string ⟨#[]⟩, .string ⟨#[]⟩, .string ⟨#[]⟩, .string ⟨#[]⟩, .string ⟨#[]⟩, .string ⟨#[]⟩, .string ⟨#[]⟩, .string ⟨#[]⟩, .string ⟨#[]⟩, .string ⟨#[]⟩, .string ⟨#[]⟩, .string ⟨#[]⟩] 78) = w3 at *
        generalize wr.heap.size + 1 = gk at *
        generalize wr.heap.size = gr3 at *
        clear d0 d1 d2 d3
        have d0 : w3.cell? ⟨lb, loff + k * 4, none⟩ = some (.int .i64 kd) := (HU3.out).cell HA0.out (by simp)
        have d1 : w3.cell? ⟨lb, loff + k * 4 + 1, none⟩ = some (.int .i64 slot) := (HU3.out).cell HA1.out (by simp)
        have d2 : w3.cell? ⟨lb, loff + k * 4 + 2, none⟩ = some (.int .i64 n0) := (HU3.out).cell HA2.out (by simp)
        have d3 : w3.cell? ⟨lb, loff + k * 4 + 3, none⟩ = some (.string data) := (HU3.out).cell HA3.out (by simp)
        go_wp2_with fail
        (with_reducible refine (sets_any ⟨kd, slot, n0, data⟩ HX.out w3 HL.out).mono ?_)
        rintro e w7 ⟨a3, k3, a4, k4, rfl, hr3, hr4, hg3, hg4, hu7⟩
        have HJ7 := Lib.hid (HJ3.out.upd0 hu7)
        have HAP : Hid (∀ x ∈ blk (.slice a4 cl.length k4), x ∉ gk :: G3) := fun x hx hs => by
          have h1 := hg4.out x hx
          have h2 := (HJ3.out.lts x hs).2
          omega
        have HR4 := Lib.hid hr4.out
        clear hr3 hg3 hg4 hu7 d0 d1 d2 d3 HJ3
        go_wp2_with fail
        (with_reducible refine (rjset_s HJ7.out HR4.out HAP.out HOK.out HSET.out).mono ?_)
        rintro e w8 ⟨rfl, G8, h8⟩
        have H8 := Lib.hid h8
        have HO8 := Lib.hid (ho.out.upd h8.old (by simp))
        have HU8 := Lib.hid (hu.out.seq h8.old)
        have HWN : Hid (wl.length ≤ 1000 * (k + 1)) := by have := hwl.out; unfold Hid; omega
        clear h8 HR4 HAP HJ7
        by_cases h0 : er = 0
        · subst h0
          have c0 := H8.out.c0
          go_wp2_with fail
          (with_reducible refine (rdRead_s H8.out.rd HN1.out HPP.out).mono ?_)
          rintro e w9 ⟨a9, k9, rfl, hb9, hu9⟩
          have HB9 := Lib.hid hb9
          have HO9 := Lib.hid (HO8.out.upd hu9 (by simp))
          have HU9 := Lib.hid (HU8.out.seq hu9)
          have HRUN := Lib.hid (fun ty => run_app (P := Tryz.prog) (w := w9) (ty := ty) bv_one Tryz.underlying28 infoB8 rfl (.slice wa wl.length wk) (.slice a9 p.length k9) wl p HO9.out hb9 (by have := hwl.out; have := HPL.out; omega) (by have := hwl.out; have := HPL.out; unfold maxLen; omega) HU9.out.size)
          have HGE : Hid (∀ x ∈ blk (.slice wa wl.length wk), w2.heap.size ≤ x) := fun x hx => (HO9.out.ge x hx).1
          clear hb9 hu9 c0 HO8 HU8 H8
          go_wp2_with (at_builtin; go_must (refine wpList_app_of rfl _ _ rfl (.slice wa wl.length wk) (.slice a9 p.length k9) rfl rfl (HRUN.out _) ?_; rintro v2 w10 ⟨ho2, hu2, hk2⟩; have HO2 := Lib.hid ho2; have HU10 : Hid (Upd [] w2 w10) := HU9.out.trans hu2 (by simp) (fun x hx => .inr (HGE.out x hx)); clear ho2 hu2 hk2 HRUN; dsimp only))
          obtain ⟨wl', hwl'⟩ : ∃ wl', wl ++ p = wl' := ⟨_, rfl⟩
          have HLN : Hid (wl'.length ≤ 1000 * (k + 1)) := by have := hwl.out; have := HPL.out; unfold Hid; rw [← hwl', List.length_append]; omega
          rw [hwl'] at HO2
          obtain ⟨a2, k2, rfl, -⟩ := id HO2.out.rd
          clear hwl' HO9 HU9 HB9 HGE
          go_roundw
          case rel => exact ⟨k + 1, wl', a2, k2, by omega, by omega, rfl, by go_num, HO2, HLN, HU10⟩
          case measure => simp [intOf]; omega
        · have t0 : (er == 0) = false := by rw [beq_eq_false_iff_ne]; exact h0
          clear h0
          go_wp2_with fail
          go_roundw
          case rel => exact ⟨k + 1, wl, wa, wk, by omega, by omega, rfl, by go_num, HO8, HWN, HU8⟩
          case measure => simp [intOf]; omega
    · have HW9 : Hid (wl.length ≤ 6000) := by have := hwl.out; unfold Hid; omega
      have HT9 := Lib.hid (HT.out.upd0 hu.out)
      have HR9 := Lib.hid (HR.out.upd0 hu.out)
      have HB9 := Lib.hid (HB.out.upd0 (HU2.out.seq hu.out))
      have HO9 := Lib.hid (HO.out.upd0 (HU2.out.seq hu.out))
      have HN9 : Hid (w.heap.size ≤ w2.heap.size ∧ w2.heap.size ≤ wr.heap.size) := ⟨HU2.out.size, hu.out.size⟩
      clear HC1
      rcases hend with ⟨hke, h40⟩ | ⟨hke, hkn⟩
      · have q1 : ¬ (k : Int) < l.length := by omega
        clear h40
        go_upto_region 17 with fail
        refine jo17 HT9.out HR9.out HA.out HB9.out HO9.out HBA.out HOA.out HBL.out HOL.out HI.out ho.out HW9.out HG1.out HN9.out (fun _ _ _ _ _ _ _ _ _ _ _ _ _ _ _ _ _ _ _ _ _ _ _ _ _ _ _ _ _ _ _ _ _ _ _ _ _ _ _ _ _ _ _ _ _ _ _ _ _ _ _ _ _ _ _ _ _ _ _ _ _ _ _ _ _ _ _ _ _ _ _ _ _ _ _ _ _ _ _ _ _ _ _ _ _ _ _ _ _ _ _ _ _ _ _ _ _ _ _ _ _ _ _ _ _ _ _ _ _ _ _ _ _ _ _ _ _ _ _ _ _ _ _ _ _ _ _ _ _ _ _ _ _ _ _ _ _ _ _ _ _ _ _ _ _ _ _ _ _ _ _ _ w9 h => ?_) (by assumption)
        have HF := Lib.hid h
        clear h
        go_ret
        exact ⟨rfl, HF.out⟩
      · have q1 : (k : Int) < l.length := by omega
        have q2 : ¬ (k : Int) < 6 := by omega
        go_upto_region 17 with fail
        refine jo17 HT9.out HR9.out HA.out HB9.out HO9.out HBA.out HOA.out HBL.out HOL.out HI.out ho.out HW9.out HG1.out HN9.out (fun _ _ _ _ _ _ _ _ _ _ _ _ _ _ _ _ _ _ _ _ _ _ _ _ _ _ _ _ _ _ _ _ _ _ _ _ _ _ _ _ _ _ _ _ _ _ _ _ _ _ _ _ _ _ _ _ _ _ _ _ _ _ _ _ _ _ _ _ _ _ _ _ _ _ _ _ _ _ _ _ _ _ _ _ _ _ _ _ _ _ _ _ _ _ _ _ _ _ _ _ _ _ _ _ _ _ _ _ _ _ _ _ _ _ _ _ _ _ _ _ _ _ _ _ _ _ _ _ _ _ _ _ _ _ _ _ _ _ _ _ _ _ _ _ _ _ _ _ _ _ _ _ w9 h => ?_) (by assumption)
        have HF := Lib.hid h
        clear h
        go_ret
        exact ⟨rfl, HF.out⟩
end Go.Proofs.YtmhojaiajhdlcaaGreat
namespace Go.Proofs.YtmhojaiajhdlcaaGreat.lJournalOpens
open Go.ChangeShapes Go.WideShapes Go.ChangeAt Go.RowKit Go.Deep
open Go.ChangeMaps (open_string shut_string)
set_option linter.unusedSimpArgs false
set_option linter.unusedVariables false
theorem own : ownKnob Tryz.prog.godebug = none := by kernel_rfl
theorem laidOut : laidOutB Tryz.prog = true := by kernel_rfl
theorem cells_bytes : Tryz.checked.prog.cellsOf 5 = 1 := by kernel_rfl
theorem size_bytes : Tryz.checked.prog.bytesOf 5 = 1 := by kernel_rfl
set_option maxRecDepth 100000 in
theorem walk (H : Type) (enc : TypeId × Value → H) : LawCalls Tryz.prog 6 Tryz.f6 H enc (fun ds => True) := by
  intro W base args ds ps hval hA hsz hk
  rw [Tryz.params6] at hA hval hsz
  obtain ⟨v0, vs0, d0, ds0, p0, q0, hargs, rfl, rfl, h0, r0⟩ := trodAll_cons hA
  obtain ⟨v1, vs1, d1, ds1, p1, q1, rfl, rfl, rfl, h1, r1⟩ := trodAll_cons r0
  obtain ⟨v2, vs2, d2, ds2, p2, q2, rfl, rfl, rfl, h2, r2⟩ := trodAll_cons r1
  obtain ⟨v3, vs3, d3, ds3, p3, q3, rfl, rfl, rfl, h3, r3⟩ := trodAll_cons r2
  obtain ⟨rfl, rfl, rfl⟩ := trodAll_nil r3
  obtain rfl : args = #[v0, v1, v2, v3] := by cases args; simp_all
  obtain ⟨l0, w0, z0, u0⟩ := open_bytes Tryz.underlying28 Tryz.underlying5 cells_bytes size_bytes (hval 0 _ v0 rfl rfl) h0
  have z0 := z0 _ _ 0 hsz rfl rfl
  obtain ⟨l1, w1, z1, u1⟩ := open_bytes Tryz.underlying28 Tryz.underlying5 cells_bytes size_bytes (hval 1 _ v1 rfl rfl) h1
  have z1 := z1 _ _ 1 hsz rfl rfl
  obtain ⟨l2, w2, g2⟩ := open_asks24 (hval 2 _ v2 rfl rfl) h2
  obtain ⟨a3, rfl, w3⟩ := open_num Tryz.underlying3 (hval 3 _ v3 rfl rfl) h3
  exact journalOpens_any W v0 l0 w0 z0 v1 l1 w1 z1 v2 l2 w2 g2 a3 w3
set_option maxRecDepth 100000 in
theorem lifted (os : Os) (started : os.Started) (H : Type) (enc : TypeId × Value → H) :
    ReturnsInHanded {} Tryz.checked os 6 .any (Rows.journalOpensSpec.pre6 enc Tryz.prog Tryz.f6 Rows.journalOpensRow.domain false) (Rows.journalOpensSpec.post enc Tryz.prog Tryz.f6 false true false false) :=
  law_said (C := Tryz.checked) own started (by kernel_rfl) Tryz.func6
    (ChangeSpec.witness6 (enc := enc) (C := Tryz.checked) false ⟨#[], #[.slice none 0 0, .slice none 0 0, .slice none 0 0, .int .i64 0], []⟩ 8 (by kernel_rfl) (by kernel_rfl) (by kernel_rfl) (by kernel_rfl))
    laidOut (by rw [Tryz.params6]; intro t ht; simp only [List.mem_cons, List.not_mem_nil, or_false] at ht; rcases ht with rfl | rfl | rfl | rfl <;> exact ⟨by kernel_rfl, of_decide_eq_true (by kernel_rfl)⟩) rfl 4 (by kernel_rfl) Tryz.underlying4 (by intro ds h; match ds, h with | [d0, d1, d2, d3], _ => exact ⟨rfl, rfl, rfl⟩) (walk H enc)
theorem proved : Rows.JournalOpensSaid :=
  OpenClaim.holds_of_wide 6 Tryz.f6 rfl rfl rfl rfl rfl rfl rfl ⟨rfl, rfl, rfl, rfl, rfl⟩ rfl rfl rfl rfl rfl (by kernel_rfl) Tryz.func6 (by kernel_rfl)
    (of_decide_eq_true (by kernel_rfl)) (by unfold Func.isWrapper; rw [if_neg (of_decide_eq_false (by kernel_rfl))]; exact ⟨rfl, rfl⟩)
    (fun os started H enc _ => lifted os started H enc)
end Go.Proofs.YtmhojaiajhdlcaaGreat.lJournalOpens
