/- The walk of DiskFront. -/
import Derived.Test.YtmhdhnipljonlaaDiskRuns
import Derived.Test.YtmhdhnipljonlaaDiskTwo
import Derived.Test.YtmhdhnipljonlaaWithin
import Derived.Test.YtmhdhnipljonlaaBookByte
namespace Go.Proofs.Ytmhdhnipljonlaa
open Go.RowKit
set_option linter.unusedSimpArgs false
set_option linter.unusedVariables false
/-- The law's two arrays, beside a disk's blocks G. -/
structure FA (w0 w : World) (A Wb : Nat) (G : List Nat) (c : Bool → List UInt8) (wr : Bool → Nat) (v : Bool → Sl) : Prop where
  all : Blk w A 71 [slv (v false), slv (v true)]
  wro : Blk w Wb 72 [.int .i64 (wr false : Int), .int .i64 (wr true : Int)]
  own : ∀ f, Own bv w0.heap.size 5 w (slv (v f)) (c f)
  aG : A ∉ G
  wG : Wb ∉ G
  vG : ∀ f, Ap (blk (slv (v f))) G
  vv : Ap (blk (slv (v false))) (blk (slv (v true)))
  gA : w0.heap.size ≤ A
  gW : w0.heap.size ≤ Wb
section
variable {w0 w w' : World} {A Wb : Nat} {G G' : List Nat} {c : Bool → List UInt8} {wr : Bool → Nat} {v : Bool → Sl}
theorem FA.cellA (h : FA w0 w A Wb G c wr v) (f : Bool) : w.cell? ⟨A, idx f, none⟩ = some (slv (v f)) := by cases f; exact h.all.cell 0; exact h.all.cell 1
theorem FA.cellW (h : FA w0 w A Wb G c wr v) (f : Bool) : w.cell? ⟨Wb, idx f, none⟩ = some (.int .i64 (wr f : Int)) := by cases f; exact h.wro.cell 0; exact h.wro.cell 1
theorem FA.neAW (h : FA w0 w A Wb G c wr v) : A ≠ Wb := by
  rintro rfl
  have h1 := h.all
  have h2 := h.wro
  unfold Blk at h1 h2
  rw [h1] at h2
  injection h2 with h2; injection h2 with h2 h3 h4
  exact absurd h3 (by decide)
theorem FA.nA (h : FA w0 w A Wb G c wr v) (f : Bool) : A ∉ blk (slv (v f)) := fun hx => by
  have h1 := h.all
  have h2 := (h.own f).2
  rcases h2 with ⟨he, _⟩ | ⟨g, cap, cur, he, _, hg, _⟩
  · rw [he] at hx; simp [blk] at hx
  · rw [he] at hx; simp [blk] at hx; subst hx
    unfold Blk at h1; rw [h1] at hg; injection hg with hg; injection hg with h2 h3 h4; exact absurd h3 (by decide)
theorem FA.nW (h : FA w0 w A Wb G c wr v) (f : Bool) : Wb ∉ blk (slv (v f)) := fun hx => by
  have h1 := h.wro
  have h2 := (h.own f).2
  rcases h2 with ⟨he, _⟩ | ⟨g, cap, cur, he, _, hg, _⟩
  · rw [he] at hx; simp [blk] at hx
  · rw [he] at hx; simp [blk] at hx; subst hx
    unfold Blk at h1; rw [h1] at hg; injection hg with hg; injection hg with h2 h3 h4; exact absurd h3 (by decide)
theorem FA.upd (h : FA w0 w A Wb G c wr v) {S : List Nat} (hu : Upd S w w') (hA : A ∉ S) (hW : Wb ∉ S) (hv : ∀ f, Ap (blk (slv (v f))) S) : FA w0 w' A Wb G c wr v :=
  ⟨h.all.upd hu hA, h.wro.upd hu hW, fun f => (h.own f).upd hu (hv f), h.aG, h.wG, h.vG, h.vv, h.gA, h.gW⟩
theorem FA.upd0 (h : FA w0 w A Wb G c wr v) (hu : Upd [] w w') : FA w0 w' A Wb G c wr v := h.upd hu (by simp) (by simp) (fun f x _ hx => by simp at hx)
/-- A call on the disk. -/
theorem FA.call (h : FA w0 w A Wb G c wr v) (hu : Upd G w w') (hf : ∀ x ∈ G', x ∈ G ∨ w.heap.size ≤ x) : FA w0 w' A Wb G' c wr v := by
  have h1 := h.upd hu h.aG h.wG h.vG
  have hlA := h.all.lt
  have hlW := h.wro.lt
  refine ⟨h1.all, h1.wro, h1.own, fun hx => ?_, fun hx => ?_, fun f x hx hg => ?_, h.vv, h.gA, h.gW⟩
  · rcases hf _ hx with q | q
    · exact h.aG q
    · omega
  · rcases hf _ hx with q | q
    · exact h.wG q
    · omega
  · rcases hf _ hg with q | q
    · exact h.vG f x hx q
    · have := ((h.own f).ge x hx).2; omega
theorem FA.setW (h : FA w0 w A Wb G c wr v) (f : Bool) (n : Nat) : FA w0 (w.setCell ⟨Wb, idx f, none⟩ (.int .i64 (n : Int))) A Wb G c (nup wr f n) v := by
  have hu : Upd [Wb] w (w.setCell ⟨Wb, idx f, none⟩ (.int .i64 (n : Int))) := (Upd.refl [Wb] w).setCell _ _ (.inl (by simp))
  have hb : Blk (w.setCell ⟨Wb, idx f, none⟩ (.int .i64 (n : Int))) Wb 72 [.int .i64 (nup wr f n false : Int), .int .i64 (nup wr f n true : Int)] := by
    have := h.wro.set_ (idx f) (.int .i64 (n : Int))
    cases f
    · exact this
    · exact this
  exact ⟨h.all.upd hu (by simp; exact h.neAW), hb, fun g => (h.own g).upd hu (fun x hx hy => h.nW g (by simp at hy; rw [← hy]; exact hx)), h.aG, h.wG, h.vG, h.vv, h.gA, h.gW⟩
theorem nup_nup (wr : Bool → Nat) (f : Bool) (x y : Nat) : nup (nup wr f x) f y = nup wr f y := by funext g; unfold nup; split <;> rfl
theorem nup_self (wr : Bool → Nat) (f : Bool) : nup wr f (wr f) = wr := by funext g; unfold nup; split <;> simp_all
def vup (v : Bool → Sl) (f : Bool) (s : Sl) : Bool → Sl := fun g => if g = f then s else v g
/-- A file's bytes are appended to. -/
theorem FA.app (h : FA w0 w A Wb G c wr v) (f : Bool) {w2 : World} {s' : Sl} {p : List UInt8} (ho : Own bv w0.heap.size 5 w2 (slv s') (c f ++ p)) (hu : Upd (blk (slv (v f))) w w2) (hk : ∀ x ∈ blk (slv s'), x ∈ blk (slv (v f)) ∨ w.heap.size ≤ x) (hG : ∀ x ∈ G, x < w.heap.size) :
    FA w0 (w2.setCell ⟨A, idx f, none⟩ (slv s')) A Wb G (cup c f (c f ++ p)) wr (vup v f s') ∧ w2.cell? ⟨A, idx f, none⟩ = some (slv (v f)) ∧ w2.frozen? ⟨A, idx f, none⟩ = false := by
  have hb2 := h.all.upd hu (h.nA f)
  have hs : Upd [A] w2 (w2.setCell ⟨A, idx f, none⟩ (slv s')) := (Upd.refl [A] w2).setCell _ _ (.inl (by simp))
  have hb : Blk (w2.setCell ⟨A, idx f, none⟩ (slv s')) A 71 [slv (vup v f s' false), slv (vup v f s' true)] := by
    have := hb2.set_ (idx f) (slv s')
    cases f
    · exact this
    · exact this
  have hnA : A ∉ blk (slv s') := fun hx => by
    rcases hk A hx with q | q
    · exact h.nA f q
    · have := h.all.lt; omega
  have hoth : ∀ g, g ≠ f → Ap (blk (slv (v g))) (blk (slv (v f))) := fun g hg => by
    cases g <;> cases f
    · exact absurd rfl hg
    · exact h.vv
    · exact h.vv.symm
    · exact absurd rfl hg
  have hnew : ∀ g, g ≠ f → Ap (blk (slv (v g))) (blk (slv s')) := fun g hg x hx hy => by
    rcases hk x hy with q | q
    · exact hoth g hg x hx q
    · have := ((h.own g).ge x hx).2; omega
  refine ⟨⟨hb, (h.wro.upd hu (h.nW f)).upd hs (by simp; exact fun e => h.neAW e.symm), fun g => ?_, h.aG, h.wG, fun g => ?_, ?_, h.gA, h.gW⟩, ?_, ?_⟩
  · unfold cup vup
    by_cases hg : g = f
    · subst hg
      rw [if_pos rfl, if_pos rfl]
      exact ho.upd hs (fun x hx hy => hnA (by simp at hy; rw [← hy]; exact hx))
    · rw [if_neg hg, if_neg hg]
      exact ((h.own g).upd hu (hoth g hg)).upd hs (fun x hx hy => h.nA g (by simp at hy; rw [← hy]; exact hx))
  · unfold vup
    by_cases hg : g = f
    · subst hg
      rw [if_pos rfl]
      intro x hx hy
      rcases hk x hx with q | q
      · exact h.vG g x q hy
      · have := hG x hy; omega
    · rw [if_neg hg]; exact h.vG g
  · cases f
    · exact (hnew true (by simp)).symm
    · exact hnew false (by simp)
  · cases f
    · exact hb2.cell 0
    · exact hb2.cell 1
  · exact hb2.frozen _
end
theorem FA.new {w0 w : World} {G : List Nat} (hG : ∀ x ∈ G, x < w.heap.size) (hb : w0.heap.size ≤ w.heap.size) :
    FA w0 ((w.alloc (.cells #[.slice none 0 0, .slice none 0 0] 71)).alloc (.cells #[.int .i64 0, .int .i64 0] 72)) w.heap.size (w.heap.size + 1) G (fun _ => []) (fun _ => 0) (fun _ => ⟨none, 0, 0⟩) := by
  have h1 := Blk.new w 71 [.slice none 0 0, .slice none 0 0]
  have h2 := Blk.new (w.alloc (.cells #[.slice none 0 0, .slice none 0 0] 71)) 72 [.int .i64 0, .int .i64 0]
  have e : (w.alloc (.cells #[.slice none 0 0, .slice none 0 0] 71)).heap.size = w.heap.size + 1 := by simp
  rw [e] at h2
  exact ⟨h1.upd ((Upd.refl [] _).alloc _) (by simp), h2, fun _ => World.ownsRow_nil _ _ _ _, fun hx => by have := hG _ hx; omega, fun hx => by have := hG _ hx; omega, fun _ => Ap.nil, Ap.nil, hb, by omega⟩
theorem rem_isF (i : Nat) : Int.tmod (i : Int) 2 = (idx (isF i) : Int) := by
  rw [Int.tmod_eq_emod_of_nonneg (by omega)]
  unfold isF idx
  rcases (show i % 2 = 0 ∨ i % 2 = 1 by omega) with h | h
  · rw [h]; simp; omega
  · rw [h]; simp; omega
theorem idx_lt (f : Bool) : idx f < 2 := by cases f <;> decide
theorem own_sl {base : Nat} {e : TypeId} {w : World} {v : Value} {l : List UInt8} (h : Own bv base e w v l) : ∃ s : Sl, v = .slice s.a s.n s.k := by
  obtain ⟨a, k, h, _⟩ := h.rd
  exact ⟨⟨a, _, k⟩, h⟩
theorem name_at (f : Bool) (j : Nat) (hj : idx f = j) : ∀ (h : j < ([Value.string ⟨#[102]⟩, Value.string ⟨#[103]⟩] : List Value).length), ([Value.string ⟨#[102]⟩, Value.string ⟨#[103]⟩] : List Value)[j]'h = sv (fnm f) := by
  subst hj; cases f <;> (intro h; rfl)
theorem lit_name {w : World} {L : Nat} (h : Blk w L 9 [.string ⟨#[102]⟩, .string ⟨#[103]⟩]) (f : Bool) : w.cell? ⟨L, idx f, none⟩ = some (.string (fnm f)) := by cases f; exact h.cell 0; exact h.cell 1
set_option maxRecDepth 20000 in
set_option maxHeartbeats 8000000 in
theorem diskFront_any (w : World) (vp : Value) (ls : List (List UInt8)) (hparts : ∃ vs : List Value, vs.length = ls.length ∧ Rd id w vp vs ∧ ∀ j, j < ls.length → Bytes w (nth vs j) (nth ls j)) (n : Int) (hn : I64 n) :
    Calls Try.prog 9 #[vp, .int .i64 n] w fun e w' => e = .returned (.bool true) ∧ Upd [] w w' := by
  obtain ⟨vs, hvl, ⟨a, cap, rfl, hlc, hcm, hcell⟩, hby⟩ := hparts
  have hm' : vs.length ≤ 9223372036854775807 := by unfold maxLen at hcm; omega
  have HC := Lib.hid hcell
  have HBY := Lib.hid hby
  have HVL := Lib.hid hvl
  have HN : Hid (-9223372036854775808 ≤ n ∧ n ≤ 9223372036854775807) := hn
  clear hlc hcm hcell hby hvl hn
  go_enter Try.func9, Try.ntmps9
  go_wp2_with fail
  (with_reducible refine (dNew_any w w (Upd.refl [] w)).mono ?_)
  rintro e w1 ⟨gd, G1, rfl, h1, hu1, hf1⟩
  have H1 := Lib.hid (h1.upd0 (((Upd.refl [] w1).alloc (.cells #[.slice none 0 0, .slice none 0 0] 71)).alloc (.cells #[.int .i64 0, .int .i64 0] 72)))
  have HFA := Lib.hid (FA.new (w0 := w) (w := w1) (G := G1) (fun x hx => (h1.ge x hx).2) hu1.size)
  clear h1 hu1 hf1
  go_wp2_with fail
  generalize hA : w1.heap.size = A at *
  generalize (w1.alloc (.cells #[.slice none 0 0, .slice none 0 0] 71)).alloc (.cells #[.int .i64 0, .int .i64 0] 72) = w2 at *
  clear hA
  (with_reducible refine (within_any n 0 80 _ HN.out (by omega) (by omega) (by omega)).mono ?_)
  rintro e w3 ⟨rfl, rfl⟩
  have hwi := within_in n 0 80 (by omega)
  obtain ⟨m, hm⟩ : ∃ m, within n 0 80 = m := ⟨_, rfl⟩
  rw [hm] at hwi ⊢
  clear hm
  obtain ⟨hm0, hm1⟩ := hwi
  obtain ⟨K, rfl⟩ := Int.eq_ofNat_of_zero_le hm0
  have hK : K ≤ 80 := by omega
  clear hm0 hm1
  go_wp2_with fail
  go_loopw [7, 10] (fun vr vi wr => ∃ (i r : Nat) (c : Bool → List UInt8) (wrr : Bool → Nat) (v : Bool → Sl) (G : List Nat) (s : DS), i ≤ 12 ∧ i ≤ vs.length ∧ vi = .int .i64 i ∧ vr = .int .i64 r ∧ Hid (r = s.log.length) ∧ Hid (DD w wr gd G s) ∧ Hid (Fr K i c wrr s) ∧ Hid (FA w wr A (A + 1) G c wrr v)) (fun _ vi _ => 12 - (intOf vi).toNat)
  case atStart => exact ⟨0, 0, _, _, _, G1, ⟨[], [], []⟩, by omega, by omega, rfl, rfl, rfl, H1, Fr.zero K, HFA⟩
  case round =>
    clear H1 HFA
    obtain ⟨i, r, c, wrr, v, G, s, hi, hil, rfl, rfl, hr, hs, hF, hfa⟩ := hrel
    have hend : (i < vs.length ∧ i < 12) ∨ (i = vs.length ∧ Hid (i ≤ 12)) ∨ (i = 12 ∧ i < vs.length) := by unfold Hid; omega
    rcases hend with ⟨hlt, h12⟩ | hend
    · obtain ⟨b, off, rfl, hc⟩ := HC.out (by intro h; simp [h] at hlt)
      have c0 : wr.cell? ⟨b, off + i, none⟩ = some (nth vs i) := hs.out.old.cell (hc i hlt) (by simp)
      have HPW := Lib.hid (HBY.out i (by rw [← HVL.out]; exact hlt))
      generalize nth vs i = pv at *
      generalize nth ls i = l at *
      obtain ⟨pa, pc, rfl, hplc, hpcm, -⟩ := HPW.out
      have hplm : l.length ≤ 9223372036854775807 := by unfold maxLen at hpcm; omega
      have hpcm' : pc ≤ 9223372036854775807 := by unfold maxLen at hpcm; omega
      have q1 : (i : Int) < vs.length := by omega
      have q2 : (i : Int) < 12 := by omega
      have q0 : (0 : Int) ≤ i := by omega
      have hrb : r ≤ 96 := by have := hr.out; have := hF.out.log; omega
      obtain ⟨φ, hφ⟩ : ∃ φ, idx (isF i) = φ := ⟨_, rfl⟩
      have hφ2 : φ < 2 := by rw [← hφ]; exact idx_lt _
      have hrem := rem_isF i
      rw [hφ] at hrem
      have HPH := Lib.hid hφ
      obtain ⟨⟨va, vn, vk⟩, hsl⟩ : ∃ sl, v (isF i) = sl := ⟨_, rfl⟩
      have HSL := Lib.hid hsl
      have hvn : vn = (c (isF i)).length ∧ vk ≤ 9223372036854775807 := by
        have := hfa.out.own (isF i)
        rw [hsl] at this
        obtain ⟨a', k', he, h1, h2, -⟩ := this.rd
        injection he with e1 e2 e3
        subst e2; subst e3
        exact ⟨rfl, by unfold maxLen at h2; omega⟩
      obtain ⟨hvn, hvk⟩ := hvn
      have hcb : vn ≤ 2400 := by rw [hvn]; have := hF.out.len (isF i); omega
      have HVN := Lib.hid hvn
      have p1 : (0 : Int) ≤ φ := by omega
      have p2 : (φ : Int) < 2 := by omega
      clear hφ hsl hvn
      clear hc hpcm
      by_cases hbig : 200 < l.length
      · have hq3 : (200 : Int) < l.length := by omega
        have hcutp : ∀ W, (Instr.slice 27 (.slice pa l.length pc) none (some (.int .i64 200)) none).run Try.prog W = .ok (.slice pa 200 pc) W := fun W => run_cut_h (P := Try.prog) (size := 1) Try.underlying27 (by kernel_rfl) pa l.length pc 200 (by omega) W
        have HPQ0 : Hid (Bytes w (.slice pa 200 pc) (l.take 200)) := HPW.out.take 200 (by omega)
        have hql : (l.take 200).length = 200 := by rw [List.length_take]; omega
        generalize l.take 200 = q at *
        have HPQ : Hid (Bytes w (.slice pa q.length pc) q) := by rw [hql]; exact HPQ0
        have HQ2 : Hid (q.length ≤ 200) := by unfold Hid; omega
        have hqc : q.length ≤ pc := by omega
        rw [← hql] at hcutp
        clear HPQ0 hql
        by_cases hi2 : i < 2
        · have z2 : (i : Int) < 2 := by omega
          have HMK : Hid ((if i < 2 then 1 else 0) = 1) := if_pos hi2
          clear hi2
          have hcl := chunks_len q
          have hQ2 := HQ2.out
          go_wp2_with fail
          have HI0 : Hid (FA w wr A (A + 1) G c (nup wrr (isF i) (wrote K (r + 1) (c (isF i)) q (wrr (isF i)) 0)) v) := by unfold Hid; rw [wrote_zero, nup_self]; exact hfa.out
          go_loopw [7, 13] (fun vr va wr => ∃ j : Nat, j ≤ (chunks q).length ∧ vr = .int .i64 ((r + 1 + j : Nat) : Int) ∧ va = .int .i64 ((32 * j : Nat) : Int) ∧ Hid (FA w wr A (A + 1) G c (nup wrr (isF i) (wrote K (r + 1) (c (isF i)) q (wrr (isF i)) j)) v) ∧ Hid (DD w wr gd G s)) (fun _ va _ => q.length + 32 - (intOf va).toNat)
          case atStart => exact ⟨0, Nat.zero_le _, by go_num, by go_num, HI0, hs⟩
          case round =>
            clear HI0 hfa hs c0
            obtain ⟨j, hj, rfl, rfl, hfa, hs⟩ := hrel
            have hj7 : j ≤ 7 := by omega
            by_cases hjl : 32 * j < q.length
            · have q5 : ((32 * j : Nat) : Int) < q.length := by omega
              by_cases hk1 : r + 1 + j + 1 ≤ K
              · have q6 : (((r + 1 + j : Nat) : Int) + 1) ≤ K := by omega
                have cA : wr.cell? ⟨A, φ, none⟩ = some (.slice va vn vk) := by have := hfa.out.cellA (isF i); rw [HPH.out, HSL.out] at this; exact this
                have cW := hfa.out.cellW (isF i)
                have fW : wr.frozen? ⟨A + 1, φ, none⟩ = false := hfa.out.wro.frozen _
                rw [HPH.out] at cW
                have HNX : Hid (∀ x : Nat, x = vn + min (32 * (j + 1)) q.length → FA w (wr.setCell ⟨A + 1, φ, none⟩ (.int .i64 (x : Int))) A (A + 1) G c (nup wrr (isF i) (wrote K (r + 1) (c (isF i)) q (wrr (isF i)) (j + 1))) v) := fun x hx => by
                  have h1 := hfa.out.setW (isF i) x
                  rw [nup_nup, HPH.out] at h1
                  rw [wrote_yes _ _ _ _ _ _ hk1, ← HVN.out, ← hx]; exact h1
                have HND : Hid (∀ V, DD w (wr.setCell ⟨A + 1, φ, none⟩ V) gd G s) := fun V => hs.out.upd ((Upd.refl [A + 1] wr).setCell _ _ (.inl (by simp))) (fun x hx hy => hfa.out.wG (by simp at hy; rw [← hy]; exact hx)) (fun x hx => by simp at hx; subst hx; exact hfa.out.gW)
                obtain ⟨x0, hx0⟩ : ∃ x0, ((nup wrr (isF i) (wrote K (r + 1) (c (isF i)) q (wrr (isF i)) j) (isF i) : Nat) : Int) = x0 := ⟨_, rfl⟩
                rw [hx0] at cW
                clear hfa hs hx0 hk1
                by_cases hmin : q.length < 32 * j + 32
                · have q7 : (q.length : Int) < ((32 * j : Nat) : Int) + 32 := by omega
                  have HNY := Lib.hid (HNX.out (vn + q.length) (by omega))
                  clear HNX
                  go_wp2_with fail
                  go_roundw
                  case rel => exact ⟨j + 1, by omega, by go_num, by go_num, HNY, HND.out _⟩
                  case measure => simp [intOf]; omega
                · have q7 : ¬ (q.length : Int) < ((32 * j : Nat) : Int) + 32 := by omega
                  have HNY := Lib.hid (HNX.out (vn + (32 * j + 32)) (by omega))
                  clear HNX
                  go_wp2_with fail
                  go_roundw
                  case rel => exact ⟨j + 1, by omega, by go_num, by go_num, HNY, HND.out _⟩
                  case measure => simp [intOf]; omega
              · have q6 : ¬ (((r + 1 + j : Nat) : Int) + 1) ≤ K := by omega
                have HNX : Hid (FA w wr A (A + 1) G c (nup wrr (isF i) (wrote K (r + 1) (c (isF i)) q (wrr (isF i)) (j + 1))) v) := by unfold Hid; rw [wrote_no _ _ _ _ _ _ hk1]; exact hfa.out
                clear hfa hk1
                go_wp2_with fail
                go_roundw
                case rel => exact ⟨j + 1, by omega, by go_num, by go_num, HNX, hs⟩
                case measure => simp [intOf]; omega
            · obtain rfl : j = (chunks q).length := by omega
              have q5 : ¬ ((32 * (chunks q).length : Nat) : Int) < q.length := by omega
              have hch : (chunks q).length ≤ 7 := by omega
              clear hcl hjl hj7 hj
              obtain ⟨hst1, hst2, hst3⟩ := hF.out.step q HQ2.out (by omega)
              rw [← hr.out, HMK.out] at hst2 hst3
              have HST1 := Lib.hid hst1
              have HST2 := Lib.hid hst2
              have HST3 := Lib.hid hst3
              have hown : Own bv w.heap.size 5 wr (.slice va vn vk) (c (isF i)) := by have := hfa.out.own (isF i); rw [HSL.out] at this; exact this
              have HRUN := Lib.hid (fun ty => run_app (P := Try.prog) (w := wr) (ty := ty) bv_one Try.underlying27 infoB8 rfl (.slice va vn vk) (.slice pa q.length pc) (c (isF i)) q hown (HPQ.out.upd0 hs.out.old) (by have := HVN.out; omega) (by have := HVN.out; unfold maxLen; omega) hs.out.old.size)
              have cA : wr.cell? ⟨A, φ, none⟩ = some (.slice va vn vk) := by have := hfa.out.cellA (isF i); rw [HPH.out, HSL.out] at this; exact this
              have HAPP : Hid (∀ (w2 : World) (s' : Sl), Own bv w.heap.size 5 w2 (slv s') (c (isF i) ++ q) → Upd (blk (.slice va vn vk)) wr w2 → (∀ x ∈ blk (slv s'), x ∈ blk (.slice va vn vk) ∨ wr.heap.size ≤ x) → FA w (w2.setCell ⟨A, φ, none⟩ (slv s')) A (A + 1) G (cup c (isF i) (c (isF i) ++ q)) (nup wrr (isF i) (wrote K (r + 1) (c (isF i)) q (wrr (isF i)) (chunks q).length)) (vup v (isF i) s') ∧ w2.cell? ⟨A, φ, none⟩ = some (.slice va vn vk) ∧ w2.frozen? ⟨A, φ, none⟩ = false) := fun w2 s' h1 h2 h3 => by
                have := hfa.out.app (isF i) (s' := s') (p := q) h1 (by rw [HSL.out]; exact h2) (by rw [HSL.out]; exact h3) (fun x hx => (hs.out.ge x hx).2)
                rw [HPH.out, HSL.out] at this; exact this
              have HDW : Hid (∀ (w2 : World) (s' : Sl), Upd (blk (.slice va vn vk)) wr w2 → DD w (w2.setCell ⟨A, φ, none⟩ (slv s')) gd G s) := fun w2 s' h2 => by
                have hv : Ap (blk (.slice va vn vk)) G := by have := hfa.out.vG (isF i); rw [HSL.out] at this; exact this
                refine (hs.out.upd h2 (fun x hx hy => hv x hy hx) (fun x hx => (hown.ge x hx).1)).upd ((Upd.refl [A] w2).setCell _ _ (.inl (by simp))) (fun x hx hy => hfa.out.aG (by simp at hy; rw [← hy]; exact hx)) (fun x hx => by simp at hx; subst hx; exact hfa.out.gA)
              have HHO : Hid (FA w wr A (A + 1) G c (nup wrr (isF i) (wrote K (r + 1) (c (isF i)) q (wrr (isF i)) (chunks q).length)) v) := hfa.out
              have HNL : Hid (s.now.length ≤ 4999) := by
                unfold Hid
                rw [hF.out.now]; unfold nowOf
                split
                · simp
                · split <;> simp
              have HLL : Hid (s.log.length ≤ 500000000) := by have := hr.out; unfold Hid; omega
              have HNMX : Hid (∀ (h : φ < ([Value.string ⟨#[102]⟩, Value.string ⟨#[103]⟩] : List Value).length), ([Value.string ⟨#[102]⟩, Value.string ⟨#[103]⟩] : List Value)[φ]'h = sv (fnm (isF i))) := name_at (isF i) φ HPH.out
              clear hst1 hst2 hst3 hown hfa hs hF
              go_wp2_with (at_builtin; go_must (refine wpList_app_of rfl _ _ rfl (.slice va vn vk) (.slice pa q.length pc) rfl rfl (HRUN.out _) ?_; rintro v8 w8 ⟨ho8, hu8, hk8⟩; obtain ⟨⟨a8, n8, k8⟩, rfl⟩ := own_sl ho8; obtain ⟨hfa8, c8, f8⟩ := HAPP.out w8 ⟨a8, n8, k8⟩ ho8 hu8 hk8; have HFA8 := Lib.hid hfa8; have HD8 := Lib.hid (HDW.out w8 ⟨a8, n8, k8⟩ hu8); clear ho8 hu8 hk8 hfa8 HRUN; dsimp only))
              rw [HNMX.out]
              have hua : Upd [] (w8.setCell ⟨A, φ, none⟩ (.slice a8 n8 k8)) ((w8.setCell ⟨A, φ, none⟩ (.slice a8 n8 k8)).alloc (.cells #[.string ⟨#[102]⟩, .string ⟨#[103]⟩] 9)) := (Upd.refl [] _).alloc _
              have HFA9 := Lib.hid (HFA8.out.upd0 hua)
              have HD9 := Lib.hid (HD8.out.upd0 hua)
              have HP9 := Lib.hid (HPQ.out.upd0 HD9.out.old)
              have HAPQ : Hid (q ≠ [] → ∀ x ∈ blk (.slice pa q.length pc), x ∉ G) := fun hne x hx hg => by
                have h1 := HPQ.out.lt hne x hx
                have h2 := (HD9.out.ge x hg).1
                omega
              clear hua HFA8 HD8 c8 f8 cA HAPP HDW HHO
              generalize (w8.setCell ⟨A, φ, none⟩ (.slice a8 n8 k8)).alloc (.cells #[.string ⟨#[102]⟩, .string ⟨#[103]⟩] 9) = w9 at *
              (with_reducible refine (dAppend_any (fnm (isF i)) _ q HP9.out HAPQ.out HD9.out (by omega) HNL.out HLL.out).mono ?_)
              rintro e w10 ⟨rfl, ho⟩
              rw [HST1.out]
              obtain ⟨G10, h10, hu10, hf10⟩ := DOut.dd ho
              have H10 := Lib.hid h10
              have HFA10 := Lib.hid (HFA9.out.call hu10 hf10)
              clear ho h10 hu10 hf10 HFA9 HD9 HP9
              go_wp2_with fail
              go_roundw
              case rel => exact ⟨i + 1, r + 1 + (chunks q).length, _, _, _, G10, _, by omega, by omega, by go_num, by go_num, HST3.out.symm, H10, HST2.out, HFA10⟩
              case measure => simp [intOf]; omega
        · have z2 : ¬ (i : Int) < 2 := by omega
          have HMK : Hid ((if i < 2 then 1 else 0) = 0) := if_neg hi2
          clear hi2
          have hcl := chunks_len q
          have hQ2 := HQ2.out
          go_wp2_with fail
          have HI0 : Hid (FA w wr A (A + 1) G c (nup wrr (isF i) (wrote K (r + 0) (c (isF i)) q (wrr (isF i)) 0)) v) := by unfold Hid; rw [wrote_zero, nup_self]; exact hfa.out
          go_loopw [7, 13] (fun vr va wr => ∃ j : Nat, j ≤ (chunks q).length ∧ vr = .int .i64 ((r + 0 + j : Nat) : Int) ∧ va = .int .i64 ((32 * j : Nat) : Int) ∧ Hid (FA w wr A (A + 1) G c (nup wrr (isF i) (wrote K (r + 0) (c (isF i)) q (wrr (isF i)) j)) v) ∧ Hid (DD w wr gd G s)) (fun _ va _ => q.length + 32 - (intOf va).toNat)
          case atStart => exact ⟨0, Nat.zero_le _, by go_num, by go_num, HI0, hs⟩
          case round =>
            clear HI0 hfa hs c0
            obtain ⟨j, hj, rfl, rfl, hfa, hs⟩ := hrel
            have hj7 : j ≤ 7 := by omega
            by_cases hjl : 32 * j < q.length
            · have q5 : ((32 * j : Nat) : Int) < q.length := by omega
              by_cases hk1 : r + 0 + j + 1 ≤ K
              · have q6 : (((r + 0 + j : Nat) : Int) + 1) ≤ K := by omega
                have cA : wr.cell? ⟨A, φ, none⟩ = some (.slice va vn vk) := by have := hfa.out.cellA (isF i); rw [HPH.out, HSL.out] at this; exact this
                have cW := hfa.out.cellW (isF i)
                have fW : wr.frozen? ⟨A + 1, φ, none⟩ = false := hfa.out.wro.frozen _
                rw [HPH.out] at cW
                have HNX : Hid (∀ x : Nat, x = vn + min (32 * (j + 1)) q.length → FA w (wr.setCell ⟨A + 1, φ, none⟩ (.int .i64 (x : Int))) A (A + 1) G c (nup wrr (isF i) (wrote K (r + 0) (c (isF i)) q (wrr (isF i)) (j + 1))) v) := fun x hx => by
                  have h1 := hfa.out.setW (isF i) x
                  rw [nup_nup, HPH.out] at h1
                  rw [wrote_yes _ _ _ _ _ _ hk1, ← HVN.out, ← hx]; exact h1
                have HND : Hid (∀ V, DD w (wr.setCell ⟨A + 1, φ, none⟩ V) gd G s) := fun V => hs.out.upd ((Upd.refl [A + 1] wr).setCell _ _ (.inl (by simp))) (fun x hx hy => hfa.out.wG (by simp at hy; rw [← hy]; exact hx)) (fun x hx => by simp at hx; subst hx; exact hfa.out.gW)
                obtain ⟨x0, hx0⟩ : ∃ x0, ((nup wrr (isF i) (wrote K (r + 0) (c (isF i)) q (wrr (isF i)) j) (isF i) : Nat) : Int) = x0 := ⟨_, rfl⟩
                rw [hx0] at cW
                clear hfa hs hx0 hk1
                by_cases hmin : q.length < 32 * j + 32
                · have q7 : (q.length : Int) < ((32 * j : Nat) : Int) + 32 := by omega
                  have HNY := Lib.hid (HNX.out (vn + q.length) (by omega))
                  clear HNX
                  go_wp2_with fail
                  go_roundw
                  case rel => exact ⟨j + 1, by omega, by go_num, by go_num, HNY, HND.out _⟩
                  case measure => simp [intOf]; omega
                · have q7 : ¬ (q.length : Int) < ((32 * j : Nat) : Int) + 32 := by omega
                  have HNY := Lib.hid (HNX.out (vn + (32 * j + 32)) (by omega))
                  clear HNX
                  go_wp2_with fail
                  go_roundw
                  case rel => exact ⟨j + 1, by omega, by go_num, by go_num, HNY, HND.out _⟩
                  case measure => simp [intOf]; omega
              · have q6 : ¬ (((r + 0 + j : Nat) : Int) + 1) ≤ K := by omega
                have HNX : Hid (FA w wr A (A + 1) G c (nup wrr (isF i) (wrote K (r + 0) (c (isF i)) q (wrr (isF i)) (j + 1))) v) := by unfold Hid; rw [wrote_no _ _ _ _ _ _ hk1]; exact hfa.out
                clear hfa hk1
                go_wp2_with fail
                go_roundw
                case rel => exact ⟨j + 1, by omega, by go_num, by go_num, HNX, hs⟩
                case measure => simp [intOf]; omega
            · obtain rfl : j = (chunks q).length := by omega
              have q5 : ¬ ((32 * (chunks q).length : Nat) : Int) < q.length := by omega
              have hch : (chunks q).length ≤ 7 := by omega
              clear hcl hjl hj7 hj
              obtain ⟨hst1, hst2, hst3⟩ := hF.out.step q HQ2.out (by omega)
              rw [← hr.out, HMK.out] at hst2 hst3
              have HST1 := Lib.hid hst1
              have HST2 := Lib.hid hst2
              have HST3 := Lib.hid hst3
              have hown : Own bv w.heap.size 5 wr (.slice va vn vk) (c (isF i)) := by have := hfa.out.own (isF i); rw [HSL.out] at this; exact this
              have HRUN := Lib.hid (fun ty => run_app (P := Try.prog) (w := wr) (ty := ty) bv_one Try.underlying27 infoB8 rfl (.slice va vn vk) (.slice pa q.length pc) (c (isF i)) q hown (HPQ.out.upd0 hs.out.old) (by have := HVN.out; omega) (by have := HVN.out; unfold maxLen; omega) hs.out.old.size)
              have cA : wr.cell? ⟨A, φ, none⟩ = some (.slice va vn vk) := by have := hfa.out.cellA (isF i); rw [HPH.out, HSL.out] at this; exact this
              have HAPP : Hid (∀ (w2 : World) (s' : Sl), Own bv w.heap.size 5 w2 (slv s') (c (isF i) ++ q) → Upd (blk (.slice va vn vk)) wr w2 → (∀ x ∈ blk (slv s'), x ∈ blk (.slice va vn vk) ∨ wr.heap.size ≤ x) → FA w (w2.setCell ⟨A, φ, none⟩ (slv s')) A (A + 1) G (cup c (isF i) (c (isF i) ++ q)) (nup wrr (isF i) (wrote K (r + 0) (c (isF i)) q (wrr (isF i)) (chunks q).length)) (vup v (isF i) s') ∧ w2.cell? ⟨A, φ, none⟩ = some (.slice va vn vk) ∧ w2.frozen? ⟨A, φ, none⟩ = false) := fun w2 s' h1 h2 h3 => by
                have := hfa.out.app (isF i) (s' := s') (p := q) h1 (by rw [HSL.out]; exact h2) (by rw [HSL.out]; exact h3) (fun x hx => (hs.out.ge x hx).2)
                rw [HPH.out, HSL.out] at this; exact this
              have HDW : Hid (∀ (w2 : World) (s' : Sl), Upd (blk (.slice va vn vk)) wr w2 → DD w (w2.setCell ⟨A, φ, none⟩ (slv s')) gd G s) := fun w2 s' h2 => by
                have hv : Ap (blk (.slice va vn vk)) G := by have := hfa.out.vG (isF i); rw [HSL.out] at this; exact this
                refine (hs.out.upd h2 (fun x hx hy => hv x hy hx) (fun x hx => (hown.ge x hx).1)).upd ((Upd.refl [A] w2).setCell _ _ (.inl (by simp))) (fun x hx hy => hfa.out.aG (by simp at hy; rw [← hy]; exact hx)) (fun x hx => by simp at hx; subst hx; exact hfa.out.gA)
              have HHO : Hid (FA w wr A (A + 1) G c (nup wrr (isF i) (wrote K (r + 0) (c (isF i)) q (wrr (isF i)) (chunks q).length)) v) := hfa.out
              have HNL : Hid (s.now.length ≤ 4999) := by
                unfold Hid
                rw [hF.out.now]; unfold nowOf
                split
                · simp
                · split <;> simp
              have HLL : Hid (s.log.length ≤ 500000000) := by have := hr.out; unfold Hid; omega
              have HNMX : Hid (∀ (h : φ < ([Value.string ⟨#[102]⟩, Value.string ⟨#[103]⟩] : List Value).length), ([Value.string ⟨#[102]⟩, Value.string ⟨#[103]⟩] : List Value)[φ]'h = sv (fnm (isF i))) := name_at (isF i) φ HPH.out
              clear hst1 hst2 hst3 hown hfa hs hF
              go_wp2_with (at_builtin; go_must (refine wpList_app_of rfl _ _ rfl (.slice va vn vk) (.slice pa q.length pc) rfl rfl (HRUN.out _) ?_; rintro v8 w8 ⟨ho8, hu8, hk8⟩; obtain ⟨⟨a8, n8, k8⟩, rfl⟩ := own_sl ho8; obtain ⟨hfa8, c8, f8⟩ := HAPP.out w8 ⟨a8, n8, k8⟩ ho8 hu8 hk8; have HFA8 := Lib.hid hfa8; have HD8 := Lib.hid (HDW.out w8 ⟨a8, n8, k8⟩ hu8); clear ho8 hu8 hk8 hfa8 HRUN; dsimp only))
              rw [HNMX.out]
              have hua : Upd [] (w8.setCell ⟨A, φ, none⟩ (.slice a8 n8 k8)) ((w8.setCell ⟨A, φ, none⟩ (.slice a8 n8 k8)).alloc (.cells #[.string ⟨#[102]⟩, .string ⟨#[103]⟩] 9)) := (Upd.refl [] _).alloc _
              have HFA9 := Lib.hid (HFA8.out.upd0 hua)
              have HD9 := Lib.hid (HD8.out.upd0 hua)
              have HP9 := Lib.hid (HPQ.out.upd0 HD9.out.old)
              have HAPQ : Hid (q ≠ [] → ∀ x ∈ blk (.slice pa q.length pc), x ∉ G) := fun hne x hx hg => by
                have h1 := HPQ.out.lt hne x hx
                have h2 := (HD9.out.ge x hg).1
                omega
              clear hua HFA8 HD8 c8 f8 cA HAPP HDW HHO
              generalize (w8.setCell ⟨A, φ, none⟩ (.slice a8 n8 k8)).alloc (.cells #[.string ⟨#[102]⟩, .string ⟨#[103]⟩] 9) = w9 at *
              (with_reducible refine (dAppend_any (fnm (isF i)) _ q HP9.out HAPQ.out HD9.out (by omega) HNL.out HLL.out).mono ?_)
              rintro e w10 ⟨rfl, ho⟩
              rw [HST1.out]
              obtain ⟨G10, h10, hu10, hf10⟩ := DOut.dd ho
              have H10 := Lib.hid h10
              have HFA10 := Lib.hid (HFA9.out.call hu10 hf10)
              clear ho h10 hu10 hf10 HFA9 HD9 HP9
              go_wp2_with fail
              go_roundw
              case rel => exact ⟨i + 1, r + 0 + (chunks q).length, _, _, _, G10, _, by omega, by omega, by go_num, by go_num, HST3.out.symm, H10, HST2.out, HFA10⟩
              case measure => simp [intOf]; omega
      · have hq3 : ¬ (200 : Int) < l.length := by omega
        have HPQ := HPW
        have HQ2 : Hid (l.length ≤ 200) := by unfold Hid; omega
        have hqc := hplc
        clear hbig
        by_cases hi2 : i < 2
        · have z2 : (i : Int) < 2 := by omega
          have HMK : Hid ((if i < 2 then 1 else 0) = 1) := if_pos hi2
          clear hi2
          have hcl := chunks_len l
          have hQ2 := HQ2.out
          go_wp2_with fail
          have HI0 : Hid (FA w wr A (A + 1) G c (nup wrr (isF i) (wrote K (r + 1) (c (isF i)) l (wrr (isF i)) 0)) v) := by unfold Hid; rw [wrote_zero, nup_self]; exact hfa.out
          go_loopw [7, 13] (fun vr va wr => ∃ j : Nat, j ≤ (chunks l).length ∧ vr = .int .i64 ((r + 1 + j : Nat) : Int) ∧ va = .int .i64 ((32 * j : Nat) : Int) ∧ Hid (FA w wr A (A + 1) G c (nup wrr (isF i) (wrote K (r + 1) (c (isF i)) l (wrr (isF i)) j)) v) ∧ Hid (DD w wr gd G s)) (fun _ va _ => l.length + 32 - (intOf va).toNat)
          case atStart => exact ⟨0, Nat.zero_le _, by go_num, by go_num, HI0, hs⟩
          case round =>
            clear HI0 hfa hs c0
            obtain ⟨j, hj, rfl, rfl, hfa, hs⟩ := hrel
            have hj7 : j ≤ 7 := by omega
            by_cases hjl : 32 * j < l.length
            · have q5 : ((32 * j : Nat) : Int) < l.length := by omega
              by_cases hk1 : r + 1 + j + 1 ≤ K
              · have q6 : (((r + 1 + j : Nat) : Int) + 1) ≤ K := by omega
                have cA : wr.cell? ⟨A, φ, none⟩ = some (.slice va vn vk) := by have := hfa.out.cellA (isF i); rw [HPH.out, HSL.out] at this; exact this
                have cW := hfa.out.cellW (isF i)
                have fW : wr.frozen? ⟨A + 1, φ, none⟩ = false := hfa.out.wro.frozen _
                rw [HPH.out] at cW
                have HNX : Hid (∀ x : Nat, x = vn + min (32 * (j + 1)) l.length → FA w (wr.setCell ⟨A + 1, φ, none⟩ (.int .i64 (x : Int))) A (A + 1) G c (nup wrr (isF i) (wrote K (r + 1) (c (isF i)) l (wrr (isF i)) (j + 1))) v) := fun x hx => by
                  have h1 := hfa.out.setW (isF i) x
                  rw [nup_nup, HPH.out] at h1
                  rw [wrote_yes _ _ _ _ _ _ hk1, ← HVN.out, ← hx]; exact h1
                have HND : Hid (∀ V, DD w (wr.setCell ⟨A + 1, φ, none⟩ V) gd G s) := fun V => hs.out.upd ((Upd.refl [A + 1] wr).setCell _ _ (.inl (by simp))) (fun x hx hy => hfa.out.wG (by simp at hy; rw [← hy]; exact hx)) (fun x hx => by simp at hx; subst hx; exact hfa.out.gW)
                obtain ⟨x0, hx0⟩ : ∃ x0, ((nup wrr (isF i) (wrote K (r + 1) (c (isF i)) l (wrr (isF i)) j) (isF i) : Nat) : Int) = x0 := ⟨_, rfl⟩
                rw [hx0] at cW
                clear hfa hs hx0 hk1
                by_cases hmin : l.length < 32 * j + 32
                · have q7 : (l.length : Int) < ((32 * j : Nat) : Int) + 32 := by omega
                  have HNY := Lib.hid (HNX.out (vn + l.length) (by omega))
                  clear HNX
                  go_wp2_with fail
                  go_roundw
                  case rel => exact ⟨j + 1, by omega, by go_num, by go_num, HNY, HND.out _⟩
                  case measure => simp [intOf]; omega
                · have q7 : ¬ (l.length : Int) < ((32 * j : Nat) : Int) + 32 := by omega
                  have HNY := Lib.hid (HNX.out (vn + (32 * j + 32)) (by omega))
                  clear HNX
                  go_wp2_with fail
                  go_roundw
                  case rel => exact ⟨j + 1, by omega, by go_num, by go_num, HNY, HND.out _⟩
                  case measure => simp [intOf]; omega
              · have q6 : ¬ (((r + 1 + j : Nat) : Int) + 1) ≤ K := by omega
                have HNX : Hid (FA w wr A (A + 1) G c (nup wrr (isF i) (wrote K (r + 1) (c (isF i)) l (wrr (isF i)) (j + 1))) v) := by unfold Hid; rw [wrote_no _ _ _ _ _ _ hk1]; exact hfa.out
                clear hfa hk1
                go_wp2_with fail
                go_roundw
                case rel => exact ⟨j + 1, by omega, by go_num, by go_num, HNX, hs⟩
                case measure => simp [intOf]; omega
            · obtain rfl : j = (chunks l).length := by omega
              have q5 : ¬ ((32 * (chunks l).length : Nat) : Int) < l.length := by omega
              have hch : (chunks l).length ≤ 7 := by omega
              clear hcl hjl hj7 hj
              obtain ⟨hst1, hst2, hst3⟩ := hF.out.step l HQ2.out (by omega)
              rw [← hr.out, HMK.out] at hst2 hst3
              have HST1 := Lib.hid hst1
              have HST2 := Lib.hid hst2
              have HST3 := Lib.hid hst3
              have hown : Own bv w.heap.size 5 wr (.slice va vn vk) (c (isF i)) := by have := hfa.out.own (isF i); rw [HSL.out] at this; exact this
              have HRUN := Lib.hid (fun ty => run_app (P := Try.prog) (w := wr) (ty := ty) bv_one Try.underlying27 infoB8 rfl (.slice va vn vk) (.slice pa l.length pc) (c (isF i)) l hown (HPQ.out.upd0 hs.out.old) (by have := HVN.out; omega) (by have := HVN.out; unfold maxLen; omega) hs.out.old.size)
              have cA : wr.cell? ⟨A, φ, none⟩ = some (.slice va vn vk) := by have := hfa.out.cellA (isF i); rw [HPH.out, HSL.out] at this; exact this
              have HAPP : Hid (∀ (w2 : World) (s' : Sl), Own bv w.heap.size 5 w2 (slv s') (c (isF i) ++ l) → Upd (blk (.slice va vn vk)) wr w2 → (∀ x ∈ blk (slv s'), x ∈ blk (.slice va vn vk) ∨ wr.heap.size ≤ x) → FA w (w2.setCell ⟨A, φ, none⟩ (slv s')) A (A + 1) G (cup c (isF i) (c (isF i) ++ l)) (nup wrr (isF i) (wrote K (r + 1) (c (isF i)) l (wrr (isF i)) (chunks l).length)) (vup v (isF i) s') ∧ w2.cell? ⟨A, φ, none⟩ = some (.slice va vn vk) ∧ w2.frozen? ⟨A, φ, none⟩ = false) := fun w2 s' h1 h2 h3 => by
                have := hfa.out.app (isF i) (s' := s') (p := l) h1 (by rw [HSL.out]; exact h2) (by rw [HSL.out]; exact h3) (fun x hx => (hs.out.ge x hx).2)
                rw [HPH.out, HSL.out] at this; exact this
              have HDW : Hid (∀ (w2 : World) (s' : Sl), Upd (blk (.slice va vn vk)) wr w2 → DD w (w2.setCell ⟨A, φ, none⟩ (slv s')) gd G s) := fun w2 s' h2 => by
                have hv : Ap (blk (.slice va vn vk)) G := by have := hfa.out.vG (isF i); rw [HSL.out] at this; exact this
                refine (hs.out.upd h2 (fun x hx hy => hv x hy hx) (fun x hx => (hown.ge x hx).1)).upd ((Upd.refl [A] w2).setCell _ _ (.inl (by simp))) (fun x hx hy => hfa.out.aG (by simp at hy; rw [← hy]; exact hx)) (fun x hx => by simp at hx; subst hx; exact hfa.out.gA)
              have HHO : Hid (FA w wr A (A + 1) G c (nup wrr (isF i) (wrote K (r + 1) (c (isF i)) l (wrr (isF i)) (chunks l).length)) v) := hfa.out
              have HNL : Hid (s.now.length ≤ 4999) := by
                unfold Hid
                rw [hF.out.now]; unfold nowOf
                split
                · simp
                · split <;> simp
              have HLL : Hid (s.log.length ≤ 500000000) := by have := hr.out; unfold Hid; omega
              have HNMX : Hid (∀ (h : φ < ([Value.string ⟨#[102]⟩, Value.string ⟨#[103]⟩] : List Value).length), ([Value.string ⟨#[102]⟩, Value.string ⟨#[103]⟩] : List Value)[φ]'h = sv (fnm (isF i))) := name_at (isF i) φ HPH.out
              clear hst1 hst2 hst3 hown hfa hs hF
              go_wp2_with (at_builtin; go_must (refine wpList_app_of rfl _ _ rfl (.slice va vn vk) (.slice pa l.length pc) rfl rfl (HRUN.out _) ?_; rintro v8 w8 ⟨ho8, hu8, hk8⟩; obtain ⟨⟨a8, n8, k8⟩, rfl⟩ := own_sl ho8; obtain ⟨hfa8, c8, f8⟩ := HAPP.out w8 ⟨a8, n8, k8⟩ ho8 hu8 hk8; have HFA8 := Lib.hid hfa8; have HD8 := Lib.hid (HDW.out w8 ⟨a8, n8, k8⟩ hu8); clear ho8 hu8 hk8 hfa8 HRUN; dsimp only))
              rw [HNMX.out]
              have hua : Upd [] (w8.setCell ⟨A, φ, none⟩ (.slice a8 n8 k8)) ((w8.setCell ⟨A, φ, none⟩ (.slice a8 n8 k8)).alloc (.cells #[.string ⟨#[102]⟩, .string ⟨#[103]⟩] 9)) := (Upd.refl [] _).alloc _
              have HFA9 := Lib.hid (HFA8.out.upd0 hua)
              have HD9 := Lib.hid (HD8.out.upd0 hua)
              have HP9 := Lib.hid (HPQ.out.upd0 HD9.out.old)
              have HAPQ : Hid (l ≠ [] → ∀ x ∈ blk (.slice pa l.length pc), x ∉ G) := fun hne x hx hg => by
                have h1 := HPQ.out.lt hne x hx
                have h2 := (HD9.out.ge x hg).1
                omega
              clear hua HFA8 HD8 c8 f8 cA HAPP HDW HHO
              generalize (w8.setCell ⟨A, φ, none⟩ (.slice a8 n8 k8)).alloc (.cells #[.string ⟨#[102]⟩, .string ⟨#[103]⟩] 9) = w9 at *
              (with_reducible refine (dAppend_any (fnm (isF i)) _ l HP9.out HAPQ.out HD9.out (by omega) HNL.out HLL.out).mono ?_)
              rintro e w10 ⟨rfl, ho⟩
              rw [HST1.out]
              obtain ⟨G10, h10, hu10, hf10⟩ := DOut.dd ho
              have H10 := Lib.hid h10
              have HFA10 := Lib.hid (HFA9.out.call hu10 hf10)
              clear ho h10 hu10 hf10 HFA9 HD9 HP9
              go_wp2_with fail
              go_roundw
              case rel => exact ⟨i + 1, r + 1 + (chunks l).length, _, _, _, G10, _, by omega, by omega, by go_num, by go_num, HST3.out.symm, H10, HST2.out, HFA10⟩
              case measure => simp [intOf]; omega
        · have z2 : ¬ (i : Int) < 2 := by omega
          have HMK : Hid ((if i < 2 then 1 else 0) = 0) := if_neg hi2
          clear hi2
          have hcl := chunks_len l
          have hQ2 := HQ2.out
          go_wp2_with fail
          have HI0 : Hid (FA w wr A (A + 1) G c (nup wrr (isF i) (wrote K (r + 0) (c (isF i)) l (wrr (isF i)) 0)) v) := by unfold Hid; rw [wrote_zero, nup_self]; exact hfa.out
          go_loopw [7, 13] (fun vr va wr => ∃ j : Nat, j ≤ (chunks l).length ∧ vr = .int .i64 ((r + 0 + j : Nat) : Int) ∧ va = .int .i64 ((32 * j : Nat) : Int) ∧ Hid (FA w wr A (A + 1) G c (nup wrr (isF i) (wrote K (r + 0) (c (isF i)) l (wrr (isF i)) j)) v) ∧ Hid (DD w wr gd G s)) (fun _ va _ => l.length + 32 - (intOf va).toNat)
          case atStart => exact ⟨0, Nat.zero_le _, by go_num, by go_num, HI0, hs⟩
          case round =>
            clear HI0 hfa hs c0
            obtain ⟨j, hj, rfl, rfl, hfa, hs⟩ := hrel
            have hj7 : j ≤ 7 := by omega
            by_cases hjl : 32 * j < l.length
            · have q5 : ((32 * j : Nat) : Int) < l.length := by omega
              by_cases hk1 : r + 0 + j + 1 ≤ K
              · have q6 : (((r + 0 + j : Nat) : Int) + 1) ≤ K := by omega
                have cA : wr.cell? ⟨A, φ, none⟩ = some (.slice va vn vk) := by have := hfa.out.cellA (isF i); rw [HPH.out, HSL.out] at this; exact this
                have cW := hfa.out.cellW (isF i)
                have fW : wr.frozen? ⟨A + 1, φ, none⟩ = false := hfa.out.wro.frozen _
                rw [HPH.out] at cW
                have HNX : Hid (∀ x : Nat, x = vn + min (32 * (j + 1)) l.length → FA w (wr.setCell ⟨A + 1, φ, none⟩ (.int .i64 (x : Int))) A (A + 1) G c (nup wrr (isF i) (wrote K (r + 0) (c (isF i)) l (wrr (isF i)) (j + 1))) v) := fun x hx => by
                  have h1 := hfa.out.setW (isF i) x
                  rw [nup_nup, HPH.out] at h1
                  rw [wrote_yes _ _ _ _ _ _ hk1, ← HVN.out, ← hx]; exact h1
                have HND : Hid (∀ V, DD w (wr.setCell ⟨A + 1, φ, none⟩ V) gd G s) := fun V => hs.out.upd ((Upd.refl [A + 1] wr).setCell _ _ (.inl (by simp))) (fun x hx hy => hfa.out.wG (by simp at hy; rw [← hy]; exact hx)) (fun x hx => by simp at hx; subst hx; exact hfa.out.gW)
                obtain ⟨x0, hx0⟩ : ∃ x0, ((nup wrr (isF i) (wrote K (r + 0) (c (isF i)) l (wrr (isF i)) j) (isF i) : Nat) : Int) = x0 := ⟨_, rfl⟩
                rw [hx0] at cW
                clear hfa hs hx0 hk1
                by_cases hmin : l.length < 32 * j + 32
                · have q7 : (l.length : Int) < ((32 * j : Nat) : Int) + 32 := by omega
                  have HNY := Lib.hid (HNX.out (vn + l.length) (by omega))
                  clear HNX
                  go_wp2_with fail
                  go_roundw
                  case rel => exact ⟨j + 1, by omega, by go_num, by go_num, HNY, HND.out _⟩
                  case measure => simp [intOf]; omega
                · have q7 : ¬ (l.length : Int) < ((32 * j : Nat) : Int) + 32 := by omega
                  have HNY := Lib.hid (HNX.out (vn + (32 * j + 32)) (by omega))
                  clear HNX
                  go_wp2_with fail
                  go_roundw
                  case rel => exact ⟨j + 1, by omega, by go_num, by go_num, HNY, HND.out _⟩
                  case measure => simp [intOf]; omega
              · have q6 : ¬ (((r + 0 + j : Nat) : Int) + 1) ≤ K := by omega
                have HNX : Hid (FA w wr A (A + 1) G c (nup wrr (isF i) (wrote K (r + 0) (c (isF i)) l (wrr (isF i)) (j + 1))) v) := by unfold Hid; rw [wrote_no _ _ _ _ _ _ hk1]; exact hfa.out
                clear hfa hk1
                go_wp2_with fail
                go_roundw
                case rel => exact ⟨j + 1, by omega, by go_num, by go_num, HNX, hs⟩
                case measure => simp [intOf]; omega
            · obtain rfl : j = (chunks l).length := by omega
              have q5 : ¬ ((32 * (chunks l).length : Nat) : Int) < l.length := by omega
              have hch : (chunks l).length ≤ 7 := by omega
              clear hcl hjl hj7 hj
              obtain ⟨hst1, hst2, hst3⟩ := hF.out.step l HQ2.out (by omega)
              rw [← hr.out, HMK.out] at hst2 hst3
              have HST1 := Lib.hid hst1
              have HST2 := Lib.hid hst2
              have HST3 := Lib.hid hst3
              have hown : Own bv w.heap.size 5 wr (.slice va vn vk) (c (isF i)) := by have := hfa.out.own (isF i); rw [HSL.out] at this; exact this
              have HRUN := Lib.hid (fun ty => run_app (P := Try.prog) (w := wr) (ty := ty) bv_one Try.underlying27 infoB8 rfl (.slice va vn vk) (.slice pa l.length pc) (c (isF i)) l hown (HPQ.out.upd0 hs.out.old) (by have := HVN.out; omega) (by have := HVN.out; unfold maxLen; omega) hs.out.old.size)
              have cA : wr.cell? ⟨A, φ, none⟩ = some (.slice va vn vk) := by have := hfa.out.cellA (isF i); rw [HPH.out, HSL.out] at this; exact this
              have HAPP : Hid (∀ (w2 : World) (s' : Sl), Own bv w.heap.size 5 w2 (slv s') (c (isF i) ++ l) → Upd (blk (.slice va vn vk)) wr w2 → (∀ x ∈ blk (slv s'), x ∈ blk (.slice va vn vk) ∨ wr.heap.size ≤ x) → FA w (w2.setCell ⟨A, φ, none⟩ (slv s')) A (A + 1) G (cup c (isF i) (c (isF i) ++ l)) (nup wrr (isF i) (wrote K (r + 0) (c (isF i)) l (wrr (isF i)) (chunks l).length)) (vup v (isF i) s') ∧ w2.cell? ⟨A, φ, none⟩ = some (.slice va vn vk) ∧ w2.frozen? ⟨A, φ, none⟩ = false) := fun w2 s' h1 h2 h3 => by
                have := hfa.out.app (isF i) (s' := s') (p := l) h1 (by rw [HSL.out]; exact h2) (by rw [HSL.out]; exact h3) (fun x hx => (hs.out.ge x hx).2)
                rw [HPH.out, HSL.out] at this; exact this
              have HDW : Hid (∀ (w2 : World) (s' : Sl), Upd (blk (.slice va vn vk)) wr w2 → DD w (w2.setCell ⟨A, φ, none⟩ (slv s')) gd G s) := fun w2 s' h2 => by
                have hv : Ap (blk (.slice va vn vk)) G := by have := hfa.out.vG (isF i); rw [HSL.out] at this; exact this
                refine (hs.out.upd h2 (fun x hx hy => hv x hy hx) (fun x hx => (hown.ge x hx).1)).upd ((Upd.refl [A] w2).setCell _ _ (.inl (by simp))) (fun x hx hy => hfa.out.aG (by simp at hy; rw [← hy]; exact hx)) (fun x hx => by simp at hx; subst hx; exact hfa.out.gA)
              have HHO : Hid (FA w wr A (A + 1) G c (nup wrr (isF i) (wrote K (r + 0) (c (isF i)) l (wrr (isF i)) (chunks l).length)) v) := hfa.out
              have HNL : Hid (s.now.length ≤ 4999) := by
                unfold Hid
                rw [hF.out.now]; unfold nowOf
                split
                · simp
                · split <;> simp
              have HLL : Hid (s.log.length ≤ 500000000) := by have := hr.out; unfold Hid; omega
              have HNMX : Hid (∀ (h : φ < ([Value.string ⟨#[102]⟩, Value.string ⟨#[103]⟩] : List Value).length), ([Value.string ⟨#[102]⟩, Value.string ⟨#[103]⟩] : List Value)[φ]'h = sv (fnm (isF i))) := name_at (isF i) φ HPH.out
              clear hst1 hst2 hst3 hown hfa hs hF
              go_wp2_with (at_builtin; go_must (refine wpList_app_of rfl _ _ rfl (.slice va vn vk) (.slice pa l.length pc) rfl rfl (HRUN.out _) ?_; rintro v8 w8 ⟨ho8, hu8, hk8⟩; obtain ⟨⟨a8, n8, k8⟩, rfl⟩ := own_sl ho8; obtain ⟨hfa8, c8, f8⟩ := HAPP.out w8 ⟨a8, n8, k8⟩ ho8 hu8 hk8; have HFA8 := Lib.hid hfa8; have HD8 := Lib.hid (HDW.out w8 ⟨a8, n8, k8⟩ hu8); clear ho8 hu8 hk8 hfa8 HRUN; dsimp only))
              rw [HNMX.out]
              have hua : Upd [] (w8.setCell ⟨A, φ, none⟩ (.slice a8 n8 k8)) ((w8.setCell ⟨A, φ, none⟩ (.slice a8 n8 k8)).alloc (.cells #[.string ⟨#[102]⟩, .string ⟨#[103]⟩] 9)) := (Upd.refl [] _).alloc _
              have HFA9 := Lib.hid (HFA8.out.upd0 hua)
              have HD9 := Lib.hid (HD8.out.upd0 hua)
              have HP9 := Lib.hid (HPQ.out.upd0 HD9.out.old)
              have HAPQ : Hid (l ≠ [] → ∀ x ∈ blk (.slice pa l.length pc), x ∉ G) := fun hne x hx hg => by
                have h1 := HPQ.out.lt hne x hx
                have h2 := (HD9.out.ge x hg).1
                omega
              clear hua HFA8 HD8 c8 f8 cA HAPP HDW HHO
              generalize (w8.setCell ⟨A, φ, none⟩ (.slice a8 n8 k8)).alloc (.cells #[.string ⟨#[102]⟩, .string ⟨#[103]⟩] 9) = w9 at *
              (with_reducible refine (dAppend_any (fnm (isF i)) _ l HP9.out HAPQ.out HD9.out (by omega) HNL.out HLL.out).mono ?_)
              rintro e w10 ⟨rfl, ho⟩
              rw [HST1.out]
              obtain ⟨G10, h10, hu10, hf10⟩ := DOut.dd ho
              have H10 := Lib.hid h10
              have HFA10 := Lib.hid (HFA9.out.call hu10 hf10)
              clear ho h10 hu10 hf10 HFA9 HD9 HP9
              go_wp2_with fail
              go_roundw
              case rel => exact ⟨i + 1, r + 0 + (chunks l).length, _, _, _, G10, _, by omega, by omega, by go_num, by go_num, HST3.out.symm, H10, HST2.out, HFA10⟩
              case measure => simp [intOf]; omega
    · rcases hend with ⟨hke, h40⟩ | ⟨hke, hkn⟩
      · have q1 : ¬ (i : Int) < vs.length := by omega
        clear h40
        have hrb : r ≤ 96 := by have := hr.out; have := hF.out.log; omega
        have HMK0 := Lib.hid hF.out.mark
        have HBK : Hid (∀ f, (dGet (dBack s (K : Int)).now (fnm f)).1 = (c f).take (wrr f)) := fun f => by
          have h1 := hF.out.back f
          show (dGet (dBackF s (K : Int)) (fnm f)).1 = _
          unfold dBackF
          rw [HMK0.out, Int.toNat_natCast]; exact h1
        have HLE := Lib.hid hF.out.le
        have HOKS := Lib.hid hF.out.ok
        have HML : Hid (s.mark.length ≤ 100000) := by unfold Hid; rw [HMK0.out]; simp
        have HNLK : Hid ((dBack s (K : Int)).now.length ≤ 100000) := by
          have h1 : ∀ {fs : DF} {l : List Wr}, LogOk fs l → fs.length ≤ 100000 → (wAll fs l).length ≤ 100000 := wAll_len
          exact h1 (HOKS.out.log.take _) HML.out
        have HCL : Hid (∀ f, (c f).length ≤ 2400) := fun f => by have := hF.out.len f; omega
        clear HC HBY HVL hF
        go_wp2_with fail
        (with_reducible refine (dCount_any hs.out).mono ?_)
        rw [← hr.out]
        rintro e w3 ⟨rfl, rfl⟩
        have hrr : ((r : Int) != (r : Int)) = false := by simp
        go_wp2_with fail
        (with_reducible refine (dBack_any (K : Int) (i64_d _ (by omega) (by omega)) hs.out HML.out).mono ?_)
        rintro e w4 ⟨rfl, ho⟩
        obtain ⟨G4, h4, hu4, hf4⟩ := DOut.dd ho
        have H4 := Lib.hid h4
        have HFA4 := Lib.hid (hfa.out.call hu4 hf4)
        clear ho h4 hu4 hf4 hs hfa
        go_wp2_with fail
        go_loopw [14] (fun vj wr => ∃ j : Nat, j ≤ 2 ∧ vj = .int .i64 j ∧ Hid (DD w wr gd G4 (dBack s (K : Int))) ∧ Hid (FA w wr A (A + 1) G4 c wrr v)) (fun vj _ => 2 - (intOf vj).toNat)
        case atStart => exact ⟨0, by omega, rfl, H4, HFA4⟩
        case round =>
          clear H4 HFA4
          obtain ⟨j, hj, rfl, hs, hfa⟩ := hrel
          by_cases hj2 : j < 2
          · obtain ⟨f, hf⟩ : ∃ f, idx f = j := by
              rcases (show j = 0 ∨ j = 1 by omega) with rfl | rfl
              · exact ⟨false, rfl⟩
              · exact ⟨true, rfl⟩
            have HNMX : Hid (∀ (h : j < ([Value.string ⟨#[102]⟩, Value.string ⟨#[103]⟩] : List Value).length), ([Value.string ⟨#[102]⟩, Value.string ⟨#[103]⟩] : List Value)[j]'h = sv (fnm f)) := name_at f j hf
            have HIF := Lib.hid hf
            have j1 : (j : Int) < 2 := by omega
            have j0 : (0 : Int) ≤ j := by omega
            clear hf
            go_wp2_with fail
            rw [HNMX.out]
            have hua : Upd [] wr (wr.alloc (.cells #[.string ⟨#[102]⟩, .string ⟨#[103]⟩] 9)) := (Upd.refl [] wr).alloc _
            have HFA9 := Lib.hid (hfa.out.upd0 hua)
            have HD9 := Lib.hid (hs.out.upd0 hua)
            clear hua hfa hs
            generalize wr.alloc (.cells #[.string ⟨#[102]⟩, .string ⟨#[103]⟩] 9) = w9 at *
            (with_reducible refine (dRead_any (fnm f) HD9.out HNLK.out).mono ?_)
            rw [HBK.out f]
            rintro e w10 ⟨v10, rfl, ho10, hu10⟩
            obtain ⟨bo, hbo⟩ : ∃ b, (dGet (dBack s (K : Int)).now (fnm f)).2 = b := ⟨_, rfl⟩
            rw [hbo]
            have H10 := Lib.hid (HD9.out.upd0 hu10)
            have HFA10 := Lib.hid (HFA9.out.upd0 hu10)
            obtain ⟨⟨va, vn, vk⟩, hsl⟩ : ∃ sl, v f = sl := ⟨_, rfl⟩
            have hown : Own bv w.heap.size 5 w10 (.slice va vn vk) (c f) := by have := HFA10.out.own f; rw [hsl] at this; exact this
            have hcA : w10.cell? ⟨A, j, none⟩ = some (.slice va vn vk) := by have := HFA10.out.cellA f; rw [HIF.out, hsl] at this; exact this
            have hcW : w10.cell? ⟨A + 1, j, none⟩ = some (.int .i64 (wrr f : Int)) := by have := HFA10.out.cellW f; rw [HIF.out] at this; exact this
            obtain ⟨hvk, hvn, hrd⟩ : wrr f ≤ vk ∧ vn = (c f).length ∧ Bytes w10 (.slice va (wrr f) vk) ((c f).take (wrr f)) := by
              have hr := hown.rd
              obtain ⟨a', k', he, h1, h2, h3⟩ := hr
              injection he with e1 e2 e3
              subst e1; subst e2; subst e3
              exact ⟨Nat.le_trans (HLE.out f) h1, rfl, Rd.take (cap := vk) ⟨_, _, rfl, h1, h2, h3⟩ _ (HLE.out f)⟩
            have HRD := Lib.hid hrd
            have hcut := fun W => run_cut_h (P := Try.prog) (size := 1) Try.underlying27 (by kernel_rfl) va vn vk (wrr f) hvk W
            have hwb : wrr f ≤ 2400 := by have := HLE.out f; have := HCL.out f; omega
            have HR10 := Lib.hid ho10.rd
            generalize (c f).take (wrr f) = q at *
            generalize wrr f = t at *
            obtain ⟨a10, k10, rfl, -⟩ := ho10.rd
            clear ho10 hu10 HD9 HFA9 hown hrd hsl hbo hvn
            go_wp2_with fail
            go_still_tail 8, (by kernel_rfl)
            change wpList _ _ _ _ _ w10.drew
            go_wp2_with fail
            (with_reducible refine (sameByte_ok _ _ q _ HR10.out.drew HRD.out.drew).mono ?_)
            rintro e w11 ⟨rfl, n11, rfl⟩
            have hu11 : Upd [] w10 (w10.drew.drewN n11) := ((Upd.refl [] w10).drew).drewN n11
            have H11 := Lib.hid (H10.out.upd0 hu11)
            have HFA11 := Lib.hid (HFA10.out.upd0 hu11)
            clear hu11 H10 HFA10 HRD HR10 hcA hcW hcut
            generalize w10.drew.drewN n11 = w11 at *
            go_wp2_with fail
            go_roundw
            case rel => exact ⟨j + 1, by omega, by go_num, H11, HFA11⟩
            case measure => simp [intOf]; omega
          · obtain rfl : j = 2 := by omega
            have HO := Lib.hid hs.out.old
            clear hs hfa
            go_wp2_with fail
            (with_reducible refine (diskRuns_any _).mono ?_)
            rintro e w15 ⟨rfl, hu15⟩
            go_wp2_with fail
            go_ret
            exact ⟨rfl, HO.out.seq hu15⟩
      · have q1 : (i : Int) < vs.length := by omega
        have q2 : ¬ (i : Int) < 12 := by omega
        have hrb : r ≤ 96 := by have := hr.out; have := hF.out.log; omega
        have HMK0 := Lib.hid hF.out.mark
        have HBK : Hid (∀ f, (dGet (dBack s (K : Int)).now (fnm f)).1 = (c f).take (wrr f)) := fun f => by
          have h1 := hF.out.back f
          show (dGet (dBackF s (K : Int)) (fnm f)).1 = _
          unfold dBackF
          rw [HMK0.out, Int.toNat_natCast]; exact h1
        have HLE := Lib.hid hF.out.le
        have HOKS := Lib.hid hF.out.ok
        have HML : Hid (s.mark.length ≤ 100000) := by unfold Hid; rw [HMK0.out]; simp
        have HNLK : Hid ((dBack s (K : Int)).now.length ≤ 100000) := by
          have h1 : ∀ {fs : DF} {l : List Wr}, LogOk fs l → fs.length ≤ 100000 → (wAll fs l).length ≤ 100000 := wAll_len
          exact h1 (HOKS.out.log.take _) HML.out
        have HCL : Hid (∀ f, (c f).length ≤ 2400) := fun f => by have := hF.out.len f; omega
        clear HC HBY HVL hF
        go_wp2_with fail
        (with_reducible refine (dCount_any hs.out).mono ?_)
        rw [← hr.out]
        rintro e w3 ⟨rfl, rfl⟩
        have hrr : ((r : Int) != (r : Int)) = false := by simp
        go_wp2_with fail
        (with_reducible refine (dBack_any (K : Int) (i64_d _ (by omega) (by omega)) hs.out HML.out).mono ?_)
        rintro e w4 ⟨rfl, ho⟩
        obtain ⟨G4, h4, hu4, hf4⟩ := DOut.dd ho
        have H4 := Lib.hid h4
        have HFA4 := Lib.hid (hfa.out.call hu4 hf4)
        clear ho h4 hu4 hf4 hs hfa
        go_wp2_with fail
        go_loopw [14] (fun vj wr => ∃ j : Nat, j ≤ 2 ∧ vj = .int .i64 j ∧ Hid (DD w wr gd G4 (dBack s (K : Int))) ∧ Hid (FA w wr A (A + 1) G4 c wrr v)) (fun vj _ => 2 - (intOf vj).toNat)
        case atStart => exact ⟨0, by omega, rfl, H4, HFA4⟩
        case round =>
          clear H4 HFA4
          obtain ⟨j, hj, rfl, hs, hfa⟩ := hrel
          by_cases hj2 : j < 2
          · obtain ⟨f, hf⟩ : ∃ f, idx f = j := by
              rcases (show j = 0 ∨ j = 1 by omega) with rfl | rfl
              · exact ⟨false, rfl⟩
              · exact ⟨true, rfl⟩
            have HNMX : Hid (∀ (h : j < ([Value.string ⟨#[102]⟩, Value.string ⟨#[103]⟩] : List Value).length), ([Value.string ⟨#[102]⟩, Value.string ⟨#[103]⟩] : List Value)[j]'h = sv (fnm f)) := name_at f j hf
            have HIF := Lib.hid hf
            have j1 : (j : Int) < 2 := by omega
            have j0 : (0 : Int) ≤ j := by omega
            clear hf
            go_wp2_with fail
            rw [HNMX.out]
            have hua : Upd [] wr (wr.alloc (.cells #[.string ⟨#[102]⟩, .string ⟨#[103]⟩] 9)) := (Upd.refl [] wr).alloc _
            have HFA9 := Lib.hid (hfa.out.upd0 hua)
            have HD9 := Lib.hid (hs.out.upd0 hua)
            clear hua hfa hs
            generalize wr.alloc (.cells #[.string ⟨#[102]⟩, .string ⟨#[103]⟩] 9) = w9 at *
            (with_reducible refine (dRead_any (fnm f) HD9.out HNLK.out).mono ?_)
            rw [HBK.out f]
            rintro e w10 ⟨v10, rfl, ho10, hu10⟩
            obtain ⟨bo, hbo⟩ : ∃ b, (dGet (dBack s (K : Int)).now (fnm f)).2 = b := ⟨_, rfl⟩
            rw [hbo]
            have H10 := Lib.hid (HD9.out.upd0 hu10)
            have HFA10 := Lib.hid (HFA9.out.upd0 hu10)
            obtain ⟨⟨va, vn, vk⟩, hsl⟩ : ∃ sl, v f = sl := ⟨_, rfl⟩
            have hown : Own bv w.heap.size 5 w10 (.slice va vn vk) (c f) := by have := HFA10.out.own f; rw [hsl] at this; exact this
            have hcA : w10.cell? ⟨A, j, none⟩ = some (.slice va vn vk) := by have := HFA10.out.cellA f; rw [HIF.out, hsl] at this; exact this
            have hcW : w10.cell? ⟨A + 1, j, none⟩ = some (.int .i64 (wrr f : Int)) := by have := HFA10.out.cellW f; rw [HIF.out] at this; exact this
            obtain ⟨hvk, hvn, hrd⟩ : wrr f ≤ vk ∧ vn = (c f).length ∧ Bytes w10 (.slice va (wrr f) vk) ((c f).take (wrr f)) := by
              have hr := hown.rd
              obtain ⟨a', k', he, h1, h2, h3⟩ := hr
              injection he with e1 e2 e3
              subst e1; subst e2; subst e3
              exact ⟨Nat.le_trans (HLE.out f) h1, rfl, Rd.take (cap := vk) ⟨_, _, rfl, h1, h2, h3⟩ _ (HLE.out f)⟩
            have HRD := Lib.hid hrd
            have hcut := fun W => run_cut_h (P := Try.prog) (size := 1) Try.underlying27 (by kernel_rfl) va vn vk (wrr f) hvk W
            have hwb : wrr f ≤ 2400 := by have := HLE.out f; have := HCL.out f; omega
            have HR10 := Lib.hid ho10.rd
            generalize (c f).take (wrr f) = q at *
            generalize wrr f = t at *
            obtain ⟨a10, k10, rfl, -⟩ := ho10.rd
            clear ho10 hu10 HD9 HFA9 hown hrd hsl hbo hvn
            go_wp2_with fail
            go_still_tail 8, (by kernel_rfl)
            change wpList _ _ _ _ _ w10.drew
            go_wp2_with fail
            (with_reducible refine (sameByte_ok _ _ q _ HR10.out.drew HRD.out.drew).mono ?_)
            rintro e w11 ⟨rfl, n11, rfl⟩
            have hu11 : Upd [] w10 (w10.drew.drewN n11) := ((Upd.refl [] w10).drew).drewN n11
            have H11 := Lib.hid (H10.out.upd0 hu11)
            have HFA11 := Lib.hid (HFA10.out.upd0 hu11)
            clear hu11 H10 HFA10 HRD HR10 hcA hcW hcut
            generalize w10.drew.drewN n11 = w11 at *
            go_wp2_with fail
            go_roundw
            case rel => exact ⟨j + 1, by omega, by go_num, H11, HFA11⟩
            case measure => simp [intOf]; omega
          · obtain rfl : j = 2 := by omega
            have HO := Lib.hid hs.out.old
            clear hs hfa
            go_wp2_with fail
            (with_reducible refine (diskRuns_any _).mono ?_)
            rintro e w15 ⟨rfl, hu15⟩
            go_wp2_with fail
            go_ret
            exact ⟨rfl, HO.out.seq hu15⟩
end Go.Proofs.Ytmhdhnipljonlaa
