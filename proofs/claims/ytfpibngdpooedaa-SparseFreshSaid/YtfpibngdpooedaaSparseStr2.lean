/- Chapter 5's Add and Clear at string. -/
import Derived.Test.YtfpibngdpooedaaAppRun
import Derived.Test.YtfpibngdpooedaaSparseStr
import Derived.StillTailTactics
namespace Go.Proofs.Ytfpibngdpooedaa
open Go.RowKit
set_option linter.unusedSimpArgs false
set_option linter.unusedVariables false
theorem zszStr : (Value.cells (.agg #[.int .i64 0, .string .empty])).size = 2 := rfl
theorem zoneStr : ∀ u ∈ (Value.cells (.agg #[.int .i64 0, .string .empty])), u.oneCell' = true := by decide
theorem itoneStr : ∀ (x : Nat × ByteArray), ∀ u ∈ itC sv x, u.oneCell' = true := fun _ u hu => by simp at hu; rcases hu with rfl | rfl <;> rfl
section
variable {base : Nat} {g gp : Nat} {lv : Value} {pl : List Nat} {it : List (Nat × ByteArray)}
set_option maxRecDepth 20000 in
set_option maxHeartbeats 800000 in
theorem spAddStr_ok (w : World) (i : Nat) (x : ByteArray) (hs : SparStr base w g gp lv pl it) (hit : it.length ≤ 5000) (hbase : base ≤ w.heap.size) (hi : i < pl.length) (hn : spHas pl it i = false) :
    Calls Try.prog 13 #[.pointer (some ⟨g, 0, none⟩), .int .i64 (i : Int), sv x] w fun e w' => e = .returned (.bool true) ∧
      ∃ lv', SparStr base w' g gp lv' (pl.set i it.length) (it ++ [(i, x)]) ∧ Upd (spF g gp lv) w w' ∧ (∀ y ∈ blk lv', y ∈ blk lv ∨ w.heap.size ≤ y) := by
  have hi0 : I64 (i : Int) := by have := hs.le; unfold I64; omega
  have hc := spHasStr_any w i hi0 hs (by omega)
  rw [spHasI_nat, hn] at hc
  have HC := Lib.hid hc
  have HS := Lib.hid hs
  have HG1 := Lib.hid hs.g_gp
  have HG2 := Lib.hid hs.g_lv
  have HG3 := Lib.hid hs.gp_lv
  obtain ⟨ao, co, rfl, hlc, hcm, hcell⟩ := hs.things.rd (itC_len _)
  have c0 : w.cell? ⟨g, 0, none⟩ = some (.slice (some ⟨gp, 0, none⟩) pl.length pl.length) := hs.set_.cell 0
  have c1 : w.cell? ⟨g, 1, none⟩ = some (.slice ao it.length co) := hs.set_.cell 1
  have hpl := hs.le
  have cp : w.cell? ⟨gp, i, none⟩ = some (nv (nth pl i)) := by rw [hs.place.cell]; exact nv_get pl i hi
  have fp : w.frozen? ⟨gp, i, none⟩ = false := hs.place.frozen i
  have f1 : w.frozen? ⟨g, 1, none⟩ = false := hs.set_.frozen 1
  have ne1 : ¬ gp = g := fun e => hs.g_gp e.symm
  have q0 : (0 : Int) ≤ i := by omega
  have q1 : (i : Int) < pl.length := by omega
  clear hc hn hs hcell hcm hi0
  go_enter Try.func13, Try.ntmps13
  go_wp2_with fail
  refine HC.out.mono ?_
  rintro e w' ⟨rfl, rfl⟩
  go_wp2_with fail
  go_still_tail 11, (by kernel_rfl)
  change wpList _ _ _ _ _ w.drew
  have HS1 : Hid (Blk (w.drew.setCell ⟨gp, i, none⟩ (nv it.length)) gp 3 ((pl.set i it.length).map nv)) := by
    have h := HS.out.place
    have h2 := Blk.set_ (w := w.drew) h i (nv it.length)
    rw [map_set_nv] at h2; exact h2
  have HO : Hid (∀ W : World, Upd [gp] w W → OwnN 2 (itC sv) base 77 W (.slice ao it.length co) it) := fun W hW => HS.out.things.upd hW (fun x hx hy => HG3.out (by simp at hy; rw [← hy]; exact hx))
  have HB : Hid ((it.length + 1) * 24 ≤ 140737488355328) := by unfold Hid; omega
  have HL : Hid (it.length + 1 ≤ maxLen) := by unfold Hid maxLen; omega
  have HBS : Hid (∀ W : World, w.heap.size ≤ W.heap.size → base ≤ W.heap.size) := fun W hW => by omega
  go_wp2_with (at_builtin; go_must (refine wpList_appN (sz := 2) (c := itC sv) (itC_len _) (by decide) itoneStr rfl _ _ rfl Try.underlying73 infoItemStr zszStr (.slice ao it.length co) it (i, x) rfl w.heap.size 1 rfl (HO.out _ ((((Upd.refl [gp] w).drew).setCell _ _ (.inl (List.mem_singleton.2 rfl))).alloc _)) (cells_new (cs := [.int .i64 (i : Int), sv x]) ?hg rfl) HB.out HL.out ?hb ?_))
  case hg => simp
  case hb => simp; omega
  intro v1 w2 ho2 hu2 hbk
  obtain ⟨a1, k1, rfl⟩ : ∃ a1 k1, v1 = .slice a1 (it.length + 1) k1 := by
    obtain ⟨a1, k1, h, _⟩ := ho2.rd (itC_len _)
    exact ⟨a1, k1, by rw [h, List.length_append]; rfl⟩
  have hu0 := ((((Upd.refl [gp] w).setCell ⟨gp, i, none⟩ (Value.int IntKind.i64 ↑it.length) (.inl (List.mem_singleton.2 rfl))).alloc (Obj.cells #[Value.int IntKind.i64 ↑i, sv x] 77)).drew).trans (T := gp :: blk (Value.slice ao it.length co)) hu2 (by simp) (fun y hy => .inl (by simp [hy]))
  have hg : g ∉ gp :: blk (Value.slice ao it.length co) := by
    intro h; rcases List.mem_cons.1 h with h | h
    · exact HG1.out h
    · exact HG2.out h
  have c1' := hu0.cell c1 hg
  have f1' := (HS.out.set_.upd hu0 hg).frozen 1
  have HB2 := Lib.hid (HS.out.set_.upd hu0 hg)
  have HP2 : Hid (Blk w2 gp 3 ((pl.set i it.length).map nv)) := by
    have h1 : Blk ((w.setCell ⟨gp, i, none⟩ (nv it.length)).alloc (Obj.cells #[Value.int IntKind.i64 ↑i, sv x] 77)).drew gp 3 ((pl.set i it.length).map nv) := by
      have h0 : Blk (w.setCell ⟨gp, i, none⟩ (nv it.length)) gp 3 ((pl.set i it.length).map nv) := by rw [← map_set_nv]; exact HS.out.place.set_ i _
      exact Blk.upd h0 (((Upd.refl [] _).alloc _).drew) (by simp)
    exact Blk.upd h1 hu2 HG3.out
  have HO2 := Lib.hid ho2
  have HU2 := Lib.hid hu0
  have HK := Lib.hid hbk
  have hltg := HS.out.set_.lt
  clear hu2 ho2 hu0 hg hbk
  go_wp2_with fail
  go_ret
  have hgv : ∀ y ∈ blk (.slice a1 (it.length + 1) k1), y ≠ g := by
    intro y hy e; subst e
    rcases HK.out _ hy with h | h
    · exact HG2.out h
    · omega
  refine ⟨rfl, .slice a1 (it.length + 1) k1, ⟨?_, ?_, ?_, HS.out.gb, HS.out.gpb, HS.out.ne1, HS.out.ne2, HS.out.ne3, by rw [List.length_set]; exact HS.out.le⟩, ?_, fun y hy => ?_⟩
  · rw [List.length_set]; exact HB2.out.set_ 1 _
  · exact HP2.out.upd (S := [g]) ((Upd.refl [g] _).setCell _ _ (.inl (by simp))) (by simpa using ne1)
  · exact HO2.out.upd (S := [g]) ((Upd.refl [g] _).setCell _ _ (.inl (by simp))) (fun y hy h => hgv y hy (by simpa using h))
  · exact (HU2.out.mono (T := spF g gp (.slice ao it.length co)) (fun y hy => .inl (by simp [spF] at hy ⊢; exact .inr hy))).setCell _ _ (.inl (by simp [spF]))
  · rcases HK.out y hy with h | h
    · exact .inl h
    · exact .inr (by omega)
set_option maxRecDepth 20000 in
set_option maxHeartbeats 800000 in
theorem spClearStr_any (w : World) (hs : SparStr base w g gp lv pl it) (hit : it.length ≤ 5000) :
    Calls Try.prog 15 #[.pointer (some ⟨g, 0, none⟩)] w fun e w' => e = .returned (.tuple #[]) ∧
      ∃ lv', SparStr base w' g gp lv' pl [] ∧ Upd (spF g gp lv) w w' ∧ (∀ y ∈ blk lv', y ∈ blk lv) := by
  have HS := Lib.hid hs
  have HG2 := Lib.hid hs.g_lv
  have HG3 := Lib.hid hs.gp_lv
  obtain ⟨ao, co, rfl, hlc, hcm, hcell⟩ := hs.things.rd (itC_len _)
  have c1 : w.cell? ⟨g, 1, none⟩ = some (.slice ao it.length co) := hs.set_.cell 1
  clear hs hcell hcm
  go_enter Try.func15, Try.ntmps15
  go_wp2_with ((with_reducible refine wpList_clearN (α := Nat × ByteArray) (sz := 2) (c := itC sv) rfl (.tmp 5) rfl Try.underlying73 infoItemStr zszStr zoneStr (.slice ao it.length co) it rfl HS.out.things ?_); intro w1 hu1 hz1 ho1; have c1' := hu1.cell c1 HG2.out; have f1' := (HS.out.set_.upd hu1 HG2.out).frozen 1; have HS1 := Lib.hid (HS.out.set_.upd hu1 HG2.out); have HP1 := Lib.hid (HS.out.place.upd hu1 HG3.out); have HO1 := Lib.hid (ho1 ao co rfl); have HU1 := Lib.hid hu1; clear hu1 hz1 ho1)
  go_end0
  refine ⟨rfl, .slice ao 0 co, ⟨?_, ?_, ?_, HS.out.gb, HS.out.gpb, HS.out.ne1, HS.out.ne2, HS.out.ne3, HS.out.le⟩, ?_, fun y hy => by rw [blk_slice ao it.length co 0 co]; exact hy⟩
  · exact HS1.out.set_ 1 _
  · exact HP1.out.upd (S := [g]) ((Upd.refl [g] _).setCell _ _ (.inl (by simp))) (by simp; exact fun e => HS.out.g_gp e.symm)
  · exact HO1.out.upd (S := [g]) ((Upd.refl [g] _).setCell _ _ (.inl (by simp))) (fun x hx hy => HG2.out (by simp at hy; rw [← hy, blk_slice ao it.length co 0 co]; exact hx))
  · exact (HU1.out.mono (T := spF g gp (.slice ao it.length co)) (fun x hx => .inl (by simp [spF, hx]))).setCell _ _ (.inl (by simp [spF]))
end
end Go.Proofs.Ytfpibngdpooedaa
