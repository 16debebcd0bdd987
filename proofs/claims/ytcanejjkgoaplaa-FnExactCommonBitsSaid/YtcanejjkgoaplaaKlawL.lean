/- What is proved here: the laws on LessKey and CommonBits answer true, at keys. No condition beyond those that each theorem states. Written by this session. -/
import Derived.Test.YtcanejjkgoaplaaKw
import Derived.Test.YtcanejjkgoaplaaKc
import Derived.Test.YtcanejjkgoaplaaKb
import Derived.Test.YtcanejjkgoaplaaRg
namespace Go.Proofs.Ytcanejjkgoaplaa.Ky
open Go.RowKit
set_option linter.unusedVariables false
set_option linter.unusedSimpArgs false
theorem rangeOf {w : World} {g t : Nat} {l : List Int} (h : w.heap[g]? = some (.cells (bs l) t (0, 0))) : w.rangeAt g 0 (l.map (Value.int .u8)) := by
  intro j v hv
  rw [Nat.zero_add]
  exact bcell h (by simpa [bs] using hv)
/-- Two blocks that stay while the world grows. -/
def Two (g1 g2 t : Nat) (a b : List Int) (w0 w : World) : Prop := w.heap[g1]? = some (.cells (bs a) t (0, 0)) ∧ w.heap[g2]? = some (.cells (bs b) t (0, 0)) ∧ Below w0.heap.size w0 w
theorem Two.below {g1 g2 t : Nat} {a b : List Int} {w0 w w1 : World} (h : Two g1 g2 t a b w0 w) (hb : Below w.heap.size w w1) : Two g1 g2 t a b w0 w1 := ⟨bbelow h.1 hb, bbelow h.2.1 hb, below_then h.2.2 (Nat.le_refl _) hb⟩
theorem Two.drew {g1 g2 t : Nat} {a b : List Int} {w0 w : World} (h : Two g1 g2 t a b w0 w) : Two g1 g2 t a b w0 w.drew := ⟨h.1, h.2.1, ⟨h.2.2.os, h.2.2.tape, h.2.2.output, h.2.2.size, h.2.2.block⟩⟩
set_option maxHeartbeats 400000 in
set_option maxRecDepth 100000 in
theorem lawLess (a b : List Int) (ha : a.length = 16) (hb : b.length = 16) (ua : ∀ x ∈ a, 0 ≤ x ∧ x ≤ 255) (ub : ∀ x ∈ b, 0 ≤ x ∧ x ≤ 255) (w : World) :
    Calls Try.prog 3 #[.agg (bs a), .agg (bs b)] w fun e w' => e = .returned (.bool true) ∧ Below w.heap.size w w' := by
  obtain ⟨W, hW⟩ : ∃ W, W = ((w.alloc (Obj.cells (bs a) 22)).alloc (Obj.cells (bs b) 22)) := ⟨_, rfl⟩
  have HS : Hid (Two w.heap.size (w.heap.size + 1) 22 a b w W) := by subst hW; exact ⟨heap_alloc2_old _ _ _, heap_alloc2_new _ _ _, below_alloc (below_alloc (Below.refl _ _) (Nat.le_refl _) _) (Nat.le_refl _) _⟩
  have H1 := Lib.hid (toKey a ha)
  have H2 := Lib.hid (toKey b hb)
  have H3 := Lib.hid (specLess a b ha hb)
  have H4 := Lib.hid (implLess a b ha hb ua ub)
  have hia : (Try.prog.info? 22).map (·.size) = some (a.map (Value.int .u8)).length := by rw [List.length_map, ha]; exact hKi
  have hib : (Try.prog.info? 22).map (·.size) = some (b.map (Value.int .u8)).length := by rw [List.length_map, hb]; exact hKi
  have HIA := Lib.hid hia
  have HIB := Lib.hid hib
  clear ha hb ua ub hia hib
  go_enter Try.func3, Try.ntmps3
  go_wp2
  rw [← hW]
  clear hW
  refine Rg.start (S := Two w.heap.size (w.heap.size + 1) 22 a b w) [.take 0, .take 2, .one 1, .one 3, .one 4, .one 5] (by kernel_rfl) (by kernel_rfl) (by decide) (by kernel_rfl) HS.out.drew ?_
  refine Rg.take (some 7) rfl rfl (yieldsIf_load_mid (by rfl) _ _ rfl _ _ rfl _ _ (fun w hw => rangeOf hw.1) hK rfl HIA.out) ?_
  refine Rg.take (some 9) rfl rfl (yieldsIf_load_mid (by rfl) _ _ rfl _ _ rfl _ _ (fun w hw => rangeOf hw.2.1) hK rfl HIB.out) ?_
  simp only [Act.put, List.setIfInBounds_toArray, List.set_cons_zero, List.set_cons_succ]
  refine Rg.call (some 8) Try.func10 (by kernel_rfl) rfl #[.agg (bs a)] rfl rfl rfl (by rfl) rfl ((H1.out _).mono ?_)
  rintro e w1a ⟨rfl, hb1⟩
  have HTa1 := Lib.hid (HS.out.drew.below hb1)
  refine ⟨_, rfl, HTa1.out, ?_⟩
  clear HS hb1
  simp only [Act.put, List.setIfInBounds_toArray, List.set_cons_zero, List.set_cons_succ]
  refine Rg.call (some 10) Try.func10 (by kernel_rfl) rfl #[.agg (bs b)] rfl rfl rfl (by rfl) rfl ((H2.out _).mono ?_)
  rintro e w2a ⟨rfl, hb1⟩
  have HTa2 := Lib.hid (HTa1.out.below hb1)
  refine ⟨_, rfl, HTa2.out, ?_⟩
  clear HTa1 hb1
  simp only [Act.put, List.setIfInBounds_toArray, List.set_cons_zero, List.set_cons_succ]
  refine Rg.call (some 11) Try.func9 (by kernel_rfl) rfl #[.agg (bs a), .agg (bs b)] rfl rfl rfl (by rfl) rfl ((H3.out _).mono ?_)
  rintro e w3a ⟨rfl, hb1⟩
  have HTa3 := Lib.hid (HTa2.out.below hb1)
  refine ⟨_, rfl, HTa3.out, ?_⟩
  clear HTa2 hb1
  simp only [Act.put, List.setIfInBounds_toArray, List.set_cons_zero, List.set_cons_succ]
  refine Rg.step (some 5) (.bool (lessF a b)) rfl rfl (by rfl) (by rfl) HTa3.out ?_
  simp only [Act.put, List.setIfInBounds_toArray, List.set_cons_zero, List.set_cons_succ]
  refine Rg.done ?_
  go_wp2
  refine Rg.start (S := Two w.heap.size (w.heap.size + 1) 22 a b w) [.take 0, .take 2, .one 1, .one 3, .one 4, .one 5] (by kernel_rfl) (by kernel_rfl) (by decide) (by kernel_rfl) HTa3.out.drew ?_
  refine Rg.take (some 12) rfl rfl (yieldsIf_load_mid (by rfl) _ _ rfl _ _ rfl _ _ (fun w hw => rangeOf hw.1) hK rfl HIA.out) ?_
  refine Rg.take (some 14) rfl rfl (yieldsIf_load_mid (by rfl) _ _ rfl _ _ rfl _ _ (fun w hw => rangeOf hw.2.1) hK rfl HIB.out) ?_
  simp only [Act.put, List.setIfInBounds_toArray, List.set_cons_zero, List.set_cons_succ]
  refine Rg.call (some 13) Try.func10 (by kernel_rfl) rfl #[.agg (bs a)] rfl rfl rfl (by rfl) rfl ((H1.out _).mono ?_)
  rintro e w1b ⟨rfl, hb1⟩
  have HTb1 := Lib.hid (HTa3.out.drew.below hb1)
  refine ⟨_, rfl, HTb1.out, ?_⟩
  clear HTa3 hb1
  simp only [Act.put, List.setIfInBounds_toArray, List.set_cons_zero, List.set_cons_succ]
  refine Rg.call (some 15) Try.func10 (by kernel_rfl) rfl #[.agg (bs b)] rfl rfl rfl (by rfl) rfl ((H2.out _).mono ?_)
  rintro e w2b ⟨rfl, hb1⟩
  have HTb2 := Lib.hid (HTb1.out.below hb1)
  refine ⟨_, rfl, HTb2.out, ?_⟩
  clear HTb1 hb1
  simp only [Act.put, List.setIfInBounds_toArray, List.set_cons_zero, List.set_cons_succ]
  refine Rg.call (some 16) Try.func11 (by kernel_rfl) rfl #[.agg (bs a), .agg (bs b)] rfl rfl rfl (by rfl) rfl ((H4.out _).mono ?_)
  rintro e w3b ⟨rfl, hb1⟩
  have HTb3 := Lib.hid (HTb2.out.below hb1)
  refine ⟨_, rfl, HTb3.out, ?_⟩
  clear HTb2 hb1
  simp only [Act.put, List.setIfInBounds_toArray, List.set_cons_zero, List.set_cons_succ]
  refine Rg.step (some 6) (.bool (lessF a b)) rfl rfl (by rfl) (by rfl) HTb3.out ?_
  simp only [Act.put, List.setIfInBounds_toArray, List.set_cons_zero, List.set_cons_succ]
  refine Rg.done ?_
  go_wp2
  go_ret
  exact ⟨rfl, HTb3.out.2.2⟩
set_option maxHeartbeats 400000 in
set_option maxRecDepth 100000 in
theorem lawCommon (a b : List Int) (ha : a.length = 16) (hb : b.length = 16) (ua : ∀ x ∈ a, 0 ≤ x ∧ x ≤ 255) (ub : ∀ x ∈ b, 0 ≤ x ∧ x ≤ 255) (w : World) :
    Calls Try.prog 4 #[.agg (bs a), .agg (bs b)] w fun e w' => e = .returned (.bool true) ∧ Below w.heap.size w w' := by
  obtain ⟨W, hW⟩ : ∃ W, W = ((w.alloc (Obj.cells (bs a) 22)).alloc (Obj.cells (bs b) 22)) := ⟨_, rfl⟩
  have HS : Hid (Two w.heap.size (w.heap.size + 1) 22 a b w W) := by subst hW; exact ⟨heap_alloc2_old _ _ _, heap_alloc2_new _ _ _, below_alloc (below_alloc (Below.refl _ _) (Nat.le_refl _) _) (Nat.le_refl _) _⟩
  have H1 := Lib.hid (toKey a ha)
  have H2 := Lib.hid (toKey b hb)
  have H3 := Lib.hid (specCommon a b ha hb ua ub)
  have H4 := Lib.hid (implCommon a b ha hb ua ub)
  have hia : (Try.prog.info? 22).map (·.size) = some (a.map (Value.int .u8)).length := by rw [List.length_map, ha]; exact hKi
  have hib : (Try.prog.info? 22).map (·.size) = some (b.map (Value.int .u8)).length := by rw [List.length_map, hb]; exact hKi
  have HIA := Lib.hid hia
  have HIB := Lib.hid hib
  clear ha hb ua ub hia hib
  obtain ⟨z, HZ⟩ : ∃ z : Int, Hid (z = (commonF a b : Int)) := ⟨_, rfl⟩
  rw [← HZ.out] at H3 H4
  go_enter Try.func4, Try.ntmps4
  go_wp2
  rw [← hW]
  clear hW
  refine Rg.start (S := Two w.heap.size (w.heap.size + 1) 22 a b w) [.take 0, .take 2, .one 1, .one 3, .one 4, .one 5] (by kernel_rfl) (by kernel_rfl) (by decide) (by kernel_rfl) HS.out.drew ?_
  refine Rg.take (some 7) rfl rfl (yieldsIf_load_mid (by rfl) _ _ rfl _ _ rfl _ _ (fun w hw => rangeOf hw.1) hK rfl HIA.out) ?_
  refine Rg.take (some 9) rfl rfl (yieldsIf_load_mid (by rfl) _ _ rfl _ _ rfl _ _ (fun w hw => rangeOf hw.2.1) hK rfl HIB.out) ?_
  simp only [Act.put, List.setIfInBounds_toArray, List.set_cons_zero, List.set_cons_succ]
  refine Rg.call (some 8) Try.func10 (by kernel_rfl) rfl #[.agg (bs a)] rfl rfl rfl (by rfl) rfl ((H1.out _).mono ?_)
  rintro e w1a ⟨rfl, hb1⟩
  have HTa1 := Lib.hid (HS.out.drew.below hb1)
  refine ⟨_, rfl, HTa1.out, ?_⟩
  clear HS hb1
  simp only [Act.put, List.setIfInBounds_toArray, List.set_cons_zero, List.set_cons_succ]
  refine Rg.call (some 10) Try.func10 (by kernel_rfl) rfl #[.agg (bs b)] rfl rfl rfl (by rfl) rfl ((H2.out _).mono ?_)
  rintro e w2a ⟨rfl, hb1⟩
  have HTa2 := Lib.hid (HTa1.out.below hb1)
  refine ⟨_, rfl, HTa2.out, ?_⟩
  clear HTa1 hb1
  simp only [Act.put, List.setIfInBounds_toArray, List.set_cons_zero, List.set_cons_succ]
  refine Rg.call (some 11) Try.func12 (by kernel_rfl) rfl #[.agg (bs a), .agg (bs b)] rfl rfl rfl (by rfl) rfl ((H3.out _).mono ?_)
  rintro e w3a ⟨rfl, hb1⟩
  have HTa3 := Lib.hid (HTa2.out.below hb1)
  refine ⟨_, rfl, HTa3.out, ?_⟩
  clear HTa2 hb1
  simp only [Act.put, List.setIfInBounds_toArray, List.set_cons_zero, List.set_cons_succ]
  refine Rg.step (some 5) (.int .i64 z) rfl rfl (by rfl) (by rfl) HTa3.out ?_
  simp only [Act.put, List.setIfInBounds_toArray, List.set_cons_zero, List.set_cons_succ]
  refine Rg.done ?_
  go_wp2
  refine Rg.start (S := Two w.heap.size (w.heap.size + 1) 22 a b w) [.take 0, .take 2, .one 1, .one 3, .one 4, .one 5] (by kernel_rfl) (by kernel_rfl) (by decide) (by kernel_rfl) HTa3.out.drew ?_
  refine Rg.take (some 12) rfl rfl (yieldsIf_load_mid (by rfl) _ _ rfl _ _ rfl _ _ (fun w hw => rangeOf hw.1) hK rfl HIA.out) ?_
  refine Rg.take (some 14) rfl rfl (yieldsIf_load_mid (by rfl) _ _ rfl _ _ rfl _ _ (fun w hw => rangeOf hw.2.1) hK rfl HIB.out) ?_
  simp only [Act.put, List.setIfInBounds_toArray, List.set_cons_zero, List.set_cons_succ]
  refine Rg.call (some 13) Try.func10 (by kernel_rfl) rfl #[.agg (bs a)] rfl rfl rfl (by rfl) rfl ((H1.out _).mono ?_)
  rintro e w1b ⟨rfl, hb1⟩
  have HTb1 := Lib.hid (HTa3.out.drew.below hb1)
  refine ⟨_, rfl, HTb1.out, ?_⟩
  clear HTa3 hb1
  simp only [Act.put, List.setIfInBounds_toArray, List.set_cons_zero, List.set_cons_succ]
  refine Rg.call (some 15) Try.func10 (by kernel_rfl) rfl #[.agg (bs b)] rfl rfl rfl (by rfl) rfl ((H2.out _).mono ?_)
  rintro e w2b ⟨rfl, hb1⟩
  have HTb2 := Lib.hid (HTb1.out.below hb1)
  refine ⟨_, rfl, HTb2.out, ?_⟩
  clear HTb1 hb1
  simp only [Act.put, List.setIfInBounds_toArray, List.set_cons_zero, List.set_cons_succ]
  refine Rg.call (some 16) Try.func13 (by kernel_rfl) rfl #[.agg (bs a), .agg (bs b)] rfl rfl rfl (by rfl) rfl ((H4.out _).mono ?_)
  rintro e w3b ⟨rfl, hb1⟩
  have HTb3 := Lib.hid (HTb2.out.below hb1)
  refine ⟨_, rfl, HTb3.out, ?_⟩
  clear HTb2 hb1
  simp only [Act.put, List.setIfInBounds_toArray, List.set_cons_zero, List.set_cons_succ]
  refine Rg.step (some 6) (.int .i64 z) rfl rfl (by rfl) (by rfl) HTb3.out ?_
  simp only [Act.put, List.setIfInBounds_toArray, List.set_cons_zero, List.set_cons_succ]
  refine Rg.done ?_
  go_wp2
  go_ret
  exact ⟨rfl, HTb3.out.2.2⟩
end Go.Proofs.Ytcanejjkgoaplaa.Ky
