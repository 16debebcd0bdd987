/- What is proved here: the law on NextKey answers true, at keys. No condition beyond those that it states. Written by this session. -/
import Derived.Test.YtcanejjkgoaplaaKw
import Derived.Test.YtcanejjkgoaplaaKn
import Derived.Deep.Cut
namespace Go.Proofs.Ytcanejjkgoaplaa.Ky
open Go.RowKit
set_option linter.unusedVariables false
set_option linter.unusedSimpArgs false
theorem nextF_len : ∀ (k : Nat) (a l : List Int), nextF k a = some l → l.length = a.length
  | 0, a, l, h => by cases h
  | k + 1, a, l, h => by
    rw [nextF] at h
    split at h
    · cases h
      rw [List.length_set]
    · have := nextF_len k _ _ h
      rwa [List.length_set] at this
theorem nextR_form (a : List Int) (ha : a.length = 16) : ∃ (l : List Int) (c : Bool), nextR a = .tuple #[.agg (bs l), .bool c] ∧ l.length = 16 := by
  unfold nextR
  cases h : nextF 16 a with
  | none => exact ⟨_, _, rfl, rfl⟩
  | some l => exact ⟨_, _, rfl, by rw [nextF_len _ _ _ h, ha]⟩
set_option maxHeartbeats 400000 in
set_option maxRecDepth 100000 in
theorem lawNext (a : List Int) (ha : a.length = 16) (ua : ∀ x ∈ a, 0 ≤ x ∧ x ≤ 255) (w : World) :
    Calls Try.prog 5 #[.agg (bs a)] w fun e w' => e = .returned (.bool true) ∧ Below w.heap.size w w' := by
  have HA : Hid ((w.alloc (Obj.cells (bs a) 22)).heap[w.heap.size]? = some (.cells (bs a) 22 (0, 0))) := heap_alloc_new _ _
  have HW : Hid (Below w.heap.size w (w.alloc (Obj.cells (bs a) 22))) := below_alloc (Below.refl _ _) (Nat.le_refl _) _
  obtain ⟨l, c, hn, hl⟩ := nextR_form a ha
  have H1 := Lib.hid (toKey a ha)
  have H2 := Lib.hid (specNext a ha ua)
  have H3 := Lib.hid (implNext a ha ua)
  rw [hn] at H2 H3
  have h4 := eqKey l l hl hl
  simp only [decide_true] at h4
  have H4 := Lib.hid h4
  clear h4
  have HI := Lib.hid (hKs ha)
  have HJ := Lib.hid (hKs hl)
  have HL := Lib.hid hl
  clear hn hl ha ua
  go_enter Try.func5, Try.ntmps5
  go_upto_region 1 with (fail)
  generalize hW : w.alloc (Obj.cells (bs a) 22) = W at HA HW ⊢
  clear hW
  go_upto_region 2 with (first | (refine wpList_load_row rfl 22 _ rfl (w.heap.size) rfl 22 (bs a) (0, 0) _ HA.out hK rfl HI.out ?_) | (go_at_call 10; refine (H1.out _).mono ?_; rintro e w1 ⟨rfl, hb1⟩; have HW1 := Lib.hid (below_then HW.out (Nat.le_refl _) hb1); have HA1 := Lib.hid (bbelow HA.out hb1); clear hb1) | (go_at_call 14; refine (H2.out _).mono ?_; rintro e w2 ⟨rfl, hb1⟩; have HW2 := Lib.hid (below_then HW1.out (Nat.le_refl _) hb1); have HA2 := Lib.hid (bbelow HA1.out hb1); clear hb1) | (refine wpList_store_mid rfl 22 _ _ rfl (w2.heap.size) 0 (bs l) rfl rfl (bthere (heap_alloc_new w2 (Obj.cells (bs (List.replicate 16 0)) 22)) (by rw [bs_size, bs_size, HL.out]; rfl)) HJ.out (bs_one _) ?_; have HA3 := Lib.hid (bsetsFar (balloc HA2.out (Obj.cells (bs (List.replicate 16 0)) 22)) (Nat.ne_of_lt (blt HA2.out)) 0 (bs l).toList); have HW3 := Lib.hid (below_sets (below_alloc HW2.out (Nat.le_refl _) (Obj.cells (bs (List.replicate 16 0)) 22)) HW2.out.size (bs l).toList 0); have HB3 := Lib.hid (bsetAll (heap_alloc_new w2 (Obj.cells (bs (List.replicate 16 0)) 22)) (c1 := bs l) (by rw [bs_size, bs_size, HL.out]; rfl)); skip))
  obtain ⟨b3, hb3⟩ : ∃ b, b = w2.heap.size := ⟨_, rfl⟩
  obtain ⟨W3, hW3⟩ : ∃ X, X = (w2.alloc (Obj.cells (bs (List.replicate 16 0)) 22)).setCells b3 0 (bs l).toList := ⟨_, rfl⟩
  rw [← hb3] at HA3 HW3 HB3 ⊢
  rw [← hW3] at HA3 HW3 HB3
  rw [show (#[.int .u8 0, .int .u8 0, .int .u8 0, .int .u8 0, .int .u8 0, .int .u8 0, .int .u8 0, .int .u8 0, .int .u8 0, .int .u8 0, .int .u8 0, .int .u8 0, .int .u8 0, .int .u8 0, .int .u8 0, .int .u8 0] : Array Value) = bs (List.replicate 16 0) from rfl, ← hW3]
  clear hb3 hW3 HA HW HA1 HW1 HA2 HW2
  go_upto_region 3 with (first | (refine wpList_load_row rfl 22 _ rfl (w.heap.size) rfl 22 (bs a) (0, 0) _ HA3.out hK rfl HI.out ?_) | (go_at_call 10; refine (H1.out _).mono ?_; rintro e w4 ⟨rfl, hb1⟩; have HW4 := Lib.hid (below_then HW3.out (Nat.le_refl _) hb1); have HA4 := Lib.hid (bbelow HB3.out hb1); clear hb1) | (go_at_call 15; refine (H3.out _).mono ?_; rintro e w5 ⟨rfl, hb1⟩; have HW5 := Lib.hid (below_then HW4.out (Nat.le_refl _) hb1); have HA5 := Lib.hid (bbelow HA4.out hb1); clear hb1) | (refine wpList_store_mid rfl 22 _ _ rfl (w5.heap.size) 0 (bs l) rfl rfl (bthere (heap_alloc_new w5 (Obj.cells (bs (List.replicate 16 0)) 22)) (by rw [bs_size, bs_size, HL.out]; rfl)) HJ.out (bs_one _) ?_; have HA6 := Lib.hid (bsetsFar (balloc HA5.out (Obj.cells (bs (List.replicate 16 0)) 22)) (Nat.ne_of_lt (blt HA5.out)) 0 (bs l).toList); have HW6 := Lib.hid (below_sets (below_alloc HW5.out (Nat.le_refl _) (Obj.cells (bs (List.replicate 16 0)) 22)) HW5.out.size (bs l).toList 0); have HB6 := Lib.hid (bsetAll (heap_alloc_new w5 (Obj.cells (bs (List.replicate 16 0)) 22)) (c1 := bs l) (by rw [bs_size, bs_size, HL.out]; rfl)); skip))
  obtain ⟨b6, hb6⟩ : ∃ b, b = w5.heap.size := ⟨_, rfl⟩
  obtain ⟨W6, hW6⟩ : ∃ X, X = (w5.alloc (Obj.cells (bs (List.replicate 16 0)) 22)).setCells b6 0 (bs l).toList := ⟨_, rfl⟩
  rw [← hb6] at HA6 HW6 HB6 ⊢
  rw [← hW6] at HA6 HW6 HB6
  rw [show (#[.int .u8 0, .int .u8 0, .int .u8 0, .int .u8 0, .int .u8 0, .int .u8 0, .int .u8 0, .int .u8 0, .int .u8 0, .int .u8 0, .int .u8 0, .int .u8 0, .int .u8 0, .int .u8 0, .int .u8 0, .int .u8 0] : Array Value) = bs (List.replicate 16 0) from rfl, ← hW6]
  clear hb6 hW6 HW3 HB3 HA3 HW4 HA4 HA5 HW5
  go_wp2_with (first | (refine wpList_load_row rfl 22 _ rfl (b6) rfl 22 (bs l) (0, 0) _ HB6.out hK rfl HJ.out ?_) | (refine wpList_load_row rfl 22 _ rfl (b3) rfl 22 (bs l) (0, 0) _ HA6.out hK rfl HJ.out ?_) | (go_at_call 16; refine (H4.out _).mono ?_; rintro e w7 ⟨rfl, hb1⟩; have HW7 := Lib.hid (below_then HW6.out (Nat.le_refl _) hb1); clear hb1))
  go_ret
  exact ⟨rfl, HW7.out⟩
end Go.Proofs.Ytcanejjkgoaplaa.Ky
