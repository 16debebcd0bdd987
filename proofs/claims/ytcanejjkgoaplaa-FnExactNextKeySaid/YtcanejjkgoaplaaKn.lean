/- What is proved here: what the Go functions that tell a key's next one come to, and that they leave alone all that lay in memory. No condition beyond those that each theorem states. Written by this session. -/
import Derived.Test.YtcanejjkgoaplaaKw
namespace Go.Proofs.Ytcanejjkgoaplaa.Ky
open Go.RowKit
set_option linter.unusedVariables false
set_option linter.unusedSimpArgs false
/-- What NextKey tells. -/
def nextR (a : List Int) : Value := match nextF 16 a with
  | some l => .tuple #[.agg (bs l), .bool true]
  | none => .tuple #[.agg (bs (List.replicate 16 0)), .bool false]
theorem nextF_some {k : Nat} {l : List Int} (h : l.getD k 0 < 255) : nextF (k + 1) l = some (l.set k (l.getD k 0 + 1)) := by rw [nextF, if_pos h]
theorem nextF_none {k : Nat} {l : List Int} (h : ¬ l.getD k 0 < 255) : nextF (k + 1) l = nextF k (l.set k 0) := by rw [nextF, if_neg h]
theorem nextR_some {a l : List Int} (h : nextF 16 a = some l) : nextR a = .tuple #[.agg (bs l), .bool true] := by unfold nextR; rw [h]
theorem nextR_none {a : List Int} (h : nextF 16 a = none) : nextR a = .tuple #[.agg (bs (List.replicate 16 0)), .bool false] := by unfold nextR; rw [h]
theorem u8set {l : List Int} {k : Nat} {x : Int} (h : ∀ y ∈ l, 0 ≤ y ∧ y ≤ 255) (h0 : 0 ≤ x) (h1 : x ≤ 255) : ∀ y ∈ l.set k x, 0 ≤ y ∧ y ≤ 255 := fun y hy => by
  rcases List.mem_or_eq_of_mem_set hy with hy | rfl
  · exact h y hy
  · exact ⟨h0, h1⟩
theorem results_row_tmp {P : Program} {fn : Func} {p q : Tmp} {ty : TypeId} (h : fn.results = #[.cell p ty, .tmp q]) (tmps : Array Value) (w : World) (g : Nat) (t : TypeId) (cs : Array Value) (fr : Nat × Nat) (d : TypeDesc)
    (hp : tmps.getD p undef = .pointer (some ⟨g, 0, none⟩)) (hg : w.heap[g]? = some (.cells cs t fr))
    (hu : P.underlying ty = some d) (hd : (match d with | .struct _ | .array _ _ => true | _ => false) = true) (hi : (P.info? ty).map (·.size) = some cs.size) :
    (results fn tmps).run P w = .ok (.tuple #[.agg cs, tmps.getD q undef]) w := by
  have hp' : tmps[p]?.getD undef = .pointer (some ⟨g, 0, none⟩) := by simpa using hp
  simp [results, h, hp', asAddr, run_loadVar_row w g t ty cs fr d hg hu hd hi]
set_option maxHeartbeats 400000 in
set_option maxRecDepth 100000 in
theorem specNext (a : List Int) (ha : a.length = 16) (hu : ∀ x ∈ a, 0 ≤ x ∧ x ≤ 255) (w : World) :
    Calls Try.prog 14 #[.agg (bs a)] w fun e w' => e = .returned (nextR a) ∧ Below w.heap.size w w' := by
  have HL := Lib.hid ha
  have HU := Lib.hid hu
  clear ha hu
  go_enter Try.func14, Try.ntmps14
  go_wp2
  rw [bs_zero]
  obtain ⟨W, hW⟩ : ∃ W, W = ((w.alloc (Obj.cells (bs a) 22)).alloc (Obj.cells (bs (List.replicate 16 0)) 22)) := ⟨_, rfl⟩
  rw [← hW]
  have HA : Hid (W.heap[w.heap.size]? = some (.cells (bs a) 22 (0, 0))) := by subst hW; exact heap_alloc2_old _ _ _
  have HB : Hid (W.heap[w.heap.size + 1]? = some (.cells (bs (List.replicate 16 0)) 22 (0, 0))) := by subst hW; exact heap_alloc2_new _ _ _
  have HW : Hid (Below w.heap.size w W) := by subst hW; exact below_alloc (below_alloc (Below.refl _ _) (Nat.le_refl _) _) (Nat.le_refl _) _
  clear hW
  go_loopg [4] 17 (fun gg s4 wr => ∃ (k : Int) (l : List Int), s4 = .int .i64 k ∧ Hid (-1 ≤ k ∧ k ≤ 15 ∧ k + 2 ≤ gg) ∧ Hid (wr.heap[w.heap.size]? = some (.cells (bs l) 22 (0, 0))) ∧ Hid (wr.heap[w.heap.size + 1]? = some (.cells (bs (List.replicate 16 0)) 22 (0, 0))) ∧ Hid (Below w.heap.size w wr) ∧ Hid (l.length = 16 ∧ (∀ x ∈ l, 0 ≤ x ∧ x ≤ 255) ∧ nextF (k + 1).toNat l = nextF 16 a))
  case atStart => exact ⟨15, a, rfl, Lib.hid (by omega), HA, HB, HW, Lib.hid ⟨HL.out, HU.out, rfl⟩⟩
  case round =>
    clear HA HB HW HL HU
    obtain ⟨k, l, rfl, HK, HA, HB, HW, HR⟩ := hrel
    have HI := Lib.hid (hKs HR.out.1)
    by_cases hlt : 0 ≤ k
    · obtain ⟨n, rfl⟩ : ∃ n : Nat, k = (n : Int) := ⟨k.toNat, by omega⟩
      have hn : n < 16 := by have := HK.out; omega
      obtain ⟨x, hx⟩ : ∃ x, l[n]? = some x := ⟨_, List.getElem?_eq_getElem (by have := HR.out.1; omega)⟩
      have cx := bcell HA.out (bs_get hx)
      have fx := bfrozen HA.out n
      have hD : l.getD n 0 = x := by rw [List.getD_eq_getElem?_getD, hx]; rfl
      have x0 := HR.out.2.1 x (List.mem_of_getElem? hx)
      have x1 := x0.2
      replace x0 := x0.1
      have hS := HR.out.2.2
      rw [show ((n : Int) + 1).toNat = n + 1 from by omega] at hS
      have c1 : decide ((n : Int) ≥ 0) = true := decide_eq_true hlt
      have k1 : (n : Int) < 16 := by omega
      by_cases h255 : x < 255
      · rw [nextF_some (by rw [hD]; exact h255), hD] at hS
        have HS := Lib.hid hS
        have HI2 := Lib.hid (hKs (l := l.set n (x + 1)) (by rw [List.length_set]; exact HR.out.1))
        have HA2 : Hid ((wr.setCell ⟨w.heap.size, n, none⟩ (.int .u8 (x + 1))).heap[w.heap.size]? = some (.cells (bs (l.set n (x + 1))) 22 (0, 0))) := by rw [← bs_set]; exact bset HA.out n _
        have HB2 : Hid ((wr.setCell ⟨w.heap.size, n, none⟩ (.int .u8 (x + 1))).heap[w.heap.size + 1]? = some (.cells (bs (List.replicate 16 0)) 22 (0, 0))) := bfar HB.out (by simp) _
        have c2 : decide (x < 255) = true := decide_eq_true h255
        clear hS hD hx
        go_wp2_with (first | (refine wpList_load_row rfl 22 _ rfl (w.heap.size) rfl 22 (bs (l.set n (x + 1))) (0, 0) _ HA2.out hK rfl HI2.out ?_) | (refine wpList_store_mid rfl 22 _ _ rfl (w.heap.size + 1) 0 (bs (l.set n (x + 1))) rfl rfl (bthere HB2.out (by rw [bs_size, bs_size, List.length_set, HR.out.1]; rfl)) HI2.out (bs_one _) ?_))
        have HB3 := Lib.hid (bsetAll HB2.out (c1 := bs (l.set n (x + 1))) (by rw [bs_size, bs_size, List.length_set, HR.out.1]; rfl))
        exact bodyPost_ret (results_row_tmp rfl _ _ (w.heap.size + 1) 22 (bs (l.set n (x + 1))) (0, 0) _ rfl HB3.out hK rfl HI2.out) rfl ⟨by rw [nextR_some HS.out.symm]; rfl, below_sets (below_set HW.out (by simp) _) (by omega) _ _⟩
      · rw [nextF_none (by rw [hD]; exact h255)] at hS
        have HS := Lib.hid hS
        have c2 : decide (x < 255) = false := decide_eq_false h255
        clear hS hD hx
        go_wp2
        go_roundg (gk - 1)
        case measure => have := HK.out; omega
        case rel => exact ⟨(n : Int) - 1, l.set n 0, rfl, Lib.hid (by have := HK.out; omega), Lib.hid (by rw [← bs_set]; exact bset HA.out n _), Lib.hid (bfar HB.out (by simp) _), Lib.hid (below_set HW.out (by simp) _), Lib.hid ⟨by rw [List.length_set]; exact HR.out.1, u8set HR.out.2.1 (by omega) (by omega), by rw [show ((n : Int) - 1 + 1).toNat = n from by omega]; exact HS.out⟩⟩
    · have c1 : decide (k ≥ 0) = false := decide_eq_false hlt
      obtain rfl : k = -1 := by have := HK.out; omega
      have HS : Hid (nextF 16 a = none) := HR.out.2.2.symm
      have HI0 := Lib.hid (hKs (l := List.replicate 16 0) rfl)
      go_wp2_with (refine wpList_store_mid rfl 22 _ _ rfl (w.heap.size + 1) 0 (bs (List.replicate 16 0)) rfl rfl (bthere HB.out rfl) HI0.out (bs_one _) ?_)
      have HB3 := Lib.hid (bsetAll HB.out (c1 := bs (List.replicate 16 0)) rfl)
      exact bodyPost_ret (results_row_tmp rfl _ _ (w.heap.size + 1) 22 (bs (List.replicate 16 0)) (0, 0) _ rfl HB3.out hK rfl HI0.out) rfl ⟨by rw [nextR_none HS.out]; rfl, below_sets HW.out (by omega) _ _⟩
set_option maxHeartbeats 400000 in
set_option maxRecDepth 100000 in
theorem implNext (a : List Int) (ha : a.length = 16) (hu : ∀ x ∈ a, 0 ≤ x ∧ x ≤ 255) (w : World) :
    Calls Try.prog 15 #[.agg (bs a)] w fun e w' => e = .returned (nextR a) ∧ Below w.heap.size w w' := by
  have HL := Lib.hid ha
  have HU := Lib.hid hu
  clear ha hu
  go_enter Try.func15, Try.ntmps15
  go_wp2
  rw [bs_zero]
  obtain ⟨W, hW⟩ : ∃ W, W = ((w.alloc (Obj.cells (bs a) 22)).alloc (Obj.cells (bs (List.replicate 16 0)) 22)) := ⟨_, rfl⟩
  rw [← hW]
  have HA : Hid (W.heap[w.heap.size]? = some (.cells (bs a) 22 (0, 0))) := by subst hW; exact heap_alloc2_old _ _ _
  have HB : Hid (W.heap[w.heap.size + 1]? = some (.cells (bs (List.replicate 16 0)) 22 (0, 0))) := by subst hW; exact heap_alloc2_new _ _ _
  have HW : Hid (Below w.heap.size w W) := by subst hW; exact below_alloc (below_alloc (Below.refl _ _) (Nat.le_refl _) _) (Nat.le_refl _) _
  clear hW
  go_loopg [4] 17 (fun gg s4 wr => ∃ (k : Int) (l : List Int), s4 = .int .i64 k ∧ Hid (-1 ≤ k ∧ k ≤ 15 ∧ k + 2 ≤ gg) ∧ Hid (wr.heap[w.heap.size]? = some (.cells (bs l) 22 (0, 0))) ∧ Hid (wr.heap[w.heap.size + 1]? = some (.cells (bs (List.replicate 16 0)) 22 (0, 0))) ∧ Hid (Below w.heap.size w wr) ∧ Hid (l.length = 16 ∧ (∀ x ∈ l, 0 ≤ x ∧ x ≤ 255) ∧ nextF (k + 1).toNat l = nextF 16 a))
  case atStart => exact ⟨15, a, rfl, Lib.hid (by omega), HA, HB, HW, Lib.hid ⟨HL.out, HU.out, rfl⟩⟩
  case round =>
    clear HA HB HW HL HU
    obtain ⟨k, l, rfl, HK, HA, HB, HW, HR⟩ := hrel
    have HI := Lib.hid (hKs HR.out.1)
    by_cases hlt : 0 ≤ k
    · obtain ⟨n, rfl⟩ : ∃ n : Nat, k = (n : Int) := ⟨k.toNat, by omega⟩
      have hn : n < 16 := by have := HK.out; omega
      obtain ⟨x, hx⟩ : ∃ x, l[n]? = some x := ⟨_, List.getElem?_eq_getElem (by have := HR.out.1; omega)⟩
      have cx := bcell HA.out (bs_get hx)
      have fx := bfrozen HA.out n
      have hD : l.getD n 0 = x := by rw [List.getD_eq_getElem?_getD, hx]; rfl
      have x0 := HR.out.2.1 x (List.mem_of_getElem? hx)
      have x1 := x0.2
      replace x0 := x0.1
      have hS := HR.out.2.2
      rw [show ((n : Int) + 1).toNat = n + 1 from by omega] at hS
      have c1 : decide ((n : Int) ≥ 0) = true := decide_eq_true hlt
      have k1 : (n : Int) < 16 := by omega
      by_cases h255 : x < 255
      · rw [nextF_some (by rw [hD]; exact h255), hD] at hS
        have HS := Lib.hid hS
        have HI2 := Lib.hid (hKs (l := l.set n (x + 1)) (by rw [List.length_set]; exact HR.out.1))
        have HA2 : Hid ((wr.setCell ⟨w.heap.size, n, none⟩ (.int .u8 (x + 1))).heap[w.heap.size]? = some (.cells (bs (l.set n (x + 1))) 22 (0, 0))) := by rw [← bs_set]; exact bset HA.out n _
        have HB2 : Hid ((wr.setCell ⟨w.heap.size, n, none⟩ (.int .u8 (x + 1))).heap[w.heap.size + 1]? = some (.cells (bs (List.replicate 16 0)) 22 (0, 0))) := bfar HB.out (by simp) _
        have c2 : (x + 1 == 0) = false := beq_eq_false_iff_ne.2 (by omega)
        have c3 : (x + 1 != 0) = true := bne_iff_ne.2 (by omega)
        have x2 : x + 1 ≤ 255 := by omega
        clear hS hD hx
        go_wp2_with (first | (refine wpList_load_row rfl 22 _ rfl (w.heap.size) rfl 22 (bs (l.set n (x + 1))) (0, 0) _ HA2.out hK rfl HI2.out ?_) | (refine wpList_store_mid rfl 22 _ _ rfl (w.heap.size + 1) 0 (bs (l.set n (x + 1))) rfl rfl (bthere HB2.out (by rw [bs_size, bs_size, List.length_set, HR.out.1]; rfl)) HI2.out (bs_one _) ?_))
        have HB3 := Lib.hid (bsetAll HB2.out (c1 := bs (l.set n (x + 1))) (by rw [bs_size, bs_size, List.length_set, HR.out.1]; rfl))
        exact bodyPost_ret (results_row_tmp rfl _ _ (w.heap.size + 1) 22 (bs (l.set n (x + 1))) (0, 0) _ rfl HB3.out hK rfl HI2.out) rfl ⟨by rw [nextR_some HS.out.symm]; rfl, below_sets (below_set HW.out (by simp) _) (by omega) _ _⟩
      · rw [nextF_none (by rw [hD]; exact h255)] at hS
        have HS := Lib.hid hS
        obtain rfl : x = 255 := by omega
        clear h255 x0 x1
        clear hS hD hx
        go_wp2
        go_roundg (gk - 1)
        case measure => have := HK.out; omega
        case rel => exact ⟨(n : Int) - 1, l.set n 0, rfl, Lib.hid (by have := HK.out; omega), Lib.hid (by rw [← bs_set]; exact bset HA.out n _), Lib.hid (bfar HB.out (by simp) _), Lib.hid (below_set HW.out (by simp) _), Lib.hid ⟨by rw [List.length_set]; exact HR.out.1, u8set HR.out.2.1 (by omega) (by omega), by rw [show ((n : Int) - 1 + 1).toNat = n from by omega]; exact HS.out⟩⟩
    · have c1 : decide (k ≥ 0) = false := decide_eq_false hlt
      obtain rfl : k = -1 := by have := HK.out; omega
      have HS : Hid (nextF 16 a = none) := HR.out.2.2.symm
      have HI0 := Lib.hid (hKs (l := List.replicate 16 0) rfl)
      go_wp2_with (refine wpList_store_mid rfl 22 _ _ rfl (w.heap.size + 1) 0 (bs (List.replicate 16 0)) rfl rfl (bthere HB.out rfl) HI0.out (bs_one _) ?_)
      have HB3 := Lib.hid (bsetAll HB.out (c1 := bs (List.replicate 16 0)) rfl)
      exact bodyPost_ret (results_row_tmp rfl _ _ (w.heap.size + 1) 22 (bs (List.replicate 16 0)) (0, 0) _ rfl HB3.out hK rfl HI0.out) rfl ⟨by rw [nextR_none HS.out]; rfl, below_sets HW.out (by omega) _ _⟩
end Go.Proofs.Ytcanejjkgoaplaa.Ky
