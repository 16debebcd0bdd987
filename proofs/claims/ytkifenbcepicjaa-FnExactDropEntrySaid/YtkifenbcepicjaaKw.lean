/- What is proved here: what each Go function on keys comes to, and that it leaves alone all that lay in memory. No condition beyond those that each theorem states. Written by this session. -/
import Derived.Test.YtkifenbcepicjaaKy
namespace Go.Proofs.Ytkifenbcepicjaa.Ky
open Go.RowKit
set_option linter.unusedVariables false
set_option linter.unusedSimpArgs false
theorem hK : Try.prog.underlying 26 = some (.array 16 5) := Try.underlying26
theorem hKi : (Try.prog.info? 26).map (·.size) = some 16 := by kernel_rfl
theorem hKs {l : List Int} (h : l.length = 16) : (Try.prog.info? 26).map (·.size) = some (bs l).size := by rw [bs_size, h]; exact hKi
theorem hKk {l : List Int} (h : Key l) : (Try.prog.info? 26).map (·.size) = some (bs l).size := hKs h
theorem size_key {l m : List Int} (h : Key l) (k : Key m) : (bs l).size = (bs m).size := by rw [bs_size, bs_size, h, k]
set_option maxHeartbeats 400000 in
set_option maxRecDepth 100000 in
theorem specLess (a b : List Int) (ha : a.length = 16) (hb : b.length = 16) (w : World) :
    Calls Try.prog 31 #[.agg (bs a), .agg (bs b)] w fun e w' => e = .returned (.bool (lessF a b)) ∧ Below w.heap.size w w' := by
  have HA : Hid (((w.alloc (Obj.cells (bs a) 26)).alloc (Obj.cells (bs b) 26)).heap[w.heap.size]? = some (.cells (bs a) 26 (0, 0))) := heap_alloc2_old _ _ _
  have HB : Hid (((w.alloc (Obj.cells (bs a) 26)).alloc (Obj.cells (bs b) 26)).heap[w.heap.size + 1]? = some (.cells (bs b) 26 (0, 0))) := heap_alloc2_new _ _ _
  have HW : Hid (Below w.heap.size w ((w.alloc (Obj.cells (bs a) 26)).alloc (Obj.cells (bs b) 26))) := ((Below.refl _ _).alloc (Nat.le_refl _) _).alloc (by simp) _
  have HL := Lib.hid ha
  have HM := Lib.hid hb
  clear ha hb
  go_enter Try.func31, Try.ntmps31
  go_wp2
  go_loopg [5] 16 (fun gg s5 wr => ∃ k : Nat, s5 = .int .i64 k ∧ Hid (k ≤ 16 ∧ 16 - k ≤ gg) ∧ Hid (wr.heap[w.heap.size]? = some (.cells (bs a) 26 (0, 0))) ∧ Hid (wr.heap[w.heap.size + 1]? = some (.cells (bs b) 26 (0, 0))) ∧ Hid (Below w.heap.size w wr) ∧ Hid (lessF (a.drop k) (b.drop k) = lessF a b))
  case atStart => exact ⟨0, rfl, Lib.hid (by omega), HA, HB, HW, Lib.hid rfl⟩
  case round =>
    clear HA HB HW
    obtain ⟨k, rfl, HK, HA, HB, HW, HR⟩ := hrel
    by_cases hlt : k < 16
    · obtain ⟨x, hx⟩ : ∃ x, a[k]? = some x := ⟨_, List.getElem?_eq_getElem (by have := HL.out; omega)⟩
      obtain ⟨y, hy⟩ : ∃ y, b[k]? = some y := ⟨_, List.getElem?_eq_getElem (by have := HM.out; omega)⟩
      have cx := bcell HA.out (bs_get hx)
      have cy := bcell HB.out (bs_get hy)
      have HS : Hid ((if x = y then lessF (a.drop (k + 1)) (b.drop (k + 1)) else decide (x < y)) = lessF a b) := by
        have h := HR.out
        obtain ⟨hka, hx⟩ := List.getElem?_eq_some_iff.1 hx
        obtain ⟨hkb, hy⟩ := List.getElem?_eq_some_iff.1 hy
        rw [List.drop_eq_getElem_cons hka, List.drop_eq_getElem_cons hkb, hx, hy] at h
        exact h
      clear hx hy HR
      have k0 : (0 : Int) ≤ (k : Int) := by omega
      have k1 : (k : Int) < 16 := by omega
      by_cases hxy : x = y
      · subst hxy
        rw [if_pos rfl] at HS
        go_wp2
        go_quiet (fail)
        go_wp2
        go_roundg (16 - (k + 1))
        case measure => have := HK.out; omega
        case rel => exact ⟨k + 1, by go_num, Lib.hid (by have := HK.out; omega), HA, HB, Lib.hid (below_drewN HW.out _), HS⟩
      · rw [if_neg hxy] at HS
        have hne : (x == y) = false := by simpa using hxy
        go_wp2
        go_quiet (fail)
        go_wp2
        go_quiet (fail)
        go_wp2
        go_ret
        exact ⟨by rw [← HS.out]; rfl, below_drewN (below_drewN HW.out _) _⟩
    · have hd : a.drop k = [] := List.drop_eq_nil_of_le (by have := HL.out; omega)
      have HS : Hid (false = lessF a b) := by have h := HR.out; rw [hd] at h; exact h
      have c0 : decide ((k : Int) < 16) = false := decide_eq_false (by omega)
      clear hd HR hlt
      go_wp2
      go_ret
      exact ⟨by rw [← HS.out]; rfl, HW.out⟩
set_option maxHeartbeats 400000 in
set_option maxRecDepth 100000 in
theorem eqKey (a b : List Int) (ha : a.length = 16) (hb : b.length = 16) (w : World) :
    Calls Try.prog 70 #[.agg (bs a), .agg (bs b)] w fun e w' => e = .returned (.bool (decide (a = b))) ∧ Below w.heap.size w w' := by
  have HA : Hid (((w.alloc (Obj.cells (bs a) 26)).alloc (Obj.cells (bs b) 26)).heap[w.heap.size]? = some (.cells (bs a) 26 (0, 0))) := heap_alloc2_old _ _ _
  have HB : Hid (((w.alloc (Obj.cells (bs a) 26)).alloc (Obj.cells (bs b) 26)).heap[w.heap.size + 1]? = some (.cells (bs b) 26 (0, 0))) := heap_alloc2_new _ _ _
  have HW : Hid (Below w.heap.size w ((w.alloc (Obj.cells (bs a) 26)).alloc (Obj.cells (bs b) 26))) := ((Below.refl _ _).alloc (Nat.le_refl _) _).alloc (by simp) _
  have HL := Lib.hid ha
  have HM := Lib.hid hb
  clear ha hb
  go_enter Try.func70, Try.ntmps70
  go_wp2
  go_loopg [5] 16 (fun gg s5 wr => ∃ k : Nat, s5 = .int .i64 k ∧ Hid (k ≤ 16 ∧ 16 - k ≤ gg) ∧ Hid (wr.heap[w.heap.size]? = some (.cells (bs a) 26 (0, 0))) ∧ Hid (wr.heap[w.heap.size + 1]? = some (.cells (bs b) 26 (0, 0))) ∧ Hid (Below w.heap.size w wr) ∧ Hid (a.take k = b.take k))
  case atStart => exact ⟨0, rfl, Lib.hid (by omega), HA, HB, HW, Lib.hid rfl⟩
  case round =>
    clear HA HB HW
    obtain ⟨k, rfl, HK, HA, HB, HW, HR⟩ := hrel
    by_cases hlt : k < 16
    · obtain ⟨x, hx⟩ : ∃ x, a[k]? = some x := ⟨_, List.getElem?_eq_getElem (by have := HL.out; omega)⟩
      obtain ⟨y, hy⟩ : ∃ y, b[k]? = some y := ⟨_, List.getElem?_eq_getElem (by have := HM.out; omega)⟩
      have cx := bcell HA.out (bs_get hx)
      have cy := bcell HB.out (bs_get hy)
      have HS : Hid (x = y → a.take (k + 1) = b.take (k + 1)) := Lib.hid fun e => by
        rw [List.take_add_one, List.take_add_one, HR.out, hx, hy, e]
      have HT : Hid (x ≠ y → decide (a = b) = false) := Lib.hid fun e => decide_eq_false (by
        rintro rfl
        rw [hx] at hy
        exact e (Option.some.inj hy))
      clear hx hy HR
      have k0 : (0 : Int) ≤ (k : Int) := by omega
      have k1 : (k : Int) < 16 := by omega
      by_cases hxy : x = y
      · have HS2 := Lib.hid (HS.out hxy)
        clear HT HS
        subst hxy
        go_wp2
        go_quiet (fail)
        go_wp2
        go_roundg (16 - (k + 1))
        case measure => have := HK.out; omega
        case rel => exact ⟨k + 1, by go_num, Lib.hid (by have := HK.out; omega), HA, HB, Lib.hid (below_drewN HW.out _), HS2⟩
      · have HT2 := Lib.hid (HT.out hxy)
        clear HS HT
        have hne : (x == y) = false := by simpa using hxy
        go_wp2
        go_quiet (fail)
        go_wp2
        go_ret
        exact ⟨by rw [HT2.out]; rfl, below_drewN HW.out _⟩
    · have HS : Hid (decide (a = b) = true) := Lib.hid (decide_eq_true (by
        have h := HR.out
        rwa [List.take_of_length_le (by have := HL.out; omega), List.take_of_length_le (by have := HM.out; omega)] at h))
      have c0 : decide ((k : Int) < 16) = false := decide_eq_false (by omega)
      clear HR hlt
      go_wp2
      go_ret
      exact ⟨by rw [HS.out]; rfl, HW.out⟩
set_option maxHeartbeats 400000 in
set_option maxRecDepth 100000 in
theorem toKey (a : List Int) (ha : a.length = 16) (w : World) :
    Calls Try.prog 11 #[.agg (bs a)] w fun e w' => e = .returned (.agg (bs a)) ∧ Below w.heap.size w w' := by
  have HI := Lib.hid (hKs ha)
  have HL := Lib.hid ha
  clear ha
  go_enter Try.func11, Try.ntmps11
  go_wp2
  rw [bs_zero]
  obtain ⟨W, hW⟩ : ∃ W, W = ((w.alloc (Obj.cells (bs a) 26)).alloc (Obj.cells (bs (List.replicate 16 0)) 26)).alloc (Obj.cells (bs (List.replicate 16 0)) 26) := ⟨_, rfl⟩
  rw [← hW]
  have HA : Hid (W.heap[w.heap.size]? = some (.cells (bs a) 26 (0, 0))) := by subst hW; exact balloc (balloc (heap_alloc_new _ _) _) _
  have HB : Hid (W.heap[w.heap.size + 1]? = some (.cells (bs (List.replicate 16 0)) 26 (0, 0))) := by subst hW; exact balloc (heap_alloc2_new _ _ _) _
  have HC : Hid (W.heap[w.heap.size + 1 + 1]? = some (.cells (bs (List.replicate 16 0)) 26 (0, 0))) := by
    subst hW
    have h := heap_alloc_new ((w.alloc (Obj.cells (bs a) 26)).alloc (Obj.cells (bs (List.replicate 16 0)) 26)) (Obj.cells (bs (List.replicate 16 0)) 26)
    rw [show (((w.alloc (Obj.cells (bs a) 26)).alloc (Obj.cells (bs (List.replicate 16 0)) 26))).heap.size = w.heap.size + 1 + 1 from by simp] at h
    exact h
  have HW : Hid (Below w.heap.size w W) := by subst hW; exact below_alloc (below_alloc (below_alloc (Below.refl _ _) (Nat.le_refl _) _) (Nat.le_refl _) _) (Nat.le_refl _) _
  clear hW
  go_loopg [4] 16 (fun gg s4 wr => ∃ (k : Nat) (l : List Int), s4 = .int .i64 k ∧ Hid (k ≤ 16 ∧ 16 - k ≤ gg) ∧ Hid (wr.heap[w.heap.size]? = some (.cells (bs a) 26 (0, 0))) ∧ Hid (wr.heap[w.heap.size + 1]? = some (.cells (bs (List.replicate 16 0)) 26 (0, 0))) ∧ Hid (wr.heap[w.heap.size + 1 + 1]? = some (.cells (bs l) 26 (0, 0))) ∧ Hid (Below w.heap.size w wr) ∧ Hid (l.length = 16 ∧ l.take k = a.take k))
  case atStart => exact ⟨0, _, rfl, Lib.hid (by omega), HA, HB, HC, HW, Lib.hid ⟨rfl, rfl⟩⟩
  case round =>
    clear HA HB HC HW
    obtain ⟨k, l, rfl, HK, HA, HB, HC, HW, HR⟩ := hrel
    by_cases hlt : k < 16
    · obtain ⟨x, hx⟩ : ∃ x, a[k]? = some x := ⟨_, List.getElem?_eq_getElem (by have := HL.out; omega)⟩
      obtain ⟨y, hy⟩ : ∃ y, l[k]? = some y := ⟨_, List.getElem?_eq_getElem (by have := HR.out.1; omega)⟩
      have cx := bcell HA.out (bs_get hx)
      have cy := bcell HC.out (bs_get hy)
      have fy := bfrozen HC.out k
      have HS : Hid ((l.set k x).length = 16 ∧ (l.set k x).take (k + 1) = a.take (k + 1)) := by
        refine Lib.hid ⟨by rw [List.length_set]; exact HR.out.1, ?_⟩
        rw [List.take_add_one, List.take_add_one, hx, List.getElem?_set_self (by have := HR.out.1; omega), List.take_set_of_le (Nat.le_refl _), HR.out.2]
      have HN : Hid (wr.setCell ⟨w.heap.size + 1 + 1, k, none⟩ (.int .u8 x) = wr.setCell ⟨w.heap.size + 1 + 1, k, none⟩ (.int .u8 x)) := rfl
      clear hx hy HR
      have k0 : (0 : Int) ≤ (k : Int) := by omega
      have k1 : (k : Int) < 16 := by omega
      go_wp2
      go_roundg (16 - (k + 1))
      case measure => have := HK.out; omega
      case rel => exact ⟨k + 1, l.set k x, by go_num, Lib.hid (by have := HK.out; omega), Lib.hid (bfar HA.out (by simp; omega) _), Lib.hid (bfar HB.out (by simp) _), Lib.hid (by rw [← bs_set]; exact bset HC.out k _), Lib.hid (below_set HW.out (by simp; omega) _), HS⟩
    · have HS : Hid (l = a) := by
        have h := HR.out.2
        rwa [List.take_of_length_le (by have := HR.out.1; omega), List.take_of_length_le (by have := HL.out; omega)] at h
      have c0 : decide ((k : Int) < 16) = false := decide_eq_false (by omega)
      obtain rfl := HS.out
      clear HR hlt HS
      go_wp2_with (first | (refine wpList_load_row rfl 26 _ rfl (w.heap.size + 1 + 1) rfl 26 (bs l) (0, 0) _ HC.out hK rfl HI.out ?_) | (refine wpList_store_mid rfl 26 _ _ rfl (w.heap.size + 1) 0 (bs l) rfl rfl (bthere HB.out (by rw [bs_size, bs_size, HL.out]; rfl)) HI.out (bs_one _) ?_))
      have HB := Lib.hid (bsetAll HB.out (c1 := bs l) (by rw [bs_size, bs_size, HL.out]; rfl))
      refine bodyPost_ret (results_cell_row rfl _ _ (w.heap.size + 1) 26 (bs l) (0, 0) _ rfl HB.out hK rfl HI.out) rfl ⟨rfl, below_sets HW.out (by omega) _ _⟩
end Go.Proofs.Ytkifenbcepicjaa.Ky
