/- What is proved here: what the Go functions that compare keys come to, and that they leave alone all that lay in memory. No condition beyond those that each theorem states. Written by this session. -/
import Derived.Test.YtkifenbcepicjaaKw
import Derived.Lib.Bytealg
import Derived.Lib.BytesEntry
import Derived.Laws.Externs
import Derived.Deep.Cut
namespace Go.Proofs.Ytkifenbcepicjaa.Ky
open Go.RowKit
set_option linter.unusedVariables false
set_option linter.unusedSimpArgs false
theorem u8lt {x y : Int} (hx : 0 ≤ x ∧ x ≤ 255) (hy : 0 ≤ y ∧ y ≤ 255) : (x.toNat.toUInt8 < y.toNat.toUInt8) ↔ x < y := by
  rw [UInt8.lt_iff_toNat_lt]
  simp only [UInt8.toNat_ofNat', Nat.toUInt8]
  omega
theorem cmp_bytes : ∀ (a b : List Int), (∀ x ∈ a, 0 ≤ x ∧ x ≤ 255) → (∀ x ∈ b, 0 ≤ x ∧ x ≤ 255) → Go.Lib.compareBytes (Go.Lib.bytesOf a) (Go.Lib.bytesOf b) = cmpF a b
  | [], [], _, _ => rfl
  | [], _ :: _, _, _ => rfl
  | _ :: _, [], _, _ => rfl
  | x :: xs, y :: ys, ha, hb => by
    have ih := cmp_bytes xs ys (fun z hz => ha z (List.mem_cons_of_mem _ hz)) (fun z hz => hb z (List.mem_cons_of_mem _ hz))
    have hx := ha x List.mem_cons_self
    have hy := hb y List.mem_cons_self
    show (if x.toNat.toUInt8 < y.toNat.toUInt8 then (-1 : Int) else if y.toNat.toUInt8 < x.toNat.toUInt8 then 1 else Go.Lib.compareBytes (Go.Lib.bytesOf xs) (Go.Lib.bytesOf ys)) = _
    rw [ih, show cmpF (x :: xs) (y :: ys) = if x < y then -1 else if y < x then 1 else cmpF xs ys from by rw [cmpF]]
    by_cases h1 : x < y
    · rw [if_pos h1, if_pos ((u8lt hx hy).2 h1)]
    · rw [if_neg h1, if_neg (fun h => h1 ((u8lt hx hy).1 h))]
      by_cases h2 : y < x
      · rw [if_pos h2, if_pos ((u8lt hy hx).2 h2)]
      · rw [if_neg h2, if_neg (fun h => h2 ((u8lt hy hx).1 h))]
theorem run_compareSlices {P : Program} (w : World) (a b : Addr) (n m c d : Nat) (xs ys : List Int) (hx : xs.length = n) (hy : ys.length = m) (hcx : ∀ j x, xs[j]? = some x → w.cell? (a.add j) = some (.int .u8 x)) (hcy : ∀ j x, ys[j]? = some x → w.cell? (b.add j) = some (.int .u8 x)) :
    (Extern.BytealgCompare.compare #[.slice (some a) n c, .slice (some b) m d]).run P w = .ok (.int .i64 (Go.Lib.compareBytes (Go.Lib.bytesOf xs) (Go.Lib.bytesOf ys))) w := by
  have h1 := Go.Lib.run_loadBytesX (P := P) w xs a .empty hcx
  have h2 := Go.Lib.run_loadBytesX (P := P) w ys b .empty hcy
  rw [hx] at h1
  rw [hy] at h2
  have he : ∀ l : List UInt8, (⟨ByteArray.empty.data ++ l.toArray⟩ : ByteArray) = ⟨l.toArray⟩ := fun l => by
    apply ByteArray.ext
    show (#[] : Array UInt8) ++ l.toArray = l.toArray
    simp
  rw [he] at h1 h2
  change Sem.run P (do pure (goInt (Extern.BytealgCompare.cmp (← Extern.Bytes.bytesOf (.slice (some a) n c)) (← Extern.Bytes.bytesOf (.slice (some b) m d))))) w = _
  simp only [Extern.Bytes.bytesOf, Sem.run_bind, Sem.run_pure, Result.andThen, h1, h2]
  rw [Go.Lib.cmp_eq]
  rfl
set_option maxHeartbeats 400000 in
set_option maxRecDepth 100000 in
theorem bytesCompare (a b : Addr) (n m c d : Nat) (xs ys : List Int) (hx : xs.length = n) (hy : ys.length = m) (ux : ∀ x ∈ xs, 0 ≤ x ∧ x ≤ 255) (uy : ∀ x ∈ ys, 0 ≤ x ∧ x ≤ 255) (w : World)
    (hcx : ∀ j x, xs[j]? = some x → w.cell? (a.add j) = some (.int .u8 x)) (hcy : ∀ j x, ys[j]? = some x → w.cell? (b.add j) = some (.int .u8 x)) :
    Calls Try.prog 69 #[.slice (some a) n c, .slice (some b) m d] w fun e w' => e = .returned (.int .i64 (cmpF xs ys)) ∧ w' = w := by
  have HX : Hid ((Extern.BytealgCompare.compare #[.slice (some a) n c, .slice (some b) m d]).run Try.prog w = .ok (.int .i64 (cmpF xs ys)) w) := by
    rw [← cmp_bytes xs ys ux uy]
    exact run_compareSlices w a b n m c d xs ys hx hy hcx hcy
  clear hx hy ux uy hcx hcy
  go_enter Try.func69, Try.ntmps69
  go_wp2
  rw [run_callFunc_extern Try.func85 (by kernel_rfl) (by kernel_rfl) (by kernel_rfl) (e := Extern.BytealgCompare.compare) (by kernel_rfl), HX.out]
  simp only [Result.andThen]
  rw [Oper.upon_value]
  go_wp2
  go_ret
  exact ⟨rfl, rfl⟩
theorem add_nul (g j : Nat) : (⟨g, 0, none⟩ : Addr).add j = ⟨g, j, none⟩ := by unfold Addr.add; split <;> simp_all
set_option maxHeartbeats 400000 in
set_option maxRecDepth 100000 in
theorem cmpKeys (a b : List Int) (ha : a.length = 16) (hb : b.length = 16) (ua : ∀ x ∈ a, 0 ≤ x ∧ x ≤ 255) (ub : ∀ x ∈ b, 0 ≤ x ∧ x ≤ 255) (w : World) :
    Calls Try.prog 41 #[.agg (bs a), .agg (bs b)] w fun e w' => e = .returned (.int .i64 (cmpF a b)) ∧ Below w.heap.size w w' := by
  obtain ⟨W, hW⟩ : ∃ W, W = ((w.alloc (Obj.cells (bs a) 26)).alloc (Obj.cells (bs b) 26)) := ⟨_, rfl⟩
  have HA : Hid (W.heap[w.heap.size]? = some (.cells (bs a) 26 (0, 0))) := by subst hW; exact heap_alloc2_old _ _ _
  have HB : Hid (W.heap[w.heap.size + 1]? = some (.cells (bs b) 26 (0, 0))) := by subst hW; exact heap_alloc2_new _ _ _
  have HW : Hid (Below w.heap.size w W) := by subst hW; exact below_alloc (below_alloc (Below.refl _ _) (Nat.le_refl _) _) (Nat.le_refl _) _
  have HC : Hid (∀ n, Calls Try.prog 69 #[.slice (some ⟨w.heap.size, 0, none⟩) 16 16, .slice (some ⟨w.heap.size + 1, 0, none⟩) 16 16] (W.drewN n) fun e w' => e = .returned (.int .i64 (cmpF a b)) ∧ w' = W.drewN n) :=
    fun n => bytesCompare _ _ _ _ _ _ a b ha hb ua ub (W.drewN n) (fun j x hj => by rw [add_nul]; exact bcell (w := W.drewN n) HA.out (bs_get hj)) (fun j x hj => by rw [add_nul]; exact bcell (w := W.drewN n) HB.out (bs_get hj))
  clear ha hb ua ub HA HB
  go_enter Try.func41, Try.ntmps41
  go_wp2
  rw [← hW]
  clear hW
  go_quiet ((go_at_call 69; exact Calls.quiet_of_same (HC.out _)))
  go_wp2
  go_ret
  exact ⟨rfl, below_drewN HW.out _⟩
end Go.Proofs.Ytkifenbcepicjaa.Ky
