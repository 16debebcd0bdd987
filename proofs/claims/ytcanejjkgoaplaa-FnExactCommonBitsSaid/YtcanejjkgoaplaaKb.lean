/- What is proved here: what the Go functions on the common bits of keys come to, and that they leave alone all that lay in memory. No condition beyond those that each theorem states. Written by this session. -/
import Derived.Test.YtcanejjkgoaplaaKw
import Derived.Test.YtcanejjkgoaplaaKl
import Derived.Lib.BitFns
import Derived.Laws.BitsLemmas
import Derived.Deep.Cut
namespace Go.Proofs.Ytcanejjkgoaplaa.Ky
open Go.RowKit
set_option linter.unusedVariables false
set_option linter.unusedSimpArgs false
/-- A call that leaves the world alone, in a quiet region behind a quiet region. -/
theorem quietTwice {P : Program} {f : FuncId} {args : Array Value} {w : World} {a n : Nat} {v : Value} (h : Calls P f args (w.drewN (a + n)) fun e w' => e = .returned v ∧ w' = w.drewN (a + n)) : Calls P f args (w.drewN (a + n)) fun e w' => e = .returned v ∧ ∃ m, w' = w.drewN (a + m) := by
  refine h.mono ?_
  rintro e w' ⟨h1, h2⟩
  exact ⟨h1, n, h2⟩
set_option maxHeartbeats 400000 in
set_option maxRecDepth 1000000 in
theorem lz8Calls (x : Int) (h0 : 0 ≤ x) (h1 : x ≤ 255) (w : World) : Calls Try.prog 41 #[.int .u8 x] w fun e w' => e = .returned (.int .i64 (8 - Go.Lib.bitLen x.toNat)) ∧ w' = w := by
  have HC := Lib.hid (len8Calls x h0 h1 w)
  have hb := Go.Lib.bitLen_le8' x h0 h1
  obtain ⟨n, HN⟩ : ∃ n : Nat, Hid (n = Go.Lib.bitLen x.toNat) := ⟨_, rfl⟩
  rw [← HN.out] at HC hb ⊢
  go_enter Try.func41, Try.ntmps41
  go_wp2_with (go_at_call 66; refine HC.out.mono ?_; rintro e w1 ⟨rfl, rfl⟩)
  go_ret
  exact ⟨rfl, rfl⟩
set_option maxHeartbeats 400000 in
set_option maxRecDepth 1000000 in
theorem implCommon (a b : List Int) (ha : a.length = 16) (hb : b.length = 16) (ua : ∀ x ∈ a, 0 ≤ x ∧ x ≤ 255) (ub : ∀ x ∈ b, 0 ≤ x ∧ x ≤ 255) (w : World) :
    Calls Try.prog 13 #[.agg (bs a), .agg (bs b)] w fun e w' => e = .returned (.int .i64 (commonF a b)) ∧ Below w.heap.size w w' := by
  have HA : Hid (((w.alloc (Obj.cells (bs a) 22)).alloc (Obj.cells (bs b) 22)).heap[w.heap.size]? = some (.cells (bs a) 22 (0, 0))) := heap_alloc2_old _ _ _
  have HB : Hid (((w.alloc (Obj.cells (bs a) 22)).alloc (Obj.cells (bs b) 22)).heap[w.heap.size + 1]? = some (.cells (bs b) 22 (0, 0))) := heap_alloc2_new _ _ _
  have HW : Hid (Below w.heap.size w ((w.alloc (Obj.cells (bs a) 22)).alloc (Obj.cells (bs b) 22))) := ((Below.refl _ _).alloc (Nat.le_refl _) _).alloc (by simp) _
  have HL := Lib.hid ha
  have HM := Lib.hid hb
  have HU := Lib.hid ua
  have HV := Lib.hid ub
  clear ha hb ua ub
  go_enter Try.func13, Try.ntmps13
  go_wp2
  go_loopg [4, 5, 6] 16 (fun gg s4 s5 s6 wr => ∃ k : Nat, s6 = .int .i64 k ∧ Hid (k ≤ 16 ∧ 16 - k ≤ gg) ∧ Hid (wr.heap[w.heap.size]? = some (.cells (bs a) 22 (0, 0))) ∧ Hid (wr.heap[w.heap.size + 1]? = some (.cells (bs b) 22 (0, 0))) ∧ Hid (Below w.heap.size w wr) ∧ Hid (8 * k + commonF (a.drop k) (b.drop k) = commonF a b))
  case atStart => exact ⟨0, rfl, Lib.hid (by omega), HA, HB, HW, Lib.hid (by simp)⟩
  case round =>
    clear HA HB HW
    obtain ⟨k, rfl, HK, HA, HB, HW, HR⟩ := hrel
    by_cases hlt : k < 16
    · obtain ⟨x, hx⟩ : ∃ x, a[k]? = some x := ⟨_, List.getElem?_eq_getElem (by have := HL.out; omega)⟩
      obtain ⟨y, hy⟩ : ∃ y, b[k]? = some y := ⟨_, List.getElem?_eq_getElem (by have := HM.out; omega)⟩
      have cx := bcell HA.out (bs_get hx)
      have cy := bcell HB.out (bs_get hy)
      have ⟨x0, x1⟩ := HU.out x (List.mem_of_getElem? hx)
      have ⟨y0, y1⟩ := HV.out y (List.mem_of_getElem? hy)
      have k0 : (0 : Int) ≤ (k : Int) := by omega
      have k1 : (k : Int) < 16 := by omega
      have HS : Hid (8 * k + (if x = y then 8 + commonF (a.drop (k + 1)) (b.drop (k + 1)) else 8 - Go.Lib.bitLen (x.toNat ^^^ y.toNat)) = commonF a b) := by
        have h := HR.out
        obtain ⟨hka, hx⟩ := List.getElem?_eq_some_iff.1 hx
        obtain ⟨hkb, hy⟩ := List.getElem?_eq_some_iff.1 hy
        rw [List.drop_eq_getElem_cons hka, List.drop_eq_getElem_cons hkb, hx, hy, commonF] at h
        exact h
      clear hx hy HR
      by_cases hxy : x = y
      · subst hxy
        rw [if_pos rfl] at HS
        go_wp2
        go_quiet (fail)
        go_wp2
        go_roundg (16 - (k + 1))
        case measure => have := HK.out; omega
        case rel => exact ⟨k + 1, by go_num, Lib.hid (by have := HK.out; omega), HA, HB, Lib.hid (below_drewN HW.out _), Lib.hid (by rw [← HS.out]; omega)⟩
      · have hne : (x == y) = false := by simpa using hxy
        rw [if_neg hxy] at HS
        have hz := Go.u8_xor x y x0 (by omega) y0 (by omega)
        have z1 : ((x.toNat ^^^ y.toNat : Nat) : Int) ≤ 255 := by
          have := Nat.xor_lt_two_pow (x := x.toNat) (y := y.toNat) (n := 8) (by omega) (by omega)
          omega
        have z0 : (0 : Int) ≤ ((x.toNat ^^^ y.toNat : Nat) : Int) := Int.natCast_nonneg _
        have m1 := Go.Lib.bitLen_le8' _ z0 z1
        have HC := Lib.hid (lz8Calls _ z0 z1)
        rw [Int.toNat_natCast] at HC m1
        obtain ⟨m, HM⟩ : ∃ m : Nat, Hid (m = Go.Lib.bitLen (x.toNat ^^^ y.toNat)) := ⟨_, rfl⟩
        rw [← HM.out] at HC m1 HS
        obtain ⟨z, HZ⟩ : ∃ z : Int, Hid (z = ((x.toNat ^^^ y.toNat : Nat) : Int)) := ⟨_, rfl⟩
        rw [← HZ.out] at HC hz z0 z1
        have hs1 : IntKind.i64.wrap (8 * (k : Int)) = 8 * (k : Int) := by rw [IntKind.wrap_i64]; omega
        have hs2 : IntKind.i64.wrap (8 * (k : Int) + (8 - (m : Int))) = 8 * (k : Int) + (8 - (m : Int)) := by rw [IntKind.wrap_i64]; omega
        go_wp2
        go_quiet (fail)
        go_wp2
        go_quiet ((go_at_call 41; exact quietTwice (HC.out _)))
        go_wp2
        go_ret
        exact ⟨by rw [← HS.out]; show Ending.returned (.int .i64 _) = _; congr 2; omega, below_drewN (below_drewN HW.out _) _⟩
    · have hd : a.drop k = [] := List.drop_eq_nil_of_le (by have := HL.out; omega)
      have HS : Hid (128 = commonF a b) := by have h := HR.out; rw [hd, show k = 16 from by have := HK.out; omega] at h; exact h
      have c0 : decide ((k : Int) < 16) = false := decide_eq_false (by omega)
      clear hd HR hlt
      go_wp2
      go_ret
      exact ⟨by rw [← HS.out]; rfl, HW.out⟩
theorem bit_of {x y b : Nat} (hx : x < 256) (hy : y < 256) (hb : b < 8) (h : x / 2 ^ (b + 1) = y / 2 ^ (b + 1)) (hd : x / 2 ^ b % 2 ≠ y / 2 ^ b % 2) : Go.Lib.bitLen (x ^^^ y) = b + 1 := by
  have hall : ∀ z : Fin 256, ∀ c : Fin 8, z.val / 2 ^ (c.val + 1) = 0 → z.val / 2 ^ c.val % 2 = 1 → Go.Lib.bitLen z.val = c.val + 1 := by decide +kernel
  have hz : x ^^^ y < 256 := Nat.xor_lt_two_pow (n := 8) hx hy
  refine hall ⟨x ^^^ y, hz⟩ ⟨b, hb⟩ ?_ ?_
  · show (x ^^^ y) / 2 ^ (b + 1) = 0
    rw [← Nat.shiftRight_eq_div_pow, Nat.shiftRight_xor_distrib, Nat.shiftRight_eq_div_pow, Nat.shiftRight_eq_div_pow, h, Nat.xor_self]
  · show (x ^^^ y) / 2 ^ b % 2 = 1
    have h1 := Nat.testBit_xor x y b
    rw [Nat.testBit_eq_decide_div_mod_eq, Nat.testBit_eq_decide_div_mod_eq, Nat.testBit_eq_decide_div_mod_eq] at h1
    have hx2 := Nat.mod_two_eq_zero_or_one (x / 2 ^ b)
    have hy2 := Nat.mod_two_eq_zero_or_one (y / 2 ^ b)
    have hz2 := Nat.mod_two_eq_zero_or_one ((x ^^^ y) / 2 ^ b)
    rcases hx2 with h2 | h2 <;> rcases hy2 with h3 | h3 <;> rcases hz2 with h4 | h4 <;> simp_all
theorem bit_and (x : Int) (c : Nat) (h0 : 0 ≤ x) (h1 : x ≤ 255) (hc : c < 8) : bits .and .u8 (x / 2 ^ c) 1 = ((x.toNat / 2 ^ c % 2 : Nat) : Int) := by
  obtain ⟨n, rfl⟩ := Int.eq_ofNat_of_zero_le h0
  have hd : n / 2 ^ c ≤ n := Nat.div_le_self _ _
  have e : ((n : Int) / 2 ^ c) = ((n / 2 ^ c : Nat) : Int) := by simp
  have hm := bits_mask .u8 8 (by decide) wraps_u8 1 (by decide) ((n / 2 ^ c : Nat) : Int) (Int.natCast_nonneg _) (by show ((n / 2 ^ c : Nat) : Int) < 256; omega)
  rw [e, show (1 : Int) = 2 ^ 1 - 1 from rfl, hm, Int.toNat_natCast]
  show ((n / 2 ^ c : Nat) : Int) % 2 = _
  omega
theorem half_step {x c : Nat} : x / 2 ^ c = 2 * (x / 2 ^ (c + 1)) + x / 2 ^ c % 2 := by
  rw [Nat.pow_succ, ← Nat.div_div_eq_div_mul]
  omega
set_option maxHeartbeats 1000000 in
set_option maxRecDepth 1000000 in
theorem specCommon (a b : List Int) (ha : a.length = 16) (hb : b.length = 16) (ua : ∀ x ∈ a, 0 ≤ x ∧ x ≤ 255) (ub : ∀ x ∈ b, 0 ≤ x ∧ x ≤ 255) (w : World) :
    Calls Try.prog 12 #[.agg (bs a), .agg (bs b)] w fun e w' => e = .returned (.int .i64 (commonF a b)) ∧ Below w.heap.size w w' := by
  have HA : Hid (((w.alloc (Obj.cells (bs a) 22)).alloc (Obj.cells (bs b) 22)).heap[w.heap.size]? = some (.cells (bs a) 22 (0, 0))) := heap_alloc2_old _ _ _
  have HB : Hid (((w.alloc (Obj.cells (bs a) 22)).alloc (Obj.cells (bs b) 22)).heap[w.heap.size + 1]? = some (.cells (bs b) 22 (0, 0))) := heap_alloc2_new _ _ _
  have HW : Hid (Below w.heap.size w ((w.alloc (Obj.cells (bs a) 22)).alloc (Obj.cells (bs b) 22))) := ((Below.refl _ _).alloc (Nat.le_refl _) _).alloc (by simp) _
  have HL := Lib.hid ha
  have HM := Lib.hid hb
  have HU := Lib.hid ua
  have HV := Lib.hid ub
  clear ha hb ua ub
  go_enter Try.func12, Try.ntmps12
  go_wp2
  go_loopg [5, 6, 7] 16 (fun gg s5 s6 s7 wr => ∃ k : Nat, s5 = .int .i64 (8 * (k : Int)) ∧ s6 = .int .i64 k ∧ Hid (k ≤ 16 ∧ 16 - k ≤ gg) ∧ Hid (wr.heap[w.heap.size]? = some (.cells (bs a) 22 (0, 0))) ∧ Hid (wr.heap[w.heap.size + 1]? = some (.cells (bs b) 22 (0, 0))) ∧ Hid (Below w.heap.size w wr) ∧ Hid (8 * k + commonF (a.drop k) (b.drop k) = commonF a b))
  case atStart => exact ⟨0, rfl, rfl, Lib.hid (by omega), HA, HB, HW, Lib.hid (by simp)⟩
  case round =>
    clear HA HB HW
    obtain ⟨k, rfl, rfl, HK, HA, HB, HW, HR⟩ := hrel
    obtain ⟨wo, rfl⟩ : ∃ wo : World, wo = wr := ⟨_, rfl⟩
    by_cases hlt : k < 16
    · obtain ⟨x, hx⟩ : ∃ x, a[k]? = some x := ⟨_, List.getElem?_eq_getElem (by have := HL.out; omega)⟩
      obtain ⟨y, hy⟩ : ∃ y, b[k]? = some y := ⟨_, List.getElem?_eq_getElem (by have := HM.out; omega)⟩
      have HX := Lib.hid hx
      have HY := Lib.hid hy
      have HBX := Lib.hid (HU.out x (List.mem_of_getElem? hx))
      have HBY := Lib.hid (HV.out y (List.mem_of_getElem? hy))
      have k0 : (0 : Int) ≤ (k : Int) := by omega
      have k1 : (k : Int) < 16 := by omega
      have HS : Hid (8 * k + (if x = y then 8 + commonF (a.drop (k + 1)) (b.drop (k + 1)) else 8 - Go.Lib.bitLen (x.toNat ^^^ y.toNat)) = commonF a b) := by
        have h := HR.out
        obtain ⟨hka, hx⟩ := List.getElem?_eq_some_iff.1 hx
        obtain ⟨hkb, hy⟩ := List.getElem?_eq_some_iff.1 hy
        rw [List.drop_eq_getElem_cons hka, List.drop_eq_getElem_cons hkb, hx, hy, commonF] at h
        exact h
      clear hx hy HR
      go_wp2
      go_loopg [5, 7] 8 (fun gj s5 s7 wr => ∃ b2 : Int, s5 = .int .i64 (8 * (k : Int) + (7 - b2)) ∧ s7 = .int .i64 b2 ∧ Hid (-1 ≤ b2 ∧ b2 ≤ 7 ∧ b2 + 1 ≤ gj) ∧ Hid (wr.heap[w.heap.size]? = some (.cells (bs a) 22 (0, 0))) ∧ Hid (wr.heap[w.heap.size + 1]? = some (.cells (bs b) 22 (0, 0))) ∧ Hid (Below w.heap.size w wr) ∧ Hid (x.toNat / 2 ^ (b2 + 1).toNat = y.toNat / 2 ^ (b2 + 1).toNat))
      case atStart => exact ⟨7, by first | rfl | (simp; done), rfl, Lib.hid (by omega), HA, HB, HW, Lib.hid (by
        have := HBX.out
        have := HBY.out
        rw [Nat.div_eq_of_lt (show x.toNat < 2 ^ (7 + 1 : Int).toNat by show x.toNat < 256; omega), Nat.div_eq_of_lt (show y.toNat < 2 ^ (7 + 1 : Int).toNat by show y.toNat < 256; omega)])⟩
      case round =>
        clear HA HB HW
        obtain ⟨b2, rfl, rfl, HJ, HA, HB, HW, HD⟩ := hrel
        by_cases hj : 0 ≤ b2
        · obtain ⟨c, rfl⟩ : ∃ c : Nat, b2 = (c : Int) := ⟨b2.toNat, by omega⟩
          have cx := bcell HA.out (bs_get HX.out)
          have cy := bcell HB.out (bs_get HY.out)
          have c1 : decide ((c : Int) ≥ 0) = true := decide_eq_true hj
          have hc8 : c < 8 := by have := HJ.out; omega
          have hpx := bit_and x c HBX.out.1 HBX.out.2 hc8
          have hpy := bit_and y c HBY.out.1 HBY.out.2 hc8
          obtain ⟨p, HP⟩ : ∃ p : Nat, Hid (p = x.toNat / 2 ^ c % 2) := ⟨_, rfl⟩
          obtain ⟨q, HQ⟩ : ∃ q : Nat, Hid (q = y.toNat / 2 ^ c % 2) := ⟨_, rfl⟩
          rw [← HP.out] at hpx
          rw [← HQ.out] at hpy
          have hD := HD.out
          rw [show ((c : Int) + 1).toNat = c + 1 from by omega] at hD
          have s1 : (8 * (k : Int) + (7 - (c : Int))) ≤ 127 := by omega
          have s2 : 0 ≤ (8 * (k : Int) + (7 - (c : Int))) := by omega
          by_cases hpq : p = q
          · subst hpq
            have HE : Hid (x.toNat / 2 ^ c = y.toNat / 2 ^ c) := by
              have h1 := half_step (x := x.toNat) (c := c)
              have h2 := half_step (x := y.toNat) (c := c)
              have h3 := HP.out
              have h4 := HQ.out
              exact Lib.hid (by omega)
            clear hD
            go_wp2
            go_quiet (fail)
            go_wp2
            go_roundg c
            case measure => have := HJ.out; omega
            case rel => exact ⟨(c : Int) - 1, by go_num, rfl, Lib.hid (by have := HJ.out; omega), HA, HB, Lib.hid (below_drewN HW.out _), Lib.hid (by rw [show ((c : Int) - 1 + 1).toNat = c from by omega]; exact HE.out)⟩
          · have hne : ((p : Int) == (q : Int)) = false := by simp; omega
            have hxy : ¬ x = y := by
              rintro rfl
              exact hpq (HP.out.trans HQ.out.symm)
            have HF : Hid (8 * k + (7 - c) = commonF a b) := by
              have h := HS.out
              rw [if_neg hxy, bit_of (b := c) (by have := HBX.out; omega) (by have := HBY.out; omega) hc8 hD (by rw [← HP.out, ← HQ.out]; exact hpq)] at h
              exact Lib.hid (by omega)
            clear hD hxy
            go_wp2
            go_quiet (fail)
            go_wp2
            go_ret
            exact ⟨by rw [← HF.out]; show Ending.returned (.int .i64 _) = _; congr 2; omega, below_drewN HW.out _⟩
        · obtain rfl : b2 = -1 := by have := HJ.out; omega
          have c1 : decide ((-1 : Int) ≥ 0) = false := rfl
          have HF : Hid (8 * (k + 1) + commonF (a.drop (k + 1)) (b.drop (k + 1)) = commonF a b) := by
            have h := HS.out
            have e : x = y := by
              have h1 := HD.out
              have := HBX.out
              have := HBY.out
              have h2 : x.toNat / 1 = y.toNat / 1 := h1
              omega
            rw [if_pos e] at h
            exact Lib.hid (by omega)
          clear hj
          go_wp2
          go_roundg (16 - (k + 1))
          case measure => have := HK.out; omega
          case rel => exact ⟨k + 1, by go_num, by go_num, Lib.hid (by have := HK.out; omega), HA, HB, HW, HF⟩
    · have hd : a.drop k = [] := List.drop_eq_nil_of_le (by have := HL.out; omega)
      have HS : Hid (128 = commonF a b) := by have h := HR.out; rw [hd, show k = 16 from by have := HK.out; omega] at h; exact h
      obtain rfl : k = 16 := by have := HK.out; omega
      clear hd HR hlt
      go_wp2
      go_ret
      exact ⟨by rw [← HS.out]; rfl, HW.out⟩
end Go.Proofs.Ytcanejjkgoaplaa.Ky
