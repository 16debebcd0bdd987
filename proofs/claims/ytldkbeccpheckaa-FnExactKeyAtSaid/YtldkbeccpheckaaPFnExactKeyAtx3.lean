/- What is proved here: each Go function that is named below answers, and leaves memory, as the theorem of its name says; no condition beyond those that each theorem states. Laid by this session's own program (wip/driver.py) over the kit's print. -/
import Derived.Test.YtldkbeccpheckaaPFnExactKeyAtx0
import Derived.Test.YtldkbeccpheckaaPFnExactKeyAtx1
import Derived.Test.YtldkbeccpheckaaPFnExactKeyAtx2
namespace Go.Proofs.Ytldkbeccpheckaa.PFnExactKeyAt
open Go.RowKit Go.Proofs.YtldkbeccpheckaaW.PrintWords Go.Proofs.YtldkbeccpheckaaW.PrintLast Go.Proofs.YtldkbeccpheckaaW.PrintMore
attribute [local go_sem] max2_int min2_int max_two min_two max_three min_three max_four min_four   -- for this text's walks alone
set_option linter.unusedVariables false
set_option linter.unusedSimpArgs false

/-! ### impl_KeyAt: function 16 (by hand) -/
theorem impl_KeyAt.sn_C {w : World} {A : Option Addr} {c n : Nat} {xs : List Int} {s l : Nat} (h : (Kd.int .u8).C w A n xs) (hn : n = xs.length) (hsl : s + l ≤ xs.length) (hc : xs.length ≤ c) : (Kd.int .u8).C w (if c = s then A else A.map (·.add s)) l ((xs.drop s).take l) := by
  subst hn
  have h1 := Kd.C_take (m := l) (Kd.C_drop (m := s) h (by omega) hc) (by simp; omega)
  rw [show ((xs.drop s).take l).length = l from by simp; omega] at h1
  have hs : (Kd.int .u8).sz = 1 := rfl
  rw [hs] at h1
  simpa using h1
set_option maxHeartbeats 1000000 in
set_option maxRecDepth 100000 in
theorem impl_KeyAt.sn (A0 : Option Addr) (c0 : Nat) (l0 : List (List Int)) (a s l c : Int) (w0 w : World) (hb0 : Below w0.heap.size w0 w) (hr0 : Kd.C (Kd.slice 5 (Kd.int .u8)) w0 A0 l0.length l0) (hc0 : l0.length ≤ c0)
    (ha0 : 0 ≤ a) (ha1 : a < (l0.length : Int)) (hs : 0 ≤ s) (hl : 0 ≤ l) (hsl : s + l ≤ ((rd_L1 l0 a).length : Int)) (hpos : 0 < (rd_L1 l0 a).length) (hsm : (rd_L1 l0 a).length ≤ 1000000) :
    Calls Try.prog 57 #[.agg #[.slice A0 l0.length c0], .agg #[.int .i64 a, .int .i64 s, .int .i64 l, .int .i64 c]] w fun e w' => ∃ (A' : Option Addr) (c' : Nat), e = .returned (.slice A' l.toNat c') ∧ l.toNat ≤ c' ∧ (Kd.int .u8).C w0 A' l.toNat (((rd_L1 l0 a).drop s.toNat).take l.toNat) ∧ Below w.heap.size w w' := by
  obtain ⟨ad, A1, c1, hA, hx, hle, hrow⟩ := at_L1 hr0 a ha0 ha1
  subst hA
  have hlen : l0.length ≤ 9223372036854775807 := hr0.2.1
  obtain ⟨n1, hn1⟩ : ∃ n, n = (rd_L1 l0 a).length := ⟨_, rfl⟩
  rw [← hn1] at hx hle hsl hpos hsm
  obtain ⟨W, hW⟩ : ∃ W, W = (w.alloc (.cells #[.slice (some ad) l0.length c0] 31)).alloc (.cells #[.int .i64 a, .int .i64 s, .int .i64 l, .int .i64 c] 33) := ⟨_, rfl⟩
  have HB : Aside0 (Below w.heap.size w W) := ⟨by subst hW; exact below_alloc (below_alloc (Below.refl _ _) _) _⟩
  have h0 : W.cell? ⟨w.heap.size, 0, none⟩ = some (.slice (some ad) l0.length c0) := by subst hW; exact (blk_cell (heap_alloc2_old _ _ _) 0).trans rfl
  have h1 : W.cell? ⟨w.heap.size + 1, 0, none⟩ = some (.int .i64 a) := by subst hW; exact (blk_cell (heap_alloc2_new _ _ _) 0).trans rfl
  have h2 : W.cell? ⟨w.heap.size + 1, 1, none⟩ = some (.int .i64 s) := by subst hW; exact (blk_cell (heap_alloc2_new _ _ _) 1).trans rfl
  have h3 : W.cell? ⟨w.heap.size + 1, 2, none⟩ = some (.int .i64 l) := by subst hW; exact (blk_cell (heap_alloc2_new _ _ _) 2).trans rfl
  replace hx := (hb0.cell (World.block_lt_of_cell? w0 _ hx)).trans hx
  replace hx := (HB.out.cell (World.block_lt_of_cell? w _ hx)).trans hx
  have HR := Aside0.mk hr0
  have HROW := Aside0.mk hrow
  have HN := Aside0.mk hn1
  clear hr0 hrow hn1 hb0
  go_enter Try.func57, Try.ntmps57
  go_wp2
  rw [← hW]
  clear hW
  have e1 : IntKind.i64.wrap (s + l) = s + l := by rw [IntKind.wrap_i64]; omega
  have e2 : (s + l).toNat - s.toNat = l.toNat := by omega
  go_quiet (fail)
  go_wp2
  all_goals
    have HCS := Aside0.mk h
    go_ret
    refine ⟨_, _, rfl, by have := HCS.out; omega, ?_, pw_below_drewN HB.out _⟩
    have h := impl_KeyAt.sn_C (c := c1) (s := s.toNat) (l := l.toNat) HROW.out rfl (by have := HN.out; omega) (by have := HN.out; omega)
    first
    | (rw [if_pos HCS.out] at h; exact h)
    | (rw [if_neg HCS.out] at h; exact h)
def impl_KeyAt.f (k : Nat) (l0_0 : List (List Int)) (a1_0 : Int) (a1_1 : Int) (a1_2 : Int) (a1_3 : Int) (a2 : Int) : Option (List Int × Bool) := (impl_areOn.f k l0_0 [(⟨a1_0, a1_1, a1_2, a1_3⟩ : S33)]).bind fun y0_0 => if y0_0 = true then (impl_within.f a2 0 (wrap64 (a1_2 - 16))).bind fun y1_0 => if y1_0 = true then (if 0 ≤ a1_0 ∧ a1_0 < (l0_0.length : Int) ∧ 0 ≤ a1_1 ∧ 0 ≤ a1_2 ∧ a1_1 + a1_2 ≤ ((rd_L1 l0_0 a1_0).length : Int) ∧ (rd_L1 l0_0 a1_0).length ≤ 1000000 ∧ 0 ≤ a2 ∧ a2 + 16 ≤ a1_2 then some (((((rd_L1 l0_0 a1_0).drop a1_1.toNat).take a1_2.toNat).drop a2.toNat).take 16, true) else none) else some ((List.replicate 16 0), false) else some ((List.replicate 16 0), false)
theorem impl_KeyAt.mono : ∀ x0 x1 x2 x3 x4 x5 k, LeO (impl_KeyAt.f k x0 x1 x2 x3 x4 x5) (impl_KeyAt.f (k + 1) x0 x1 x2 x3 x4 x5) := by
  intro x0 x1 x2 x3 x4 x5 k
  unfold impl_KeyAt.f
  exact LeO.bind (by apply impl_areOn.mono) (fun _ => LeO.ite (LeO.bind (LeO.refl _) (fun _ => LeO.ite (LeO.refl _) (LeO.refl _))) (LeO.refl _))
set_option maxHeartbeats 4000000 in
set_option maxRecDepth 100000 in
theorem impl_KeyAt.calls (k : Nat) (A0_0 : Option Addr) (c0_0 : Nat) (l0_0 : List (List Int)) (a1_0 : Int) (a1_1 : Int) (a1_2 : Int) (a1_3 : Int) (a2 : Int) (r1 : List Int) (r2 : Bool) (w : World) (hr0_0 : Kd.C (Kd.slice 5 (Kd.int .u8)) w A0_0 l0_0.length l0_0) (hc0_0 : l0_0.length ≤ c0_0) (h : impl_KeyAt.f k l0_0 a1_0 a1_1 a1_2 a1_3 a2 = some (r1, r2)) :
    Calls Try.prog 16 #[.agg #[.slice A0_0 l0_0.length c0_0], .agg #[.int .i64 a1_0, .int .i64 a1_1, .int .i64 a1_2, .int .i64 a1_3], .int .i64 a2] w fun e w' => e = .returned (.tuple #[.agg (Ky.bs r1), .bool r2]) ∧ Below w.heap.size w w' ∧ Ky.Key r1 := by
  have HR0_0 := Lib.hid hr0_0
  have HC0_0 := Lib.hid hc0_0
  clear hr0_0 hc0_0
  obtain ⟨W0, hW⟩ : ∃ W, W = (((w.alloc (.cells #[.slice A0_0 l0_0.length c0_0] 31)).alloc (.cells #[.int .i64 a1_0, .int .i64 a1_1, .int .i64 a1_2, .int .i64 a1_3] 33)).alloc (.cells (Ky.bs (List.replicate 16 0)) 28)) := ⟨_, rfl⟩
  have HI : Hid (Lv.Inv w W0 [Lv.boxF (w.heap.size + 2) (Ky.bs (List.replicate 16 0)) 28, Lv.boxF (w.heap.size + 1) #[.int .i64 a1_0, .int .i64 a1_1, .int .i64 a1_2, .int .i64 a1_3] 33, Lv.boxF (w.heap.size) #[.slice A0_0 l0_0.length c0_0] 31]) := by
    subst hW
    have := ((((Lv.Inv.refl w).box #[.slice A0_0 l0_0.length c0_0] 31).box #[.int .i64 a1_0, .int .i64 a1_1, .int .i64 a1_2, .int .i64 a1_3] 33).box (Ky.bs (List.replicate 16 0)) 28)
    exact Lib.hid (by simpa using this)
  unfold impl_KeyAt.f at h
  replace h := Option.bind_eq_some_iff.mp h
  obtain ⟨y0_0, A0, h⟩ := h
  try dsimp only at h
  have HA0 := Lib.hid A0
  clear A0
  cases y0_0 with
  | true =>
    rw [if_pos rfl] at h
    replace h := Option.bind_eq_some_iff.mp h
    obtain ⟨y1_0, A1, h⟩ := h
    try dsimp only at h
    have HA1 := Lib.hid A1
    clear A1
    cases y1_0 with
    | true =>
      rw [if_pos rfl] at h
      obtain ⟨hc, h⟩ := Ky.of_cond h
      obtain ⟨hr1, rfl⟩ := Prod.mk.inj h
      have HR1 := Lib.hid hr1
      clear h hr1
      have HC := Lib.hid hc
      clear hc
      go_enter Try.func16, Try.ntmps16
      go_upto_region 1 with (fail)
      rw [Ky.bs_zero, ← hW]
      clear hW
      refine Fl.startL [.take 0, .take 1, .one 2, .one 3, .take 4, .take 5, .take 6, .take 7, .take 8, .take 9, .one 10, .take 11, .take 12] (by decide) HI.out ?_
      refine Fl.take (some 8) (v := .agg #[.slice A0_0 l0_0.length c0_0]) rfl rfl (Fl.ld 2 rfl (by rfl) _ _ rfl rfl Try.underlying31 rfl (by kernel_rfl)) ?_
      simp only [Act.put, Fl.z1, Fl.z2, Fl.z3]
      refine Fl.take (some 9) (v := .agg #[.int .i64 a1_0, .int .i64 a1_1, .int .i64 a1_2, .int .i64 a1_3]) rfl rfl (Fl.ld 1 rfl (by rfl) _ _ rfl rfl Try.underlying33 rfl (by kernel_rfl)) ?_
      simp only [Act.put, Fl.z1, Fl.z2, Fl.z3]
      refine Fl.lit (N := 10) (cs := #[.int .i64 a1_0, .int .i64 a1_1, .int .i64 a1_2, .int .i64 a1_3]) (t := 33) (n := 1) rfl rfl (by rfl) (fun w => by go_simp) (fun b1 => ?_)
      simp only [Act.put, Fl.z1, Fl.z2, Fl.z3]
      refine Fl.call (some 11) Try.func55 (by kernel_rfl) rfl #[.agg #[.slice A0_0 l0_0.length c0_0], .slice (some ⟨b1, 0, none⟩) 1 1] rfl rfl rfl (by rfl) rfl (fun E W hE hi => ?_)
      refine (impl_areOn.calls k _ _ l0_0 _ _ [(⟨a1_0, a1_1, a1_2, a1_3⟩ : S33)] true W (Kd.C_below HR0_0.out hi.bel) HC0_0.out (Fl.c_one (hi.blk 0 rfl) (k33_mk _ ⟨a1_0, a1_1, a1_2, a1_3⟩)) (Nat.le_refl _) HA0.out).mono ?_
      rintro e W' ⟨rfl, hb⟩
      refine Fl.keep hi hb ?_
      clear hi hb hE
      simp only [Act.put, Fl.z1, Fl.z2, Fl.z3]
      refine Fl.take (some 12) (v := .bool false) rfl rfl (Or.inl ⟨by rfl, fun _ _ => by rfl⟩) ?_
      simp only [Act.put, Fl.z1, Fl.z2, Fl.z3]
      refine Fl.take (some 13) (v := .bool false) rfl rfl (Or.inl ⟨by rfl, fun _ _ => by rfl⟩) ?_
      simp only [Act.put, Fl.z1, Fl.z2, Fl.z3]
      refine Fl.take (some 14) (v := .int .i64 a2) rfl rfl (Or.inl ⟨by rfl, fun _ _ => by rfl⟩) ?_
      simp only [Act.put, Fl.z1, Fl.z2, Fl.z3]
      refine Fl.take (some 15) (v := .pointer (some ⟨w.heap.size + 1, 2, none⟩)) rfl rfl (Or.inl ⟨by rfl, fun _ _ => by first | rfl | (go_simp; done) | (go_simp; simp only [i64_w])⟩) ?_
      simp only [Act.put, Fl.z1, Fl.z2, Fl.z3]
      refine Fl.take (some 16) (v := .int .i64 a1_2) rfl rfl (Or.inl ⟨by rfl, fun W' hW' => by have h_ := hW'.cell 1 rfl 2 rfl; go_simp⟩) ?_
      simp only [Act.put, Fl.z1, Fl.z2, Fl.z3]
      refine Fl.take (some 17) (v := .int .i64 (wrap64 (a1_2 - 16))) rfl rfl (Or.inl ⟨by rfl, fun _ _ => by first | rfl | (go_simp; done) | (go_simp; simp only [i64_w])⟩) ?_
      simp only [Act.put, Fl.z1, Fl.z2, Fl.z3]
      refine Fl.call (some 18) Try.func56 (by kernel_rfl) rfl #[.int .i64 a2, .int .i64 0, .int .i64 (wrap64 (a1_2 - 16))] rfl rfl rfl (by rfl) rfl (fun E W hE hi => ?_)
      refine (impl_within.calls a2 0 (wrap64 (a1_2 - 16)) true W HA1.out).mono ?_
      rintro e W' ⟨rfl, hb⟩
      refine Fl.keep hi hb.below ?_
      clear hi hb hE
      simp only [Act.put, Fl.z1, Fl.z2, Fl.z3]
      refine Fl.take (some 19) (v := .bool false) rfl rfl (Or.inl ⟨by rfl, fun _ _ => by rfl⟩) ?_
      simp only [Act.put, Fl.z1, Fl.z2, Fl.z3]
      refine Fl.take (some 20) (v := .bool false) rfl rfl (Or.inl ⟨by rfl, fun _ _ => by rfl⟩) ?_
      simp only [Act.put, Fl.z1, Fl.z2, Fl.z3]
      refine Fl.stop (fun W hi => ?_)
      replace HI := Lib.hid hi
      clear hi
      go_upto_region 3 with (fail)
      obtain ⟨m, hm⟩ : ∃ m : Nat, a2 = (m : Int) := ⟨a2.toNat, by have := HC.out; omega⟩
      subst hm
      have hm1 : (m : Int) + 16 ≤ 1000000 := by have := HC.out; omega
      have hm0 : (0 : Int) ≤ (m : Int) := by omega
      have e1 : IntKind.i64.wrap ((m : Int) + 16) = (m : Int) + 16 := by rw [IntKind.wrap_i64]; omega
      have e2 : ((m : Int) + 16).toNat - m = 16 := by omega
      have HYS : Hid (m + 16 ≤ (((rd_L1 l0_0 a1_0).drop a1_1.toNat).take a1_2.toNat).length) := Lib.hid (by have := HC.out; simp; omega)
      have HKR : Hid (Ky.Key r1) := Lib.hid (by rw [← HR1.out, Int.toNat_natCast]; exact Ky.range_len HYS.out)
      have HKM : Hid (m + 16 ≤ a1_2.toNat) := Lib.hid (by have := HC.out; omega)
      refine Fl.startW [.one 0, .one 1, .one 2, .take 3, .take 4, .take 5, .take 6, .take 7, .take 8, .one 9, .take 10] (by decide) HI.out ?_
      refine Fl.ldF (some 22) 3 rfl rfl rfl (by rfl) _ _ rfl rfl Try.underlying31 rfl (by kernel_rfl) ?_
      simp only [Act.put, Fl.z1, Fl.z2, Fl.z3]
      refine Fl.ldF (some 23) 2 rfl rfl rfl (by rfl) _ _ rfl rfl Try.underlying33 rfl (by kernel_rfl) ?_
      simp only [Act.put, Fl.z1, Fl.z2, Fl.z3]
      refine Fl.call (some 24) Try.func57 (by kernel_rfl) rfl #[.agg #[.slice A0_0 l0_0.length c0_0], .agg #[.int .i64 a1_0, .int .i64 a1_1, .int .i64 a1_2, .int .i64 a1_3]] rfl rfl rfl (by rfl) rfl (fun E W hE hi => ?_)
      refine (impl_KeyAt.sn _ _ l0_0 a1_0 a1_1 a1_2 a1_3 w _ hi.bel HR0_0.out HC0_0.out (by have := HC.out; omega) (by have := HC.out; omega) (by have := HC.out; omega) (by have := HC.out; omega) (by have := HC.out; omega) (by have := HC.out; omega) (by have := HC.out; omega)).mono ?_
      rintro e w1 ⟨A1, c5, rfl, hle, hrow, hb1⟩
      have ha1 : m + 16 ≤ c5 := Nat.le_trans HKM.out hle
      obtain ⟨b, o, rfl, hcells⟩ := Ky.row_at hrow (by have := HKM.out; omega)
      have HCL := Lib.hid hcells
      refine Fl.keep hi hb1 ?_
      clear hi hb1 hE hrow hle hcells
      have hs0 : (0 : Int) ≤ (m : Int) + 16 := by omega
      have hs1 : (m : Int) + 16 ≤ (c5 : Int) := by omega
      have hs2 : (m : Int) ≤ (m : Int) + 16 := by omega
      have hs3 : (c5 = m) = False := by simp; omega
      have hap := Ky.run_arrayAt
      simp only [Act.put, Fl.z1, Fl.z2, Fl.z3]
      refine Fl.take (some 25) (v := .int .i64 (m : Int)) rfl rfl (Or.inl ⟨by rfl, fun _ _ => by rfl⟩) ?_
      simp only [Act.put, Fl.z1, Fl.z2, Fl.z3]
      refine Fl.take (some 26) (v := .int .i64 (m : Int)) rfl rfl (Or.inl ⟨by rfl, fun _ _ => by rfl⟩) ?_
      simp only [Act.put, Fl.z1, Fl.z2, Fl.z3]
      refine Fl.take (some 27) (v := .int .i64 ((m : Int) + 16)) rfl rfl (Or.inl ⟨by rfl, fun _ _ => by go_simp⟩) ?_
      simp only [Act.put, Fl.z1, Fl.z2, Fl.z3]
      refine Fl.take (some 28) (v := .slice (some ⟨b, o + m, none⟩) 16 (c5 - m)) rfl rfl (Or.inl ⟨by rfl, fun _ _ => by go_simp⟩) ?_
      simp only [Act.put, Fl.z1, Fl.z2, Fl.z3]
      refine Fl.take (some 29) (v := .pointer (some ⟨b, o + m, none⟩)) rfl rfl (Or.inl ⟨by rfl, fun _ _ => by go_simp⟩) ?_
      simp only [Act.put, Fl.z1, Fl.z2, Fl.z3]
      refine Fl.take (some 30) (v := .agg (Ky.bs r1)) rfl rfl (yieldsIf_load_mid (by rfl) 28 _ rfl b (o + m) rfl (r1.map (Value.int .u8)) _ (fun W1 hW => by have h := Ky.range_key (n := m) hW.bel HCL.out; rw [← Int.toNat_natCast m, HR1.out, Int.toNat_natCast m] at h; exact h) Ky.hK rfl (by rw [List.length_map, HKR.out]; exact Ky.hKi)) ?_
      simp only [Act.put, Fl.z1, Fl.z2, Fl.z3]
      refine Fl.store 1 (Ky.bs r1) rfl rfl rfl rfl _ _ _ rfl rfl rfl (by rfl) (Ky.size_key HKR.out Ky.key0) (Ky.hKk HKR.out) (Ky.bs_one _) ?_
      refine Fl.take (some 7) (v := .bool true) rfl rfl (Or.inl ⟨by rfl, fun _ _ => by rfl⟩) ?_
      simp only [Act.put, Fl.z1, Fl.z2, Fl.z3]
      refine Fl.stopW (fun W hi => ?_)
      replace HI := Lib.hid hi
      clear hi
      go_wp2
      exact bodyPost_ret (v := .tuple #[.agg (Ky.bs r1), .bool true]) (results_list (rs := [.cell 6 28, .tmp 7]) rfl (by simp) (.cell _ _ _ (0, 0) _ rfl (HI.out.blk 1 rfl) Try.underlying28 rfl (Ky.hKk HKR.out) (.tmp .nil))) rfl ⟨rfl, HI.out.bel, HKR.out⟩
    | false =>
      rw [if_neg (by decide)] at h
      simp only [Option.some.injEq, Prod.mk.injEq] at h
      obtain ⟨rfl, rfl⟩ := h
      go_enter Try.func16, Try.ntmps16
      go_upto_region 1 with (fail)
      rw [Ky.bs_zero, ← hW]
      clear hW
      refine Fl.startL [.take 0, .take 1, .one 2, .one 3, .take 4, .take 5, .take 6, .take 7, .take 8, .take 9, .one 10, .take 11, .take 12] (by decide) HI.out ?_
      refine Fl.take (some 8) (v := .agg #[.slice A0_0 l0_0.length c0_0]) rfl rfl (Fl.ld 2 rfl (by rfl) _ _ rfl rfl Try.underlying31 rfl (by kernel_rfl)) ?_
      simp only [Act.put, Fl.z1, Fl.z2, Fl.z3]
      refine Fl.take (some 9) (v := .agg #[.int .i64 a1_0, .int .i64 a1_1, .int .i64 a1_2, .int .i64 a1_3]) rfl rfl (Fl.ld 1 rfl (by rfl) _ _ rfl rfl Try.underlying33 rfl (by kernel_rfl)) ?_
      simp only [Act.put, Fl.z1, Fl.z2, Fl.z3]
      refine Fl.lit (N := 10) (cs := #[.int .i64 a1_0, .int .i64 a1_1, .int .i64 a1_2, .int .i64 a1_3]) (t := 33) (n := 1) rfl rfl (by rfl) (fun w => by go_simp) (fun b1 => ?_)
      simp only [Act.put, Fl.z1, Fl.z2, Fl.z3]
      refine Fl.call (some 11) Try.func55 (by kernel_rfl) rfl #[.agg #[.slice A0_0 l0_0.length c0_0], .slice (some ⟨b1, 0, none⟩) 1 1] rfl rfl rfl (by rfl) rfl (fun E W hE hi => ?_)
      refine (impl_areOn.calls k _ _ l0_0 _ _ [(⟨a1_0, a1_1, a1_2, a1_3⟩ : S33)] true W (Kd.C_below HR0_0.out hi.bel) HC0_0.out (Fl.c_one (hi.blk 0 rfl) (k33_mk _ ⟨a1_0, a1_1, a1_2, a1_3⟩)) (Nat.le_refl _) HA0.out).mono ?_
      rintro e W' ⟨rfl, hb⟩
      refine Fl.keep hi hb ?_
      clear hi hb hE
      simp only [Act.put, Fl.z1, Fl.z2, Fl.z3]
      refine Fl.take (some 12) (v := .bool false) rfl rfl (Or.inl ⟨by rfl, fun _ _ => by rfl⟩) ?_
      simp only [Act.put, Fl.z1, Fl.z2, Fl.z3]
      refine Fl.take (some 13) (v := .bool false) rfl rfl (Or.inl ⟨by rfl, fun _ _ => by rfl⟩) ?_
      simp only [Act.put, Fl.z1, Fl.z2, Fl.z3]
      refine Fl.take (some 14) (v := .int .i64 a2) rfl rfl (Or.inl ⟨by rfl, fun _ _ => by rfl⟩) ?_
      simp only [Act.put, Fl.z1, Fl.z2, Fl.z3]
      refine Fl.take (some 15) (v := .pointer (some ⟨w.heap.size + 1, 2, none⟩)) rfl rfl (Or.inl ⟨by rfl, fun _ _ => by first | rfl | (go_simp; done) | (go_simp; simp only [i64_w])⟩) ?_
      simp only [Act.put, Fl.z1, Fl.z2, Fl.z3]
      refine Fl.take (some 16) (v := .int .i64 a1_2) rfl rfl (Or.inl ⟨by rfl, fun W' hW' => by have h_ := hW'.cell 1 rfl 2 rfl; go_simp⟩) ?_
      simp only [Act.put, Fl.z1, Fl.z2, Fl.z3]
      refine Fl.take (some 17) (v := .int .i64 (wrap64 (a1_2 - 16))) rfl rfl (Or.inl ⟨by rfl, fun _ _ => by first | rfl | (go_simp; done) | (go_simp; simp only [i64_w])⟩) ?_
      simp only [Act.put, Fl.z1, Fl.z2, Fl.z3]
      refine Fl.call (some 18) Try.func56 (by kernel_rfl) rfl #[.int .i64 a2, .int .i64 0, .int .i64 (wrap64 (a1_2 - 16))] rfl rfl rfl (by rfl) rfl (fun E W hE hi => ?_)
      refine (impl_within.calls a2 0 (wrap64 (a1_2 - 16)) false W HA1.out).mono ?_
      rintro e W' ⟨rfl, hb⟩
      refine Fl.keep hi hb.below ?_
      clear hi hb hE
      simp only [Act.put, Fl.z1, Fl.z2, Fl.z3]
      refine Fl.take (some 19) (v := .bool true) rfl rfl (Or.inl ⟨by rfl, fun _ _ => by rfl⟩) ?_
      simp only [Act.put, Fl.z1, Fl.z2, Fl.z3]
      refine Fl.take (some 20) (v := .bool true) rfl rfl (Or.inl ⟨by rfl, fun _ _ => by rfl⟩) ?_
      simp only [Act.put, Fl.z1, Fl.z2, Fl.z3]
      refine Fl.stop (fun W hi => ?_)
      replace HI := Lib.hid hi
      clear hi
      go_upto_region 2 with (fail)
      refine Fl.startW [.take 0, .one 1, .take 2] (by decide) HI.out ?_
      refine Fl.take (some 21) (v := .agg (Ky.bs (List.replicate 16 0))) rfl rfl (Or.inl ⟨by rfl, fun _ _ => by go_simp; rfl⟩) ?_
      simp only [Act.put, Fl.z1, Fl.z2, Fl.z3]
      refine Fl.store 1 (Ky.bs (List.replicate 16 0)) rfl rfl rfl rfl _ _ _ rfl rfl rfl (by rfl) (Ky.size_key Ky.key0 Ky.key0) (Ky.hKk Ky.key0) (Ky.bs_one _) ?_
      refine Fl.take (some 7) (v := .bool false) rfl rfl (Or.inl ⟨by rfl, fun _ _ => by rfl⟩) ?_
      simp only [Act.put, Fl.z1, Fl.z2, Fl.z3]
      refine Fl.stopW (fun W hi => ?_)
      replace HI := Lib.hid hi
      clear hi
      go_wp2
      exact bodyPost_ret (v := .tuple #[.agg (Ky.bs (List.replicate 16 0)), .bool false]) (results_list (rs := [.cell 6 28, .tmp 7]) rfl (by simp) (.cell _ _ _ (0, 0) _ rfl (HI.out.blk 1 rfl) Try.underlying28 rfl (Ky.hKk Ky.key0) (.tmp .nil))) rfl ⟨rfl, HI.out.bel, Ky.key0⟩
  | false =>
    rw [if_neg (by decide)] at h
    simp only [Option.some.injEq, Prod.mk.injEq] at h
    obtain ⟨rfl, rfl⟩ := h
    go_enter Try.func16, Try.ntmps16
    go_upto_region 1 with (fail)
    rw [Ky.bs_zero, ← hW]
    clear hW
    refine Fl.startL [.take 0, .take 1, .one 2, .one 3, .take 4, .take 5, .take 6, .take 7, .take 8, .take 9, .take 10, .take 11, .take 12] (by decide) HI.out ?_
    refine Fl.take (some 8) (v := .agg #[.slice A0_0 l0_0.length c0_0]) rfl rfl (Fl.ld 2 rfl (by rfl) _ _ rfl rfl Try.underlying31 rfl (by kernel_rfl)) ?_
    simp only [Act.put, Fl.z1, Fl.z2, Fl.z3]
    refine Fl.take (some 9) (v := .agg #[.int .i64 a1_0, .int .i64 a1_1, .int .i64 a1_2, .int .i64 a1_3]) rfl rfl (Fl.ld 1 rfl (by rfl) _ _ rfl rfl Try.underlying33 rfl (by kernel_rfl)) ?_
    simp only [Act.put, Fl.z1, Fl.z2, Fl.z3]
    refine Fl.lit (N := 10) (cs := #[.int .i64 a1_0, .int .i64 a1_1, .int .i64 a1_2, .int .i64 a1_3]) (t := 33) (n := 1) rfl rfl (by rfl) (fun w => by go_simp) (fun b1 => ?_)
    simp only [Act.put, Fl.z1, Fl.z2, Fl.z3]
    refine Fl.call (some 11) Try.func55 (by kernel_rfl) rfl #[.agg #[.slice A0_0 l0_0.length c0_0], .slice (some ⟨b1, 0, none⟩) 1 1] rfl rfl rfl (by rfl) rfl (fun E W hE hi => ?_)
    refine (impl_areOn.calls k _ _ l0_0 _ _ [(⟨a1_0, a1_1, a1_2, a1_3⟩ : S33)] false W (Kd.C_below HR0_0.out hi.bel) HC0_0.out (Fl.c_one (hi.blk 0 rfl) (k33_mk _ ⟨a1_0, a1_1, a1_2, a1_3⟩)) (Nat.le_refl _) HA0.out).mono ?_
    rintro e W' ⟨rfl, hb⟩
    refine Fl.keep hi hb ?_
    clear hi hb hE
    simp only [Act.put, Fl.z1, Fl.z2, Fl.z3]
    refine Fl.take (some 12) (v := .bool true) rfl rfl (Or.inl ⟨by rfl, fun _ _ => by rfl⟩) ?_
    simp only [Act.put, Fl.z1, Fl.z2, Fl.z3]
    refine Fl.take (some 13) (v := .bool true) rfl rfl (Or.inl ⟨by rfl, fun _ _ => by rfl⟩) ?_
    simp only [Act.put, Fl.z1, Fl.z2, Fl.z3]
    refine Fl.take (some 14) (v := undef) rfl rfl (Or.inr ⟨by rfl, rfl⟩) ?_
    simp only [Act.put, Fl.z1, Fl.z2, Fl.z3]
    refine Fl.take (some 15) (v := undef) rfl rfl (Or.inr ⟨by rfl, rfl⟩) ?_
    simp only [Act.put, Fl.z1, Fl.z2, Fl.z3]
    refine Fl.take (some 16) (v := undef) rfl rfl (Or.inr ⟨by rfl, rfl⟩) ?_
    simp only [Act.put, Fl.z1, Fl.z2, Fl.z3]
    refine Fl.take (some 17) (v := undef) rfl rfl (Or.inr ⟨by rfl, rfl⟩) ?_
    simp only [Act.put, Fl.z1, Fl.z2, Fl.z3]
    refine Fl.take (some 18) (v := undef) rfl rfl (Or.inr ⟨by rfl, rfl⟩) ?_
    simp only [Act.put, Fl.z1, Fl.z2, Fl.z3]
    refine Fl.take (some 19) (v := undef) rfl rfl (Or.inr ⟨by rfl, rfl⟩) ?_
    simp only [Act.put, Fl.z1, Fl.z2, Fl.z3]
    refine Fl.take (some 20) (v := .bool true) rfl rfl (Or.inl ⟨by rfl, fun _ _ => by rfl⟩) ?_
    simp only [Act.put, Fl.z1, Fl.z2, Fl.z3]
    refine Fl.stop (fun W hi => ?_)
    replace HI := Lib.hid hi
    clear hi
    go_upto_region 2 with (fail)
    refine Fl.startW [.take 0, .one 1, .take 2] (by decide) HI.out ?_
    refine Fl.take (some 21) (v := .agg (Ky.bs (List.replicate 16 0))) rfl rfl (Or.inl ⟨by rfl, fun _ _ => by go_simp; rfl⟩) ?_
    simp only [Act.put, Fl.z1, Fl.z2, Fl.z3]
    refine Fl.store 1 (Ky.bs (List.replicate 16 0)) rfl rfl rfl rfl _ _ _ rfl rfl rfl (by rfl) (Ky.size_key Ky.key0 Ky.key0) (Ky.hKk Ky.key0) (Ky.bs_one _) ?_
    refine Fl.take (some 7) (v := .bool false) rfl rfl (Or.inl ⟨by rfl, fun _ _ => by rfl⟩) ?_
    simp only [Act.put, Fl.z1, Fl.z2, Fl.z3]
    refine Fl.stopW (fun W hi => ?_)
    replace HI := Lib.hid hi
    clear hi
    go_wp2
    exact bodyPost_ret (v := .tuple #[.agg (Ky.bs (List.replicate 16 0)), .bool false]) (results_list (rs := [.cell 6 28, .tmp 7]) rfl (by simp) (.cell _ _ _ (0, 0) _ rfl (HI.out.blk 1 rfl) Try.underlying28 rfl (Ky.hKk Ky.key0) (.tmp .nil))) rfl ⟨rfl, HI.out.bel, Ky.key0⟩

/-! ### laws_eqByteA16: function 17 (by hand) -/
def laws_eqByteA16.f (a0 : List Int) (a1 : List Int) : Option Bool := some (decide (a0 = a1))
theorem laws_eqByteA16.calls (a0 : List Int) (a1 : List Int) (r : Bool) (w : World) (hk0 : Ky.Key a0) (hk1 : Ky.Key a1) (h : laws_eqByteA16.f a0 a1 = some r) :
    Calls Try.prog 17 #[.agg (Ky.bs a0), .agg (Ky.bs a1)] w fun e w' => e = .returned (.bool r) ∧ Below w.heap.size w w' := by
  obtain rfl := Option.some.inj h
  exact Ky.eqKey a0 a1 hk0 hk1 w

open Go.Proofs.Ytldkbeccpheckaa.Cp
/-! ### laws_eqByteS: function 37 -/
def laws_eqByteS.l0 : Nat → List Int → List Int → Int → Option (Bool)
 | 0, _, _, _ => none
 | k + 1, x0, x1, x5 => if x5 < (x0.length : Int) then (if 0 ≤ x5 then (if x5 < (x1.length : Int) then (if (rd x0 x5) = (rd x1 x5) then (laws_eqByteS.l0 k x0 x1 (wrap64 (x5 + 1))) else (some false)) else (none)) else (none)) else (some true)
def laws_eqByteS.f (k : Nat) (l0 : List Int) (l1 : List Int) : Option (Bool) := if (l0.length : Int) = (l1.length : Int) then (laws_eqByteS.l0 k l0 l1 0) else (some false)
theorem laws_eqByteS.mono_l : ∀ k, (∀ y0 y1 y2, LeO (laws_eqByteS.l0 k y0 y1 y2) (laws_eqByteS.l0 (k + 1) y0 y1 y2))
 | 0 => fun _ _ _ r h => by simp [laws_eqByteS.l0] at h
 | k + 1 => by
  have ih0 := laws_eqByteS.mono_l k
  ·intro y0 y1 y2
   unfold laws_eqByteS.l0
   repeat' first
   | (with_reducible exact ih0 _ _ _)
   | (with_reducible exact LeO.refl _)
   | (with_reducible exact LeO.none _)
   | (with_reducible refine LeO.ite ?_ ?_)
   | (with_reducible refine LeO.bind ?_ (fun _ => ?_))
   | exact ih0 _ _ _
   | exact LeO.none _
   | refine LeO.ite ?_ ?_
   | refine LeO.bind ?_ (fun _ => ?_)
theorem laws_eqByteS.mono : ∀ a0 a1 k, LeO (laws_eqByteS.f k a0 a1) (laws_eqByteS.f (k + 1) a0 a1) := by
 intro a0 a1 k
 have ih0 := laws_eqByteS.mono_l k
 unfold laws_eqByteS.f
 repeat' first
   | (with_reducible exact ih0 _ _ _)
   | (with_reducible exact LeO.refl _)
   | (with_reducible exact LeO.none _)
   | (with_reducible refine LeO.ite ?_ ?_)
   | (with_reducible refine LeO.bind ?_ (fun _ => ?_))
   | exact ih0 _ _ _
   | exact LeO.none _
   | refine LeO.ite ?_ ?_
   | refine LeO.bind ?_ (fun _ => ?_)
set_option maxHeartbeats 8000000 in
set_option maxRecDepth 100000 in
theorem laws_eqByteS.calls (k : Nat) (A0 : Option Addr) (c0 : Nat) (l0 : List Int) (A1 : Option Addr) (c1 : Nat) (l1 : List Int) (r : Bool) (w : World) (hr0 : Kd.C (Kd.int .u8) w A0 l0.length l0) (hc0 : l0.length ≤ c0) (hr1 : Kd.C (Kd.int .u8) w A1 l1.length l1) (hc1 : l1.length ≤ c1) (h : laws_eqByteS.f k l0 l1 = some r) :
  Calls Try.prog 37 #[.slice A0 l0.length c0, .slice A1 l1.length c1] w fun e w' => e = .returned (.bool r) ∧ Drawn0 w w' := by
 have HR0 := Aside0.mk hr0
 have HC0 := Aside0.mk hc0
 clear hr0 hc0
 have HR1 := Aside0.mk hr1
 have HC1 := Aside0.mk hc1
 clear hr1 hc1
 have H : (if (l0.length : Int) = (l1.length : Int) then (laws_eqByteS.l0 k l0 l1 0) else (some false)) = some r := h
 clear h
 by_cases c3 : (l0.length : Int) = (l1.length : Int)
 ·rw [if_pos c3] at H
  have c3b0 : ((l0.length : Int) == (l1.length : Int)) = true := beq_iff_eq.mpr c3
  have c3b1 : ((l0.length : Int) != (l1.length : Int)) = false := bne_eq_false_iff_eq.mpr c3
  have c3b2 : (l0.length == l1.length) = true := by first | simpa using c3 | (simp at c3 ⊢; omega)
  clear c3
  have H' := Aside0.mk H
  clear H
  go_enter Try.func37, Try.ntmps37
  go_wp2
  repeat (go_quiet (fail); try go_wp2)
  go_loopg [5] k (fun kq v5 w' => ∃ (x5_1 : Int), v5 = .int .i64 x5_1 ∧ Aside0 (laws_eqByteS.l0 kq l0 l1 x5_1 = some r) ∧ Aside0 (kq ≤ k) ∧ Drawn0 w w')
  case atStart => exact ⟨(0), (by first | rfl | (simp; done) | (simp [*]; done)), H', ⟨Nat.le_refl _⟩, by repeat (first | exact Drawn0.refl _ | apply Drawn0.step)⟩
  case round =>
   clear H'
   try clear c1
   try clear p2
   try clear c3
   try clear c3b0
   try clear c3b1
   try clear c3b2
   obtain ⟨x5_1, rfl, HA, HK1, ⟨m1, rfl⟩⟩ := hrel
   cases gk with
   | zero => exact absurd HA.out (by simp [laws_eqByteS.l0])
   | succ k1 =>
    have H := HA.out
    clear HA
    simp only [laws_eqByteS.l0] at H
    by_cases c4 : x5_1 < (l0.length : Int)
    ·rw [if_pos c4] at H
     have c4b0 : decide (x5_1 < (l0.length : Int)) = true := decide_eq_true c4
     clear c4
     by_cases c5 : 0 ≤ x5_1
     ·rw [if_pos c5] at H
      have c5b0 : decide (0 ≤ x5_1) = true := decide_eq_true c5
      clear c5
      by_cases c6 : x5_1 < (l1.length : Int)
      ·rw [if_pos c6] at H
       have c6b0 : decide (x5_1 < (l1.length : Int)) = true := decide_eq_true c6
       clear c6
       by_cases c7 : (rd l0 x5_1) = (rd l1 x5_1)
       ·rw [if_pos c7] at H
        have c7b0 : ((rd l0 x5_1) == (rd l1 x5_1)) = true := beq_iff_eq.mpr c7
        have c7b1 : ((rd l0 x5_1) != (rd l1 x5_1)) = false := bne_eq_false_iff_eq.mpr c7
        clear c7
        have H' := Aside0.mk H
        clear H
        have p158 : 0 ≤ (x5_1 : Int) := of_decide_eq_true (by first | (with_reducible assumption) | assumption)
        have q158 : x5_1 < (l0.length : Int) := of_decide_eq_true (by first | (with_reducible assumption) | assumption)
        obtain ⟨ad158, e158, hx158_0⟩ := Kd.at_int HR0.out x5_1 p158 q158
        cases e158
        replace p158 := eq_true p158
        replace q158 := eq_true q158
        have p159 : 0 ≤ (x5_1 : Int) := of_decide_eq_true (by first | (with_reducible assumption) | assumption)
        have q159 : x5_1 < (l1.length : Int) := of_decide_eq_true (by first | (with_reducible assumption) | assumption)
        obtain ⟨ad159, e159, hx159_0⟩ := Kd.at_int HR1.out x5_1 p159 q159
        cases e159
        replace p159 := eq_true p159
        replace q159 := eq_true q159
        go_wp2
        repeat (go_quiet (fail); try go_wp2)
        go_roundg k1
        case measure => have := HK1.out; omega
        case rel => exact ⟨(wrap64 (x5_1 + 1)), (by first | rfl | (simp; done) | (simp [*]; done)), H', ⟨by have := HK1.out; omega⟩, by repeat (first | exact Drawn0.refl _ | apply Drawn0.step)⟩
       ·rw [if_neg c7] at H
        have c7b0 : ((rd l0 x5_1) == (rd l1 x5_1)) = false := beq_eq_false_iff_ne.mpr c7
        have c7b1 : ((rd l0 x5_1) != (rd l1 x5_1)) = true := bne_iff_ne.mpr c7
        obtain rfl := Option.some.inj H
        have p158 : 0 ≤ (x5_1 : Int) := of_decide_eq_true (by first | (with_reducible assumption) | assumption)
        have q158 : x5_1 < (l0.length : Int) := of_decide_eq_true (by first | (with_reducible assumption) | assumption)
        obtain ⟨ad158, e158, hx158_0⟩ := Kd.at_int HR0.out x5_1 p158 q158
        cases e158
        replace p158 := eq_true p158
        replace q158 := eq_true q158
        have p159 : 0 ≤ (x5_1 : Int) := of_decide_eq_true (by first | (with_reducible assumption) | assumption)
        have q159 : x5_1 < (l1.length : Int) := of_decide_eq_true (by first | (with_reducible assumption) | assumption)
        obtain ⟨ad159, e159, hx159_0⟩ := Kd.at_int HR1.out x5_1 p159 q159
        cases e159
        replace p159 := eq_true p159
        replace q159 := eq_true q159
        go_wp2
        repeat (go_quiet (fail); try go_wp2)
        go_ret
        exact ⟨by first | rfl | (simp; done) | (simp [*]; done), by repeat (first | exact Drawn0.refl _ | apply Drawn0.step)⟩
      ·rw [if_neg c6] at H
       exact absurd H (by simp)
     ·rw [if_neg c5] at H
      exact absurd H (by simp)
    ·rw [if_neg c4] at H
     have c4b0 : decide (x5_1 < (l0.length : Int)) = false := decide_eq_false c4
     clear c4
     obtain rfl := Option.some.inj H
     go_wp2
     repeat (go_quiet (fail); try go_wp2)
     go_ret
     exact ⟨by first | rfl | (simp; done) | (simp [*]; done), by repeat (first | exact Drawn0.refl _ | apply Drawn0.step)⟩
 ·rw [if_neg c3] at H
  have c3b0 : ((l0.length : Int) == (l1.length : Int)) = false := beq_eq_false_iff_ne.mpr c3
  have c3b1 : ((l0.length : Int) != (l1.length : Int)) = true := bne_iff_ne.mpr c3
  have c3b2 : (l0.length == l1.length) = false := by first | simpa using c3 | (simp at c3 ⊢; omega)
  obtain rfl := Option.some.inj H
  go_enter Try.func37, Try.ntmps37
  go_wp2
  repeat (go_quiet (fail); try go_wp2)
  go_ret
  exact ⟨by first | rfl | (simp; done) | (simp [*]; done), by repeat (first | exact Drawn0.refl _ | apply Drawn0.step)⟩

open Go.Proofs.Ytldkbeccpheckaa.Cp
/-! ### laws_eqByteSS: function 58 -/
def laws_eqByteSS.l0 : Nat → List (List Int) → List (List Int) → Int → Option (Bool)
 | 0, _, _, _ => none
 | k + 1, x0, x1, x5 => if x5 < (x0.length : Int) then (if 0 ≤ x5 then (if x5 < (x1.length : Int) then ((laws_eqByteS.f k (rd_L1 x0 x5) (rd_L1 x1 x5)).bind fun t162 => (if t162 = true then (laws_eqByteSS.l0 k x0 x1 (wrap64 (x5 + 1))) else (some false))) else (none)) else (none)) else (some true)
def laws_eqByteSS.f (k : Nat) (l0 : List (List Int)) (l1 : List (List Int)) : Option (Bool) := if (l0.length : Int) = (l1.length : Int) then (laws_eqByteSS.l0 k l0 l1 0) else (some false)
theorem laws_eqByteSS.mono_l : ∀ k, (∀ y0 y1 y2, LeO (laws_eqByteSS.l0 k y0 y1 y2) (laws_eqByteSS.l0 (k + 1) y0 y1 y2))
 | 0 => fun _ _ _ r h => by simp [laws_eqByteSS.l0] at h
 | k + 1 => by
  have ih0 := laws_eqByteSS.mono_l k
  ·intro y0 y1 y2
   unfold laws_eqByteSS.l0
   repeat' first
   | (with_reducible exact ih0 _ _ _)
   | (with_reducible exact laws_eqByteS.mono _ _ _)
   | (with_reducible exact LeO.refl _)
   | (with_reducible exact LeO.none _)
   | (with_reducible refine LeO.ite ?_ ?_)
   | (with_reducible refine LeO.bind ?_ (fun _ => ?_))
   | exact ih0 _ _ _
   | exact laws_eqByteS.mono _ _ _
   | exact LeO.none _
   | refine LeO.ite ?_ ?_
   | refine LeO.bind ?_ (fun _ => ?_)
theorem laws_eqByteSS.mono : ∀ a0 a1 k, LeO (laws_eqByteSS.f k a0 a1) (laws_eqByteSS.f (k + 1) a0 a1) := by
 intro a0 a1 k
 have ih0 := laws_eqByteSS.mono_l k
 unfold laws_eqByteSS.f
 repeat' first
   | (with_reducible exact ih0 _ _ _)
   | (with_reducible exact laws_eqByteS.mono _ _ _)
   | (with_reducible exact LeO.refl _)
   | (with_reducible exact LeO.none _)
   | (with_reducible refine LeO.ite ?_ ?_)
   | (with_reducible refine LeO.bind ?_ (fun _ => ?_))
   | exact ih0 _ _ _
   | exact laws_eqByteS.mono _ _ _
   | exact LeO.none _
   | refine LeO.ite ?_ ?_
   | refine LeO.bind ?_ (fun _ => ?_)
set_option maxHeartbeats 8000000 in
set_option maxRecDepth 100000 in
theorem laws_eqByteSS.calls (k : Nat) (A0 : Option Addr) (c0 : Nat) (l0 : List (List Int)) (A1 : Option Addr) (c1 : Nat) (l1 : List (List Int)) (r : Bool) (w : World) (hr0 : Kd.C (Kd.slice 5 (Kd.int .u8)) w A0 l0.length l0) (hc0 : l0.length ≤ c0) (hr1 : Kd.C (Kd.slice 5 (Kd.int .u8)) w A1 l1.length l1) (hc1 : l1.length ≤ c1) (h : laws_eqByteSS.f k l0 l1 = some r) :
  Calls Try.prog 58 #[.slice A0 l0.length c0, .slice A1 l1.length c1] w fun e w' => e = .returned (.bool r) ∧ Drawn0 w w' := by
 have HR0 := Aside0.mk hr0
 have HC0 := Aside0.mk hc0
 clear hr0 hc0
 have HR1 := Aside0.mk hr1
 have HC1 := Aside0.mk hc1
 clear hr1 hc1
 have H : (if (l0.length : Int) = (l1.length : Int) then (laws_eqByteSS.l0 k l0 l1 0) else (some false)) = some r := h
 clear h
 by_cases c3 : (l0.length : Int) = (l1.length : Int)
 ·rw [if_pos c3] at H
  have c3b0 : ((l0.length : Int) == (l1.length : Int)) = true := beq_iff_eq.mpr c3
  have c3b1 : ((l0.length : Int) != (l1.length : Int)) = false := bne_eq_false_iff_eq.mpr c3
  have c3b2 : (l0.length == l1.length) = true := by first | simpa using c3 | (simp at c3 ⊢; omega)
  clear c3
  have H' := Aside0.mk H
  clear H
  go_enter Try.func58, Try.ntmps58
  go_wp2
  repeat (go_quiet (fail); try go_wp2)
  go_loopg [5] k (fun kq v5 w' => ∃ (x5_1 : Int), v5 = .int .i64 x5_1 ∧ Aside0 (laws_eqByteSS.l0 kq l0 l1 x5_1 = some r) ∧ Aside0 (kq ≤ k) ∧ Drawn0 w w')
  case atStart => exact ⟨(0), (by first | rfl | (simp; done) | (simp [*]; done)), H', ⟨Nat.le_refl _⟩, by repeat (first | exact Drawn0.refl _ | apply Drawn0.step)⟩
  case round =>
   clear H'
   try clear c1
   try clear p2
   try clear c3
   try clear c3b0
   try clear c3b1
   try clear c3b2
   obtain ⟨x5_1, rfl, HA, HK1, ⟨m1, rfl⟩⟩ := hrel
   cases gk with
   | zero => exact absurd HA.out (by simp [laws_eqByteSS.l0])
   | succ k1 =>
    have H := HA.out
    clear HA
    simp only [laws_eqByteSS.l0] at H
    by_cases c4 : x5_1 < (l0.length : Int)
    ·rw [if_pos c4] at H
     have c4b0 : decide (x5_1 < (l0.length : Int)) = true := decide_eq_true c4
     clear c4
     by_cases c5 : 0 ≤ x5_1
     ·rw [if_pos c5] at H
      have c5b0 : decide (0 ≤ x5_1) = true := decide_eq_true c5
      clear c5
      by_cases c6 : x5_1 < (l1.length : Int)
      ·rw [if_pos c6] at H
       have c6b0 : decide (x5_1 < (l1.length : Int)) = true := decide_eq_true c6
       clear c6
       replace H := Option.bind_eq_some_iff.mp H
       obtain ⟨t162, A70, H⟩ := H
       replace H : (if t162 = true then (laws_eqByteSS.l0 k1 l0 l1 (wrap64 (x5_1 + 1))) else (some false)) = some r := H
       have A7 := Aside0.mk A70
       clear A70
       by_cases c8 : t162 = true
       ·subst c8
        have H1 : (laws_eqByteSS.l0 k1 l0 l1 (wrap64 (x5_1 + 1))) = some r := by rw [if_pos rfl] at H; exact H
        clear H
        have H := H1
        clear H1
        have H' := Aside0.mk H
        clear H
        have p160 : 0 ≤ (x5_1 : Int) := of_decide_eq_true (by first | (with_reducible assumption) | assumption)
        have q160 : x5_1 < (l0.length : Int) := of_decide_eq_true (by first | (with_reducible assumption) | assumption)
        obtain ⟨ad160, A160_0, c160_0, e160, hx160_0, hl160_0, hi160_0⟩ := at_L1 HR0.out x5_1 p160 q160
        cases e160
        have HR160_0 := Aside0.mk hi160_0
        have HC160_0 := Aside0.mk hl160_0
        clear hi160_0 hl160_0
        replace p160 := eq_true p160
        replace q160 := eq_true q160
        have p161 : 0 ≤ (x5_1 : Int) := of_decide_eq_true (by first | (with_reducible assumption) | assumption)
        have q161 : x5_1 < (l1.length : Int) := of_decide_eq_true (by first | (with_reducible assumption) | assumption)
        obtain ⟨ad161, A161_0, c161_0, e161, hx161_0, hl161_0, hi161_0⟩ := at_L1 HR1.out x5_1 p161 q161
        cases e161
        have HR161_0 := Aside0.mk hi161_0
        have HC161_0 := Aside0.mk hl161_0
        clear hi161_0 hl161_0
        replace p161 := eq_true p161
        replace q161 := eq_true q161
        go_wp2_with (first | (go_at_call 37; (with_reducible refine (laws_eqByteS.calls k1 _ _ (rd_L1 l0 x5_1) _ _ (rd_L1 l1 x5_1) true _ ?side1 ?side2 ?side3 ?side4 A7.out).mono ?_); (case side1 => repeat (first | exact HR160_0.out | (with_reducible refine Kd.C_alloc ?_ _) | (with_reducible refine Kd.C_drewN ?_ _) | (with_reducible refine Kd.C_drew ?_))); (case side2 => exact HC160_0.out); (case side3 => repeat (first | exact HR161_0.out | (with_reducible refine Kd.C_alloc ?_ _) | (with_reducible refine Kd.C_drewN ?_ _) | (with_reducible refine Kd.C_drew ?_))); (case side4 => exact HC161_0.out); rintro e w' ⟨rfl, ⟨nd, rfl⟩⟩; (try first | exact ⟨rfl, _, World.drewN_drewN _ _ _⟩ | exact ⟨rfl, _, Eq.trans (World.drewN_drewN _ _ _) (congrArg (World.drewN _) (Nat.add_assoc _ _ _))⟩)))
        repeat (go_quiet (first | (go_at_call 37; (with_reducible refine (laws_eqByteS.calls k1 _ _ (rd_L1 l0 x5_1) _ _ (rd_L1 l1 x5_1) true _ ?side1 ?side2 ?side3 ?side4 A7.out).mono ?_); (case side1 => repeat (first | exact HR160_0.out | (with_reducible refine Kd.C_alloc ?_ _) | (with_reducible refine Kd.C_drewN ?_ _) | (with_reducible refine Kd.C_drew ?_))); (case side2 => exact HC160_0.out); (case side3 => repeat (first | exact HR161_0.out | (with_reducible refine Kd.C_alloc ?_ _) | (with_reducible refine Kd.C_drewN ?_ _) | (with_reducible refine Kd.C_drew ?_))); (case side4 => exact HC161_0.out); rintro e w' ⟨rfl, ⟨nd, rfl⟩⟩; (try first | exact ⟨rfl, _, World.drewN_drewN _ _ _⟩ | exact ⟨rfl, _, Eq.trans (World.drewN_drewN _ _ _) (congrArg (World.drewN _) (Nat.add_assoc _ _ _))⟩))); try go_wp2_with (first | (go_at_call 37; (with_reducible refine (laws_eqByteS.calls k1 _ _ (rd_L1 l0 x5_1) _ _ (rd_L1 l1 x5_1) true _ ?side1 ?side2 ?side3 ?side4 A7.out).mono ?_); (case side1 => repeat (first | exact HR160_0.out | (with_reducible refine Kd.C_alloc ?_ _) | (with_reducible refine Kd.C_drewN ?_ _) | (with_reducible refine Kd.C_drew ?_))); (case side2 => exact HC160_0.out); (case side3 => repeat (first | exact HR161_0.out | (with_reducible refine Kd.C_alloc ?_ _) | (with_reducible refine Kd.C_drewN ?_ _) | (with_reducible refine Kd.C_drew ?_))); (case side4 => exact HC161_0.out); rintro e w' ⟨rfl, ⟨nd, rfl⟩⟩; (try first | exact ⟨rfl, _, World.drewN_drewN _ _ _⟩ | exact ⟨rfl, _, Eq.trans (World.drewN_drewN _ _ _) (congrArg (World.drewN _) (Nat.add_assoc _ _ _))⟩))))
        go_roundg k1
        case measure => have := HK1.out; omega
        case rel => exact ⟨(wrap64 (x5_1 + 1)), (by first | rfl | (simp; done) | (simp [*]; done)), H', ⟨by have := HK1.out; omega⟩, by repeat (first | exact Drawn0.refl _ | apply Drawn0.step)⟩
       ·replace c8 := Bool.eq_false_iff.mpr c8
        subst c8
        have H1 : (some false) = some r := by rw [if_neg (show ¬ (false = true) by decide)] at H; exact H
        clear H
        have H := H1
        clear H1
        obtain rfl := Option.some.inj H
        have p160 : 0 ≤ (x5_1 : Int) := of_decide_eq_true (by first | (with_reducible assumption) | assumption)
        have q160 : x5_1 < (l0.length : Int) := of_decide_eq_true (by first | (with_reducible assumption) | assumption)
        obtain ⟨ad160, A160_0, c160_0, e160, hx160_0, hl160_0, hi160_0⟩ := at_L1 HR0.out x5_1 p160 q160
        cases e160
        have HR160_0 := Aside0.mk hi160_0
        have HC160_0 := Aside0.mk hl160_0
        clear hi160_0 hl160_0
        replace p160 := eq_true p160
        replace q160 := eq_true q160
        have p161 : 0 ≤ (x5_1 : Int) := of_decide_eq_true (by first | (with_reducible assumption) | assumption)
        have q161 : x5_1 < (l1.length : Int) := of_decide_eq_true (by first | (with_reducible assumption) | assumption)
        obtain ⟨ad161, A161_0, c161_0, e161, hx161_0, hl161_0, hi161_0⟩ := at_L1 HR1.out x5_1 p161 q161
        cases e161
        have HR161_0 := Aside0.mk hi161_0
        have HC161_0 := Aside0.mk hl161_0
        clear hi161_0 hl161_0
        replace p161 := eq_true p161
        replace q161 := eq_true q161
        go_wp2_with (first | (go_at_call 37; (with_reducible refine (laws_eqByteS.calls k1 _ _ (rd_L1 l0 x5_1) _ _ (rd_L1 l1 x5_1) false _ ?side1 ?side2 ?side3 ?side4 A7.out).mono ?_); (case side1 => repeat (first | exact HR160_0.out | (with_reducible refine Kd.C_alloc ?_ _) | (with_reducible refine Kd.C_drewN ?_ _) | (with_reducible refine Kd.C_drew ?_))); (case side2 => exact HC160_0.out); (case side3 => repeat (first | exact HR161_0.out | (with_reducible refine Kd.C_alloc ?_ _) | (with_reducible refine Kd.C_drewN ?_ _) | (with_reducible refine Kd.C_drew ?_))); (case side4 => exact HC161_0.out); rintro e w' ⟨rfl, ⟨nd, rfl⟩⟩; (try first | exact ⟨rfl, _, World.drewN_drewN _ _ _⟩ | exact ⟨rfl, _, Eq.trans (World.drewN_drewN _ _ _) (congrArg (World.drewN _) (Nat.add_assoc _ _ _))⟩)))
        repeat (go_quiet (first | (go_at_call 37; (with_reducible refine (laws_eqByteS.calls k1 _ _ (rd_L1 l0 x5_1) _ _ (rd_L1 l1 x5_1) false _ ?side1 ?side2 ?side3 ?side4 A7.out).mono ?_); (case side1 => repeat (first | exact HR160_0.out | (with_reducible refine Kd.C_alloc ?_ _) | (with_reducible refine Kd.C_drewN ?_ _) | (with_reducible refine Kd.C_drew ?_))); (case side2 => exact HC160_0.out); (case side3 => repeat (first | exact HR161_0.out | (with_reducible refine Kd.C_alloc ?_ _) | (with_reducible refine Kd.C_drewN ?_ _) | (with_reducible refine Kd.C_drew ?_))); (case side4 => exact HC161_0.out); rintro e w' ⟨rfl, ⟨nd, rfl⟩⟩; (try first | exact ⟨rfl, _, World.drewN_drewN _ _ _⟩ | exact ⟨rfl, _, Eq.trans (World.drewN_drewN _ _ _) (congrArg (World.drewN _) (Nat.add_assoc _ _ _))⟩))); try go_wp2_with (first | (go_at_call 37; (with_reducible refine (laws_eqByteS.calls k1 _ _ (rd_L1 l0 x5_1) _ _ (rd_L1 l1 x5_1) false _ ?side1 ?side2 ?side3 ?side4 A7.out).mono ?_); (case side1 => repeat (first | exact HR160_0.out | (with_reducible refine Kd.C_alloc ?_ _) | (with_reducible refine Kd.C_drewN ?_ _) | (with_reducible refine Kd.C_drew ?_))); (case side2 => exact HC160_0.out); (case side3 => repeat (first | exact HR161_0.out | (with_reducible refine Kd.C_alloc ?_ _) | (with_reducible refine Kd.C_drewN ?_ _) | (with_reducible refine Kd.C_drew ?_))); (case side4 => exact HC161_0.out); rintro e w' ⟨rfl, ⟨nd, rfl⟩⟩; (try first | exact ⟨rfl, _, World.drewN_drewN _ _ _⟩ | exact ⟨rfl, _, Eq.trans (World.drewN_drewN _ _ _) (congrArg (World.drewN _) (Nat.add_assoc _ _ _))⟩))))
        go_ret
        exact ⟨by first | rfl | (simp; done) | (simp [*]; done), by repeat (first | exact Drawn0.refl _ | apply Drawn0.step)⟩
      ·rw [if_neg c6] at H
       exact absurd H (by simp)
     ·rw [if_neg c5] at H
      exact absurd H (by simp)
    ·rw [if_neg c4] at H
     have c4b0 : decide (x5_1 < (l0.length : Int)) = false := decide_eq_false c4
     clear c4
     obtain rfl := Option.some.inj H
     go_wp2
     repeat (go_quiet (fail); try go_wp2)
     go_ret
     exact ⟨by first | rfl | (simp; done) | (simp [*]; done), by repeat (first | exact Drawn0.refl _ | apply Drawn0.step)⟩
 ·rw [if_neg c3] at H
  have c3b0 : ((l0.length : Int) == (l1.length : Int)) = false := beq_eq_false_iff_ne.mpr c3
  have c3b1 : ((l0.length : Int) != (l1.length : Int)) = true := bne_iff_ne.mpr c3
  have c3b2 : (l0.length == l1.length) = false := by first | simpa using c3 | (simp at c3 ⊢; omega)
  obtain rfl := Option.some.inj H
  go_enter Try.func58, Try.ntmps58
  go_wp2
  repeat (go_quiet (fail); try go_wp2)
  go_ret
  exact ⟨by first | rfl | (simp; done) | (simp [*]; done), by repeat (first | exact Drawn0.refl _ | apply Drawn0.step)⟩

open Go.Proofs.Ytldkbeccpheckaa.Cp
/-! ### laws_eqMemory: function 18 -/
def laws_eqMemory.f (k : Nat) (l0_0 : List (List Int)) (l1_0 : List (List Int)) : Option (Bool) := (laws_eqByteSS.f k l0_0 l1_0).bind fun t165 => (if t165 = true then (some true) else (some false))
theorem laws_eqMemory.mono : ∀ a0 a1 k, LeO (laws_eqMemory.f k a0 a1) (laws_eqMemory.f (k + 1) a0 a1) := by
 intro a0 a1 k
 unfold laws_eqMemory.f
 repeat' first
   | (with_reducible exact laws_eqByteSS.mono _ _ _)
   | (with_reducible exact LeO.refl _)
   | (with_reducible exact LeO.none _)
   | (with_reducible refine LeO.ite ?_ ?_)
   | (with_reducible refine LeO.bind ?_ (fun _ => ?_))
   | exact laws_eqByteSS.mono _ _ _
   | exact LeO.none _
   | refine LeO.ite ?_ ?_
   | refine LeO.bind ?_ (fun _ => ?_)
set_option maxHeartbeats 8000000 in
set_option maxRecDepth 100000 in
theorem laws_eqMemory.calls (k : Nat) (A0_0 : Option Addr) (c0_0 : Nat) (l0_0 : List (List Int)) (A1_0 : Option Addr) (c1_0 : Nat) (l1_0 : List (List Int)) (r : Bool) (w : World) (hr0_0 : Kd.C (Kd.slice 5 (Kd.int .u8)) w A0_0 l0_0.length l0_0) (hc0_0 : l0_0.length ≤ c0_0) (hr1_0 : Kd.C (Kd.slice 5 (Kd.int .u8)) w A1_0 l1_0.length l1_0) (hc1_0 : l1_0.length ≤ c1_0) (h : laws_eqMemory.f k l0_0 l1_0 = some r) :
  Calls Try.prog 18 #[.agg #[.slice A0_0 l0_0.length c0_0], .agg #[.slice A1_0 l1_0.length c1_0]] w fun e w' => e = .returned (.bool r) ∧ Below w.heap.size w w' := by
 have hu31 := Try.underlying31
 have HR0_0 := Aside0.mk hr0_0
 have HC0_0 := Aside0.mk hc0_0
 clear hr0_0 hc0_0
 have HR1_0 := Aside0.mk hr1_0
 have HC1_0 := Aside0.mk hc1_0
 clear hr1_0 hc1_0
 have HB := Aside0.mk (Below.refl w.heap.size w)
 have H : ((laws_eqByteSS.f k l0_0 l1_0).bind fun t165 => (if t165 = true then (some true) else (some false))) = some r := h
 clear h
 replace H := Option.bind_eq_some_iff.mp H
 obtain ⟨t165, A30, H⟩ := H
 replace H : (if t165 = true then (some true) else (some false)) = some r := H
 have A3 := Aside0.mk A30
 clear A30
 by_cases c4 : t165 = true
 ·subst c4
  have H1 : (some true) = some r := by rw [if_pos rfl] at H; exact H
  clear H
  have H := H1
  clear H1
  obtain rfl := Option.some.inj H
  go_enter Try.func18, Try.ntmps18
  go_wp2_with (first | ((with_reducible refine gate_dst (N := 2) rfl ?_); refine box_event ?hg (N := 2) ?hd (cs := #[.slice A0_0 l0_0.length c0_0]) (t := 31) ?hr ?_; (case hd => rfl); (case hg => rfl); (case hr => first | (go_simp; done) | (go_simp; rfl)); intro gb163 hg w5 hbox hb; have BK163 := Aside0.mk (hbox); have GW163 := zge HB hg; have GE163 := zge HB hg; replace HB := zhs HB hb; clear hb hbox hg) | ((with_reducible refine gate_dst (N := 3) rfl ?_); refine box_event ?hg (N := 3) ?hd (cs := #[.slice A1_0 l1_0.length c1_0]) (t := 31) ?hr ?_; (case hd => rfl); (case hg => rfl); (case hr => first | (go_simp; done) | (go_simp; rfl)); intro gb164 hg w6 hbox hb; have BK164 := Aside0.mk (hbox); have GW164 := zge HB hg; have GE164 := zge HB hg; have NB163_164 := znl BK163 hg; have NB164_163 := znr BK163 hg; replace BK163 := zb0 BK163 hb; replace HB := zhs HB hb; clear hb hbox hg; have hnb7 := NB163_164.out; have hnc7 := NB164_163.out; have hcz8_0 := zc0 BK163 0 rfl; have hfz8_0 := blk_frozen BK163.out 0; have hcz9_0 := zc0 BK164 0 rfl; have hfz9_0 := blk_frozen BK164.out 0) | ((with_reducible refine gate_callee (f := 58) rfl ?_); refine goesL_ (some 9) rfl rfl Try.func58 (by kernel_rfl) rfl #[.slice A0_0 l0_0.length c0_0, .slice A1_0 l1_0.length c1_0] rfl (by (try simp only [zq1, zq2, zq3]); first | done | rfl | (simp only [List.length_drop, List.length_take]; rfl)) ?_; (with_reducible refine (laws_eqByteSS.calls k _ _ l0_0 _ _ l1_0 true _ ?side1 ?side2 ?side3 ?side4 A3.out).mono ?_); (case side1 => exact Kd.C_below HR0_0.out (zh0 HB)); (case side2 => exact HC0_0.out); (case side3 => exact Kd.C_below HR1_0.out (zh0 HB)); (case side4 => exact HC1_0.out); rintro e w' ⟨rfl, ⟨nd, rfl⟩⟩; refine ⟨_, rfl, ?_⟩))
  go_ret
  exact ⟨by first | rfl | (simp <;> rfl) | (simp [*] <;> rfl), by repeat (first | exact zh0 HB | refine below_set ?_ GE163.out | refine below_set ?_ GE164.out)⟩
 ·replace c4 := Bool.eq_false_iff.mpr c4
  subst c4
  have H1 : (some false) = some r := by rw [if_neg (show ¬ (false = true) by decide)] at H; exact H
  clear H
  have H := H1
  clear H1
  obtain rfl := Option.some.inj H
  go_enter Try.func18, Try.ntmps18
  go_wp2_with (first | ((with_reducible refine gate_dst (N := 2) rfl ?_); refine box_event ?hg (N := 2) ?hd (cs := #[.slice A0_0 l0_0.length c0_0]) (t := 31) ?hr ?_; (case hd => rfl); (case hg => rfl); (case hr => first | (go_simp; done) | (go_simp; rfl)); intro gb163 hg w10 hbox hb; have BK163 := Aside0.mk (hbox); have GW163 := zge HB hg; have GE163 := zge HB hg; replace HB := zhs HB hb; clear hb hbox hg) | ((with_reducible refine gate_dst (N := 3) rfl ?_); refine box_event ?hg (N := 3) ?hd (cs := #[.slice A1_0 l1_0.length c1_0]) (t := 31) ?hr ?_; (case hd => rfl); (case hg => rfl); (case hr => first | (go_simp; done) | (go_simp; rfl)); intro gb164 hg w11 hbox hb; have BK164 := Aside0.mk (hbox); have GW164 := zge HB hg; have GE164 := zge HB hg; have NB163_164 := znl BK163 hg; have NB164_163 := znr BK163 hg; replace BK163 := zb0 BK163 hb; replace HB := zhs HB hb; clear hb hbox hg; have hnb12 := NB163_164.out; have hnc12 := NB164_163.out; have hcz13_0 := zc0 BK163 0 rfl; have hfz13_0 := blk_frozen BK163.out 0; have hcz14_0 := zc0 BK164 0 rfl; have hfz14_0 := blk_frozen BK164.out 0) | ((with_reducible refine gate_callee (f := 58) rfl ?_); refine goesL_ (some 9) rfl rfl Try.func58 (by kernel_rfl) rfl #[.slice A0_0 l0_0.length c0_0, .slice A1_0 l1_0.length c1_0] rfl (by (try simp only [zq1, zq2, zq3]); first | done | rfl | (simp only [List.length_drop, List.length_take]; rfl)) ?_; (with_reducible refine (laws_eqByteSS.calls k _ _ l0_0 _ _ l1_0 false _ ?side1 ?side2 ?side3 ?side4 A3.out).mono ?_); (case side1 => exact Kd.C_below HR0_0.out (zh0 HB)); (case side2 => exact HC0_0.out); (case side3 => exact Kd.C_below HR1_0.out (zh0 HB)); (case side4 => exact HC1_0.out); rintro e w' ⟨rfl, ⟨nd, rfl⟩⟩; refine ⟨_, rfl, ?_⟩))
  go_ret
  exact ⟨by first | rfl | (simp <;> rfl) | (simp [*] <;> rfl), by repeat (first | exact zh0 HB | refine below_set ?_ GE163.out | refine below_set ?_ GE164.out)⟩

/-! ### laws_FnExactKeyAt: function 3 (by hand) -/
def laws_FnExactKeyAt.f (k : Nat) (l0_0 : List (List Int)) (a1_0 : Int) (a1_1 : Int) (a1_2 : Int) (a1_3 : Int) (a2 : Int) : Option Bool := (laws_szMemory.f k l0_0 1048576).bind fun x1 => if x1 < 0 then some true else (laws_toMemory.f k l0_0).bind fun x3 => (laws_toWindow.f a1_0 a1_1 a1_2 a1_3).bind fun y_x6 => (spec_KeyAt.f k x3 (y_x6.1) (y_x6.2.1) (y_x6.2.2.1) (y_x6.2.2.2) a2).bind fun y_x11 => (impl_KeyAt.f k x3 (y_x6.1) (y_x6.2.1) (y_x6.2.2.1) (y_x6.2.2.2) a2).bind fun y_x17 => (laws_eqByteA16.f (y_x17.1) (y_x11.1)).bind fun x21 => (laws_eqMemory.f k x3 x3).bind fun x24 => if x21 = true ∧ x24 = true ∧ y_x17.2 = y_x11.2 then some true else none
theorem laws_FnExactKeyAt.mono : ∀ l0_0 a1_0 a1_1 a1_2 a1_3 a2 k, LeO (laws_FnExactKeyAt.f k l0_0 a1_0 a1_1 a1_2 a1_3 a2) (laws_FnExactKeyAt.f (k + 1) l0_0 a1_0 a1_1 a1_2 a1_3 a2) := by
  intro l0_0 a1_0 a1_1 a1_2 a1_3 a2 k
  unfold laws_FnExactKeyAt.f
  exact LeO.bind (by apply laws_szMemory.mono) (fun _ => LeO.ite (LeO.refl _) (LeO.bind (by apply laws_toMemory.mono) (fun _ => LeO.bind (LeO.refl _) (fun _ => LeO.bind (by apply spec_KeyAt.mono) (fun _ => LeO.bind (by apply impl_KeyAt.mono) (fun _ => LeO.bind (LeO.refl _) (fun _ => LeO.bind (by apply laws_eqMemory.mono) (fun _ => LeO.refl _))))))))
set_option maxHeartbeats 4000000 in
set_option maxRecDepth 100000 in
theorem laws_FnExactKeyAt.calls (k : Nat) (A0_0 : Option Addr) (c0_0 : Nat) (l0_0 : List (List Int)) (a1_0 : Int) (a1_1 : Int) (a1_2 : Int) (a1_3 : Int) (a2 : Int) (r : Bool) (w : World) (hr0_0 : Kd.C (Kd.slice 5 (Kd.int .u8)) w A0_0 l0_0.length l0_0) (hc0_0 : l0_0.length ≤ c0_0) (h : laws_FnExactKeyAt.f k l0_0 a1_0 a1_1 a1_2 a1_3 a2 = some r) :
    Calls Try.prog 3 #[.agg #[.slice A0_0 l0_0.length c0_0], .agg #[.int .i64 a1_0, .int .i64 a1_1, .int .i64 a1_2, .int .i64 a1_3], .int .i64 a2] w fun e w' => e = .returned (.bool r) ∧ Below w.heap.size w w' := by
  have HR0_0 := Lib.hid hr0_0
  have HC0_0 := Lib.hid hc0_0
  clear hr0_0 hc0_0
  obtain ⟨W0, hW⟩ : ∃ W, W = ((w.alloc (.cells #[.slice A0_0 l0_0.length c0_0] 24)).alloc (.cells #[.int .i64 a1_0, .int .i64 a1_1, .int .i64 a1_2, .int .i64 a1_3] 26)) := ⟨_, rfl⟩
  have HI : Hid (Lv.Inv w W0 [Lv.boxF (w.heap.size + 1) #[.int .i64 a1_0, .int .i64 a1_1, .int .i64 a1_2, .int .i64 a1_3] 26, Lv.boxF (w.heap.size) #[.slice A0_0 l0_0.length c0_0] 24]) := by
    subst hW
    have := (((Lv.Inv.refl w).box #[.slice A0_0 l0_0.length c0_0] 24).box #[.int .i64 a1_0, .int .i64 a1_1, .int .i64 a1_2, .int .i64 a1_3] 26)
    exact Lib.hid (by simpa using this)
  unfold laws_FnExactKeyAt.f at h
  replace h := Option.bind_eq_some_iff.mp h
  obtain ⟨x1, A2, h⟩ := h
  try dsimp only at h
  have HA2 := Lib.hid A2
  clear A2
  have HH := Lib.hid h
  clear h
  go_enter Try.func3, Try.ntmps3
  go_upto_region 1 with (fail)
  rw [← hW]
  clear hW
  go_upto_region 2 with (fail)
  refine Fl.startL [.take 0, .take 1, .one 2, .take 3] (by decide) HI.out ?_
  refine Fl.take (some 13) (v := .agg #[.slice A0_0 l0_0.length c0_0]) rfl rfl (Fl.ld 1 rfl (by rfl) _ _ rfl rfl Try.underlying24 rfl (by kernel_rfl)) ?_
  simp only [Act.put, Fl.z1, Fl.z2, Fl.z3]
  refine Fl.take (some 14) (v := .int .i64 1048576) rfl rfl (Or.inl ⟨by rfl, fun _ _ => by rfl⟩) ?_
  simp only [Act.put, Fl.z1, Fl.z2, Fl.z3]
  refine Fl.call (some 15) Try.func12 (by kernel_rfl) rfl #[.agg #[.slice A0_0 l0_0.length c0_0], .int .i64 1048576] rfl rfl rfl (by rfl) rfl (fun E W hE hi => ?_)
  refine (laws_szMemory.calls k _ _ l0_0 1048576 x1 W (Kd.C_below HR0_0.out hi.bel) HC0_0.out HA2.out).mono ?_
  rintro e W' ⟨rfl, hb⟩
  refine Fl.keep hi hb ?_
  clear hi hb hE
  simp only [Act.put, Fl.z1, Fl.z2, Fl.z3]
  refine Fl.take (some 7) (v := .int .i64 x1) rfl rfl (Or.inl ⟨by rfl, fun _ _ => by rfl⟩) ?_
  simp only [Act.put, Fl.z1, Fl.z2, Fl.z3]
  refine Fl.stop (fun W hi => ?_)
  replace HI := Lib.hid hi
  clear hi
  try clear hn_
  have h := HH.out
  clear HH
  by_cases hn : x1 < 0
  · rw [if_pos hn] at h
    obtain rfl := Option.some.inj h
    clear h
    have hn_ := decide_eq_true hn
    go_wp2
    go_ret
    exact ⟨rfl, HI.out.bel⟩
  rw [if_neg hn] at h
  have hn_ := decide_eq_false hn
  clear hn
  replace h := Option.bind_eq_some_iff.mp h
  obtain ⟨x3, A4, h⟩ := h
  try dsimp only at h
  have HA4 := Lib.hid A4
  clear A4
  replace h := Option.bind_eq_some_iff.mp h
  obtain ⟨⟨x6, x7, x8, x9⟩, A10, h⟩ := h
  try dsimp only at h
  have HA10 := Lib.hid A10
  clear A10
  replace h := Option.bind_eq_some_iff.mp h
  obtain ⟨⟨x11, x12⟩, A13, h⟩ := h
  try dsimp only at h
  have HA13 := Lib.hid A13
  clear A13
  replace h := Option.bind_eq_some_iff.mp h
  obtain ⟨⟨x17, x18⟩, A19, h⟩ := h
  try dsimp only at h
  have HA19 := Lib.hid A19
  clear A19
  replace h := Option.bind_eq_some_iff.mp h
  obtain ⟨x21, A22, h⟩ := h
  try dsimp only at h
  have HA22 := Lib.hid A22
  clear A22
  replace h := Option.bind_eq_some_iff.mp h
  obtain ⟨x24, A25, h⟩ := h
  try dsimp only at h
  have HA25 := Lib.hid A25
  clear A25
  obtain ⟨hc, rfl⟩ := Lv.of_if h
  clear h
  obtain ⟨rfl, rfl, rfl⟩ := hc
  go_upto_region 5 with (fail)
  refine Fl.start [([],[]),([0],[0]),([],[]),([2,1],[2]),([],[]),([1,3,4,3],[1,3,4]),([5],[5]),([6],[6]),([6],[6]),([],[]),([9,7,5,0,1,2,3,4,5,6,7,9],[7,9]),([8,10,0,1,2,3,4,5,6,7,8,9,10],[8])] [⟨9, 8, #[.int .u8 0, .int .u8 0, .int .u8 0, .int .u8 0, .int .u8 0, .int .u8 0, .int .u8 0, .int .u8 0, .int .u8 0, .int .u8 0, .int .u8 0, .int .u8 0, .int .u8 0, .int .u8 0, .int .u8 0, .int .u8 0], 28⟩] 11 [.take 0, .take 2, .take 4, .one 1, .one 3, .one 5, .take 6, .take 7, .take 8] [.one 10, .take 11] (by kernel_rfl) (by kernel_rfl) (by decide) (by decide) (by kernel_rfl) (by kernel_rfl) (Fl.mkc ⟨_, rfl, rfl, fun _ => rfl, fun e w => by go_simp⟩ Fl.mk0) HI.out ?_
  refine Fl.take (some 19) (v := .agg #[.slice A0_0 l0_0.length c0_0]) rfl rfl (Fl.ld 1 rfl (by rfl) _ _ rfl rfl Try.underlying24 rfl (by kernel_rfl)) ?_
  simp only [Act.put, Fl.z1, Fl.z2, Fl.z3]
  refine Fl.take (some 21) (v := .agg #[.int .i64 a1_0, .int .i64 a1_1, .int .i64 a1_2, .int .i64 a1_3]) rfl rfl (Fl.ld 0 rfl (by rfl) _ _ rfl rfl Try.underlying26 rfl (by kernel_rfl)) ?_
  simp only [Act.put, Fl.z1, Fl.z2, Fl.z3]
  refine Fl.take (some 23) (v := .int .i64 a2) rfl rfl (Or.inl ⟨by rfl, fun _ _ => by rfl⟩) ?_
  simp only [Act.put, Fl.z1, Fl.z2, Fl.z3]
  refine Fl.call (some 20) Try.func14 (by kernel_rfl) rfl #[.agg #[.slice A0_0 l0_0.length c0_0]] rfl rfl rfl (by rfl) rfl (fun E W hE hi => ?_)
  refine (laws_toMemory.calls k _ _ l0_0 x3 W (Kd.C_below HR0_0.out hi.bel) HC0_0.out HA4.out).mono ?_
  rintro e W' ⟨v, rfl, hr, hb⟩
  obtain ⟨Aq5, cq5, rfl⟩ := Kd.S_slice hr
  refine Fl.addS hi (Kd.S_mono hr (fun _ _ => trivial)) hb ?_
  clear hr
  clear hi hb hE
  simp only [Act.put, Fl.z1, Fl.z2, Fl.z3]
  refine Fl.call (some 22) Try.func15 (by kernel_rfl) rfl #[.agg #[.int .i64 a1_0, .int .i64 a1_1, .int .i64 a1_2, .int .i64 a1_3]] rfl rfl rfl (by rfl) rfl (fun E W hE hi => ?_)
  refine (laws_toWindow.calls a1_0 a1_1 a1_2 a1_3 x6 x7 x8 x9 W HA10.out).mono ?_
  rintro e W' ⟨rfl, hb⟩
  refine Fl.keep hi hb ?_
  clear hi hb hE
  simp only [Act.put, Fl.z1, Fl.z2, Fl.z3]
  refine Fl.call (some 24) Try.func13 (by kernel_rfl) rfl #[.agg #[.slice Aq5 x3.length cq5], .agg #[.int .i64 x6, .int .i64 x7, .int .i64 x8, .int .i64 x9], .int .i64 a2] rfl rfl rfl (by rfl) rfl (fun E W hE hi => ?_)
  refine (spec_KeyAt.calls k _ _ x3 x6 x7 x8 x9 a2 x11 x18 W (hi.cS 0 rfl) (hi.lS 0 rfl) HA13.out).mono ?_
  rintro e W' ⟨rfl, hb, hkx11⟩
  have HKx11 := Lib.hid hkx11
  clear hkx11
  refine Fl.keep hi hb ?_
  clear hi hb hE
  simp only [Act.put, Fl.z1, Fl.z2, Fl.z3]
  refine Fl.take (some 18) (v := .tuple #[.agg (Ky.bs x11), .bool x18]) rfl rfl (Or.inl ⟨by rfl, fun _ _ => by rfl⟩) ?_
  simp only [Act.put, Fl.z1, Fl.z2, Fl.z3]
  refine Fl.take (some 25) (v := .agg (Ky.bs x11)) rfl rfl (Or.inl ⟨by rfl, fun _ _ => by rfl⟩) ?_
  simp only [Act.put, Fl.z1, Fl.z2, Fl.z3]
  refine Fl.take (some 26) (v := .bool x18) rfl rfl (Or.inl ⟨by rfl, fun _ _ => by rfl⟩) ?_
  simp only [Act.put, Fl.z1, Fl.z2, Fl.z3]
  refine Fl.fin1 (fun b14 => ?_)
  simp only [Act.put, Fl.z1, Fl.z2, Fl.z3]
  refine Fl.store 1 (Ky.bs x11) rfl rfl rfl rfl _ _ _ rfl rfl rfl (by rfl) (Ky.size_key HKx11.out Ky.key0) (Ky.hKk HKx11.out) (Ky.bs_one _) ?_
  refine Fl.take (some 9) (v := .bool x18) rfl rfl (Or.inl ⟨by rfl, fun _ _ => by rfl⟩) ?_
  simp only [Act.put, Fl.z1, Fl.z2, Fl.z3]
  refine Fl.stopN (fun W hi => ?_)
  replace HI := Lib.hid hi
  clear hi
  try clear hn_
  go_upto_region 6 with (fail)
  refine Fl.startL [.take 0, .one 1, .one 2, .one 3] (by decide) HI.out ?_
  refine Fl.take (some 27) (v := .agg #[.slice A0_0 l0_0.length c0_0]) rfl rfl (Fl.ld 3 rfl (by rfl) _ _ rfl rfl Try.underlying24 rfl (by kernel_rfl)) ?_
  simp only [Act.put, Fl.z1, Fl.z2, Fl.z3]
  refine Fl.call (some 28) Try.func14 (by kernel_rfl) rfl #[.agg #[.slice A0_0 l0_0.length c0_0]] rfl rfl rfl (by rfl) rfl (fun E W hE hi => ?_)
  refine (laws_toMemory.calls k _ _ l0_0 x3 W (Kd.C_below HR0_0.out hi.bel) HC0_0.out HA4.out).mono ?_
  rintro e W' ⟨v, rfl, hr, hb⟩
  obtain ⟨Aq15, cq15, rfl⟩ := Kd.S_slice hr
  refine Fl.addS hi (Kd.S_mono hr (fun _ _ => trivial)) hb ?_
  clear hr
  clear hi hb hE
  simp only [Act.put, Fl.z1, Fl.z2, Fl.z3]
  refine Fl.var (N := 10) (cs := #[.slice none 0 0]) (t := 31) ⟨_, rfl, rfl, fun _ => rfl, fun e w => by go_simp⟩ (fun b16 => ?_)
  simp only [Act.put, Fl.z1, Fl.z2, Fl.z3]
  refine Fl.store 0 #[.slice Aq15 x3.length cq15] rfl rfl rfl rfl _ _ _ rfl rfl rfl (by rfl) rfl (by kernel_rfl) (by simp [Value.oneCell']) ?_
  refine Fl.stop (fun W hi => ?_)
  replace HI := Lib.hid hi
  clear hi
  try clear hn_
  go_upto_region 7 with (fail)
  refine Fl.start [([],[]),([],[]),([1],[1]),([],[]),([0,2,3,2],[0,2,3]),([4],[4]),([5],[5]),([5],[5]),([],[]),([8,6,4,0,1,2,3,4,5,6,8],[6,8]),([7,9,0,1,2,3,4,5,6,7,8,9],[7])] [⟨8, 11, #[.int .u8 0, .int .u8 0, .int .u8 0, .int .u8 0, .int .u8 0, .int .u8 0, .int .u8 0, .int .u8 0, .int .u8 0, .int .u8 0, .int .u8 0, .int .u8 0, .int .u8 0, .int .u8 0, .int .u8 0, .int .u8 0], 28⟩] 10 [.take 0, .take 1, .take 3, .one 2, .one 4, .take 5, .take 6, .take 7] [.one 9, .take 10] (by kernel_rfl) (by kernel_rfl) (by decide) (by decide) (by kernel_rfl) (by kernel_rfl) (Fl.mkc ⟨_, rfl, rfl, fun _ => rfl, fun e w => by go_simp⟩ Fl.mk0) HI.out ?_
  refine Fl.take (some 30) (v := .agg #[.slice Aq15 x3.length cq15]) rfl rfl (Fl.ld 0 rfl (by rfl) _ _ rfl rfl Try.underlying31 rfl (by kernel_rfl)) ?_
  simp only [Act.put, Fl.z1, Fl.z2, Fl.z3]
  refine Fl.take (some 31) (v := .agg #[.int .i64 a1_0, .int .i64 a1_1, .int .i64 a1_2, .int .i64 a1_3]) rfl rfl (Fl.ld 4 rfl (by rfl) _ _ rfl rfl Try.underlying26 rfl (by kernel_rfl)) ?_
  simp only [Act.put, Fl.z1, Fl.z2, Fl.z3]
  refine Fl.take (some 33) (v := .int .i64 a2) rfl rfl (Or.inl ⟨by rfl, fun _ _ => by rfl⟩) ?_
  simp only [Act.put, Fl.z1, Fl.z2, Fl.z3]
  refine Fl.call (some 32) Try.func15 (by kernel_rfl) rfl #[.agg #[.int .i64 a1_0, .int .i64 a1_1, .int .i64 a1_2, .int .i64 a1_3]] rfl rfl rfl (by rfl) rfl (fun E W hE hi => ?_)
  refine (laws_toWindow.calls a1_0 a1_1 a1_2 a1_3 x6 x7 x8 x9 W HA10.out).mono ?_
  rintro e W' ⟨rfl, hb⟩
  refine Fl.keep hi hb ?_
  clear hi hb hE
  simp only [Act.put, Fl.z1, Fl.z2, Fl.z3]
  refine Fl.call (some 34) Try.func16 (by kernel_rfl) rfl #[.agg #[.slice Aq15 x3.length cq15], .agg #[.int .i64 x6, .int .i64 x7, .int .i64 x8, .int .i64 x9], .int .i64 a2] rfl rfl rfl (by rfl) rfl (fun E W hE hi => ?_)
  refine (impl_KeyAt.calls k _ _ x3 x6 x7 x8 x9 a2 x17 x18 W ((hE _ (Fl.inv_drop hi)).cS 1 rfl) ((hE _ (Fl.inv_drop hi)).lS 1 rfl) HA19.out).mono ?_
  rintro e W' ⟨rfl, hb, hkx17⟩
  have HKx17 := Lib.hid hkx17
  clear hkx17
  refine Fl.keep hi hb ?_
  clear hi hb hE
  simp only [Act.put, Fl.z1, Fl.z2, Fl.z3]
  refine Fl.take (some 29) (v := .tuple #[.agg (Ky.bs x17), .bool x18]) rfl rfl (Or.inl ⟨by rfl, fun _ _ => by rfl⟩) ?_
  simp only [Act.put, Fl.z1, Fl.z2, Fl.z3]
  refine Fl.take (some 35) (v := .agg (Ky.bs x17)) rfl rfl (Or.inl ⟨by rfl, fun _ _ => by rfl⟩) ?_
  simp only [Act.put, Fl.z1, Fl.z2, Fl.z3]
  refine Fl.take (some 36) (v := .bool x18) rfl rfl (Or.inl ⟨by rfl, fun _ _ => by rfl⟩) ?_
  simp only [Act.put, Fl.z1, Fl.z2, Fl.z3]
  refine Fl.fin1 (fun b20 => ?_)
  simp only [Act.put, Fl.z1, Fl.z2, Fl.z3]
  refine Fl.store 0 (Ky.bs x17) rfl rfl rfl rfl _ _ _ rfl rfl rfl (by rfl) (Ky.size_key HKx17.out Ky.key0) (Ky.hKk HKx17.out) (Ky.bs_one _) ?_
  refine Fl.take (some 12) (v := .bool x18) rfl rfl (Or.inl ⟨by rfl, fun _ _ => by rfl⟩) ?_
  simp only [Act.put, Fl.z1, Fl.z2, Fl.z3]
  refine Fl.stopN (fun W hi => ?_)
  replace HI := Lib.hid hi
  clear hi
  try clear hn_
  go_upto_region 8 with (fail)
  refine Fl.startL [.take 0, .take 1, .one 2, .take 3, .take 4, .take 5, .take 6, .take 7, .take 8] (by decide) HI.out ?_
  refine Fl.take (some 37) (v := .agg (Ky.bs x17)) rfl rfl (Fl.ld 0 rfl (by rfl) _ _ rfl rfl Try.underlying28 rfl (Ky.hKk HKx17.out)) ?_
  simp only [Act.put, Fl.z1, Fl.z2, Fl.z3]
  refine Fl.take (some 38) (v := .agg (Ky.bs x11)) rfl rfl (Fl.ld 4 rfl (by rfl) _ _ rfl rfl Try.underlying28 rfl (Ky.hKk HKx11.out)) ?_
  simp only [Act.put, Fl.z1, Fl.z2, Fl.z3]
  refine Fl.call (some 39) Try.func17 (by kernel_rfl) rfl #[.agg (Ky.bs x17), .agg (Ky.bs x11)] rfl rfl rfl (by rfl) rfl (fun E W hE hi => ?_)
  refine (laws_eqByteA16.calls x17 x11 true W HKx17.out HKx11.out HA22.out).mono ?_
  rintro e W' ⟨rfl, hb⟩
  refine Fl.keep hi hb ?_
  clear hi hb hE
  simp only [Act.put, Fl.z1, Fl.z2, Fl.z3]
  refine Fl.take (some 40) (v := .bool false) rfl rfl (Or.inl ⟨by rfl, fun _ _ => by rfl⟩) ?_
  simp only [Act.put, Fl.z1, Fl.z2, Fl.z3]
  refine Fl.take (some 41) (v := .bool false) rfl rfl (Or.inl ⟨by rfl, fun _ _ => by rfl⟩) ?_
  simp only [Act.put, Fl.z1, Fl.z2, Fl.z3]
  refine Fl.take (some 42) (v := .bool x18) rfl rfl (Or.inl ⟨by rfl, fun _ _ => by rfl⟩) ?_
  simp only [Act.put, Fl.z1, Fl.z2, Fl.z3]
  refine Fl.take (some 43) (v := .bool x18) rfl rfl (Or.inl ⟨by rfl, fun _ _ => by rfl⟩) ?_
  simp only [Act.put, Fl.z1, Fl.z2, Fl.z3]
  refine Fl.take (some 44) (v := .bool false) rfl rfl (Or.inl ⟨by rfl, fun _ _ => by go_simp⟩) ?_
  simp only [Act.put, Fl.z1, Fl.z2, Fl.z3]
  refine Fl.take (some 45) (v := .bool false) rfl rfl (Or.inl ⟨by rfl, fun _ _ => by rfl⟩) ?_
  simp only [Act.put, Fl.z1, Fl.z2, Fl.z3]
  refine Fl.stop (fun W hi => ?_)
  replace HI := Lib.hid hi
  clear hi
  try clear hn_
  go_upto_region 10 with (fail)
  refine Fl.start [([],[]),([],[]),([1],[1]),([0,2,2],[0,2]),([3],[3])] [] 6 [.take 0, .take 1, .one 2, .one 3, .take 4] [] (by kernel_rfl) (by kernel_rfl) (by decide) (by decide) (by kernel_rfl) (by kernel_rfl) Fl.mk0 HI.out ?_
  refine Fl.take (some 46) (v := .agg #[.slice Aq15 x3.length cq15]) rfl rfl (Fl.ld 1 rfl (by rfl) _ _ rfl rfl Try.underlying31 rfl (by kernel_rfl)) ?_
  simp only [Act.put, Fl.z1, Fl.z2, Fl.z3]
  refine Fl.take (some 47) (v := .agg #[.slice A0_0 l0_0.length c0_0]) rfl rfl (Fl.ld 6 rfl (by rfl) _ _ rfl rfl Try.underlying24 rfl (by kernel_rfl)) ?_
  simp only [Act.put, Fl.z1, Fl.z2, Fl.z3]
  refine Fl.call (some 48) Try.func14 (by kernel_rfl) rfl #[.agg #[.slice A0_0 l0_0.length c0_0]] rfl rfl rfl (by rfl) rfl (fun E W hE hi => ?_)
  refine (laws_toMemory.calls k _ _ l0_0 x3 W (Kd.C_below HR0_0.out hi.bel) HC0_0.out HA4.out).mono ?_
  rintro e W' ⟨v, rfl, hr, hb⟩
  obtain ⟨Aq23, cq23, rfl⟩ := Kd.S_slice hr
  refine Fl.addS hi (Kd.S_mono hr (fun _ _ => trivial)) hb ?_
  clear hr
  clear hi hb hE
  simp only [Act.put, Fl.z1, Fl.z2, Fl.z3]
  refine Fl.call (some 49) Try.func18 (by kernel_rfl) rfl #[.agg #[.slice Aq15 x3.length cq15], .agg #[.slice Aq23 x3.length cq23]] rfl rfl rfl (by rfl) rfl (fun E W hE hi => ?_)
  refine (laws_eqMemory.calls k _ _ x3 _ _ x3 true W ((hE _ (Fl.inv_drop hi)).cS 2 rfl) ((hE _ (Fl.inv_drop hi)).lS 2 rfl) (hi.cS 0 rfl) (hi.lS 0 rfl) HA25.out).mono ?_
  rintro e W' ⟨rfl, hb⟩
  refine Fl.keep hi hb ?_
  clear hi hb hE
  simp only [Act.put, Fl.z1, Fl.z2, Fl.z3]
  refine Fl.take (some 50) (v := .bool false) rfl rfl (Or.inl ⟨by rfl, fun _ _ => by rfl⟩) ?_
  simp only [Act.put, Fl.z1, Fl.z2, Fl.z3]
  refine Fl.fin0 ?_
  refine Fl.stopN (fun W hi => ?_)
  replace HI := Lib.hid hi
  clear hi
  try clear hn_
  go_wp2
  go_ret
  exact ⟨rfl, HI.out.bel⟩

end Go.Proofs.Ytldkbeccpheckaa.PFnExactKeyAt
