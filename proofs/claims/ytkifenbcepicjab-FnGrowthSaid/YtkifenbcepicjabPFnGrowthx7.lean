/- What is proved here: each Go function that is named below answers, and leaves memory, as the theorem of its name says; no condition beyond those that each theorem states. Laid by this session's own program (wip/driver.py) over the kit's print. -/
import Derived.Test.YtkifenbcepicjabPFnGrowthx0
import Derived.Test.YtkifenbcepicjabPFnGrowthx1
import Derived.Test.YtkifenbcepicjabPFnGrowthx2
import Derived.Test.YtkifenbcepicjabPFnGrowthx4
import Derived.Test.YtkifenbcepicjabPFnGrowthx5
import Derived.Test.YtkifenbcepicjabPFnGrowthx6
namespace Go.Proofs.Ytkifenbcepicjab.PFnGrowth
open Go.RowKit Go.Proofs.YtkifenbcepicjabW.PrintWords Go.Proofs.YtkifenbcepicjabW.PrintLast Go.Proofs.YtkifenbcepicjabW.PrintMore
attribute [local go_sem] max2_int min2_int max_two min_two max_three min_three max_four min_four   -- for this text's walks alone
set_option linter.unusedVariables false
set_option linter.unusedSimpArgs false

/-! ### laws_FnGrowth: function 5 (by hand) -/
/-- The law's last loop. -/
def laws_FnGrowth.lp (lst caps : List Int) (mv cs : Int) : Nat → Nat → Int → Int → Int → Option Bool
  | 0, i, a, b, _ => if lst.length ≤ i then (if b = mv ∧ cs ≥ a then some true else none) else none
  | d + 1, i, a, b, c => if i < lst.length ∧ i < caps.length then (if ¬ rd caps (i : Int) < c ∧ ¬ rd caps (i : Int) < wrap64 (a + rd lst (i : Int)) then laws_FnGrowth.lp lst caps mv cs d (i + 1) (wrap64 (a + rd lst (i : Int))) (if rd caps (i : Int) > c then wrap64 (b + 1) else b) (rd caps (i : Int)) else none) else none
def laws_FnGrowth.f (k : Nat) (l0 : List Int) : Option Bool := (laws_rBig.f l0).bind fun t => if t = true then some true else (spec_DrawCapsOf.f k l0).bind fun d => (impl_CapsOf.f d.1 d.2.1 d.2.2.1 d.2.2.2).bind fun c => (spec_CapsOf.f k d.1 d.2.1 d.2.2.1 d.2.2.2).bind fun c2 => (laws_rInts.f k c.1 c2.1).bind fun t2 => (impl_MovesOf.f d.1 d.2.1 d.2.2.1 d.2.2.2).bind fun m => (spec_MovesOf.f k d.1 d.2.1 d.2.2.1 d.2.2.2).bind fun m2 => (impl_CostOf.f d.1 d.2.1 d.2.2.1 d.2.2.2).bind fun e => (spec_CostOf.f k d.1 d.2.1 d.2.2.1 d.2.2.2).bind fun e2 => (impl_WorstWaste.f d.1 d.2.1 d.2.2.1 d.2.2.2).bind fun u => (spec_WorstWaste.f k d.1 d.2.1 d.2.2.1 d.2.2.2).bind fun u2 => (spec_DrawSingleCost.f l0).bind fun q => (impl_SingleCost.f q.1 q.2.1 q.2.2.1 q.2.2.2).bind fun s => (spec_SingleCost.f k q.1 q.2.1 q.2.2.1 q.2.2.2).bind fun s2 => (impl_SingleMoves.f q.1 q.2.1 q.2.2.1 q.2.2.2).bind fun o => (spec_SingleMoves.f k q.1 q.2.1 q.2.2.1 q.2.2.2).bind fun o2 => (impl_GrowsFast.f q.1 q.2.1 q.2.2.1).bind fun x => (spec_GrowsFast.f q.1 q.2.1 q.2.2.1).bind fun x2 => (impl_IsGrowRule.f q.1 q.2.1 q.2.2.1).bind fun y => (spec_DrawNextCap.f l0).bind fun n => (impl_NextCap.f n.1 n.2.1 n.2.2.1 n.2.2.2.1 n.2.2.2.2.1 n.2.2.2.2.2).bind fun v => (spec_NextCap.f k n.1 n.2.1 n.2.2.1 n.2.2.2.1 n.2.2.2.2.1 n.2.2.2.2.2).bind fun v2 => if c.2 = c2.2 ∧ true = t2 ∧ m = m2 ∧ c.2 = m.2 ∧ e = e2 ∧ c.2 = e.2 ∧ u = u2 ∧ c.2 = u.2 ∧ s = s2 ∧ o = o2 ∧ s.2 = o.2 ∧ x = x2 ∧ x.2 = y ∧ v = v2 ∧ (v.2 = true → ¬ v.1 < wrap64 (n.2.2.2.1 + n.2.2.2.2.2) ∧ ¬ v.1 < wrap64 (n.2.2.2.1 + n.2.2.2.2.1)) ∧ (s.2 = true → ¬ s.1 < q.2.2.2 ∧ ¬ o.1 > q.2.2.2 ∧ (q.1 ≥ wrap64 (2 * q.2.1) → ¬ s.1 > wrap64 (3 * q.2.2.2))) then (if c.2 = true then laws_FnGrowth.lp d.2.2.2 c.1 m.1 e.1 d.2.2.2.length 0 0 0 0 else some true) else none
theorem laws_FnGrowth.mono : ∀ l0 k, LeO (laws_FnGrowth.f k l0) (laws_FnGrowth.f (k + 1) l0) := by
  intro l0 k
  unfold laws_FnGrowth.f
  exact LeO.bind (LeO.refl _) (fun _ => LeO.ite (LeO.refl _) (LeO.bind (by apply spec_DrawCapsOf.mono) (fun _ => LeO.bind (LeO.refl _) (fun _ => LeO.bind (by apply spec_CapsOf.mono) (fun _ => LeO.bind (by apply laws_rInts.mono) (fun _ => LeO.bind (LeO.refl _) (fun _ => LeO.bind (by apply spec_MovesOf.mono) (fun _ => LeO.bind (LeO.refl _) (fun _ => LeO.bind (by apply spec_CostOf.mono) (fun _ => LeO.bind (LeO.refl _) (fun _ => LeO.bind (by apply spec_WorstWaste.mono) (fun _ => LeO.bind (LeO.refl _) (fun _ => LeO.bind (LeO.refl _) (fun _ => LeO.bind (by apply spec_SingleCost.mono) (fun _ => LeO.bind (LeO.refl _) (fun _ => LeO.bind (by apply spec_SingleMoves.mono) (fun _ => LeO.bind (LeO.refl _) (fun _ => LeO.bind (LeO.refl _) (fun _ => LeO.bind (LeO.refl _) (fun _ => LeO.bind (LeO.refl _) (fun _ => LeO.bind (LeO.refl _) (fun _ => LeO.bind (by apply spec_NextCap.mono) (fun _ => LeO.refl _)))))))))))))))))))))))
theorem laws_FnGrowth.addr {W : World} {A : Option Addr} {n : Nat} {xs : List Int} (h : Kd.C (Kd.int .i64) W A n xs) (hp : 0 < n) : ∃ b o, A = some ⟨b, o, none⟩ := by
  obtain ⟨b, o, hA, _⟩ := Lx.row_cells (d := Kd.int .i64) (f := fun x : Int => [.int .i64 x]) (fun _ _ _ h => h) (fun _ => by simp) h hp
  exact ⟨b, o, hA⟩
theorem laws_FnGrowth.cellR {W : World} {b o : Nat} {n : Nat} {xs : List Int} (h : Kd.C (Kd.int .i64) W (some ⟨b, o, none⟩) n xs) (i : Nat) (x : Int) (hx : xs[i]? = some x) (hn : i < n) : W.cell? ⟨b, o + i, none⟩ = some (.int .i64 x) := by
  obtain ⟨b2, o2, hA, hrow⟩ := Lx.row_cells (d := Kd.int .i64) (f := fun x : Int => [.int .i64 x]) (fun _ _ _ h => h) (fun _ => by simp) h (by omega)
  injection hA with hA
  injection hA with h1 h2
  subst h1 h2
  have h3 := hrow i x hx 0 (.int .i64 x) rfl
  have hs : (Kd.int .i64).sz = 1 := rfl
  rw [hs, Nat.mul_one, Nat.add_zero] at h3
  exact h3
set_option maxHeartbeats 4000000 in
set_option maxRecDepth 100000 in
theorem laws_FnGrowth.calls (k : Nat) (A0 : Option Addr) (c0 : Nat) (l0 : List Int) (r : Bool) (w : World) (hr0 : Kd.C (Kd.int .u8) w A0 l0.length l0) (hc0 : l0.length ≤ c0) (h : laws_FnGrowth.f k l0 = some r) :
    Calls Try.prog 5 #[.slice A0 l0.length c0] w fun e w' => e = .returned (.bool r) ∧ Below w.heap.size w w' := by
  have HR0 := Lib.hid hr0
  have HC0 := Lib.hid hc0
  clear hr0 hc0
  unfold laws_FnGrowth.f at h
  obtain ⟨t, ht, h⟩ := Option.bind_eq_some_iff.mp h
  have HT := Lib.hid ht
  clear ht
  have HI : Hid (Lv.Inv w w []) := Lib.hid (Lv.Inv.refl w)
  cases t with
  | true =>
    rw [if_pos rfl] at h
    obtain rfl := Option.some.inj h
    clear h
    go_enter Try.func5, Try.ntmps5
    go_upto_region 1 with (fail)
    refine Fl.startL [.take 0, .one 1] (by decide) HI.out ?_
    refine Fl.take (some 47) (v := .slice A0 l0.length c0) rfl rfl (Or.inl ⟨by rfl, fun _ _ => by rfl⟩) ?_
    simp only [Act.put, Fl.z1, Fl.z2, Fl.z3]
    refine Fl.call (some 48) Try.func25 (by kernel_rfl) rfl #[.slice A0 l0.length c0] rfl rfl rfl (by rfl) rfl (fun E2 W2 hE2 hi => ?_)
    refine (laws_rBig.calls A0 c0 l0 true W2 (Kd.C_below HR0.out hi.bel) HC0.out HT.out).mono ?_
    rintro e W' ⟨rfl, hb⟩
    refine Fl.keep (v := .bool true) hi hb.below ?_
    clear hi hb hE2
    simp only [Act.put, Fl.z1, Fl.z2, Fl.z3]
    refine Fl.stop (fun W hi => ?_)
    replace HI := Lib.hid hi
    clear hi
    go_wp2
    go_ret
    exact ⟨rfl, HI.out.bel⟩
  | false =>
    rw [if_neg (by decide)] at h
    obtain ⟨⟨g1, g2, g3, lst⟩, h_d, h⟩ := Option.bind_eq_some_iff.mp h
    try dsimp only at h
    obtain ⟨⟨caps, ok⟩, h_c, h⟩ := Option.bind_eq_some_iff.mp h
    try dsimp only at h_c h
    obtain ⟨⟨caps2, ok2⟩, h_c2, h⟩ := Option.bind_eq_some_iff.mp h
    try dsimp only at h_c2 h
    obtain ⟨t2, h_t2, h⟩ := Option.bind_eq_some_iff.mp h
    try dsimp only at h_t2 h
    obtain ⟨⟨mv, okm⟩, h_m, h⟩ := Option.bind_eq_some_iff.mp h
    try dsimp only at h_m h
    obtain ⟨m2, h_m2, h⟩ := Option.bind_eq_some_iff.mp h
    try dsimp only at h_m2 h
    obtain ⟨⟨cs, oke⟩, h_e, h⟩ := Option.bind_eq_some_iff.mp h
    try dsimp only at h_e h
    obtain ⟨e2, h_e2, h⟩ := Option.bind_eq_some_iff.mp h
    try dsimp only at h_e2 h
    obtain ⟨⟨wa, oku⟩, h_u, h⟩ := Option.bind_eq_some_iff.mp h
    try dsimp only at h_u h
    obtain ⟨u2, h_u2, h⟩ := Option.bind_eq_some_iff.mp h
    try dsimp only at h_u2 h
    obtain ⟨⟨q1, q2, q3, k1⟩, h_q, h⟩ := Option.bind_eq_some_iff.mp h
    try dsimp only at h
    obtain ⟨⟨sc, so⟩, h_s, h⟩ := Option.bind_eq_some_iff.mp h
    try dsimp only at h_s h
    obtain ⟨s2, h_s2, h⟩ := Option.bind_eq_some_iff.mp h
    try dsimp only at h_s2 h
    obtain ⟨⟨sm, soo⟩, h_o, h⟩ := Option.bind_eq_some_iff.mp h
    try dsimp only at h_o h
    obtain ⟨o2, h_o2, h⟩ := Option.bind_eq_some_iff.mp h
    try dsimp only at h_o2 h
    obtain ⟨⟨xa, xb⟩, h_x, h⟩ := Option.bind_eq_some_iff.mp h
    try dsimp only at h_x h
    obtain ⟨x2, h_x2, h⟩ := Option.bind_eq_some_iff.mp h
    try dsimp only at h_x2 h
    obtain ⟨y, h_y, h⟩ := Option.bind_eq_some_iff.mp h
    try dsimp only at h_y h
    obtain ⟨⟨n1, n2, n3, m1, m2_, m3⟩, h_n, h⟩ := Option.bind_eq_some_iff.mp h
    try dsimp only at h
    obtain ⟨⟨nv, nk⟩, h_v, h⟩ := Option.bind_eq_some_iff.mp h
    try dsimp only at h_v h
    obtain ⟨v2, h_v2, h⟩ := Option.bind_eq_some_iff.mp h
    try dsimp only at h_v2 h
    obtain ⟨hc, hfin⟩ := Lx.of_condO h
    clear h
    obtain ⟨rfl, rfl, rfl, rfl, rfl, rfl, rfl, rfl, rfl, rfl, rfl, rfl, rfl, rfl, hc1, hc2⟩ := hc
    have HC1 := Lib.hid hc1
    have HC2 := Lib.hid hc2
    have HL := Lib.hid hfin
    have H_d := Lib.hid h_d
    have H_c := Lib.hid h_c
    have H_c2 := Lib.hid h_c2
    have H_t2 := Lib.hid h_t2
    have H_m := Lib.hid h_m
    have H_m2 := Lib.hid h_m2
    have H_e := Lib.hid h_e
    have H_e2 := Lib.hid h_e2
    have H_u := Lib.hid h_u
    have H_u2 := Lib.hid h_u2
    have H_q := Lib.hid h_q
    have H_s := Lib.hid h_s
    have H_s2 := Lib.hid h_s2
    have H_o := Lib.hid h_o
    have H_o2 := Lib.hid h_o2
    have H_x := Lib.hid h_x
    have H_x2 := Lib.hid h_x2
    have H_y := Lib.hid h_y
    have H_n := Lib.hid h_n
    have H_v := Lib.hid h_v
    have H_v2 := Lib.hid h_v2
    clear hfin hc1 hc2 h_d h_c h_c2 h_t2 h_m h_m2 h_e h_e2 h_u h_u2 h_q h_s h_s2 h_o h_o2 h_x h_x2 h_y h_n h_v h_v2
    go_enter Try.func5, Try.ntmps5
    go_upto_region 1 with (fail)
    refine Fl.startL [.take 0, .one 1] (by decide) HI.out ?_
    refine Fl.take (some 47) (v := .slice A0 l0.length c0) rfl rfl (Or.inl ⟨by rfl, fun _ _ => by rfl⟩) ?_
    simp only [Act.put, Fl.z1, Fl.z2, Fl.z3]
    refine Fl.call (some 48) Try.func25 (by kernel_rfl) rfl #[.slice A0 l0.length c0] rfl rfl rfl (by rfl) rfl (fun E2 W2 hE2 hi => ?_)
    refine (laws_rBig.calls A0 c0 l0 false W2 (Kd.C_below HR0.out hi.bel) HC0.out HT.out).mono ?_
    rintro e W' ⟨rfl, hb⟩
    refine Fl.keep (v := .bool false) hi hb.below ?_
    clear hi hb hE2
    simp only [Act.put, Fl.z1, Fl.z2, Fl.z3]
    refine Fl.stop (fun W hi => ?_)
    replace HI := Lib.hid hi
    clear hi
    go_upto_region 3 with (fail)
    refine Fl.startL [.take 0, .one 1, .take 2, .take 3, .take 4, .one 5, .one 6, .take 7] (by decide) HI.out ?_
    refine Fl.take (some 50) (v := .slice A0 l0.length c0) rfl rfl (Or.inl ⟨by rfl, fun _ _ => by rfl⟩) ?_
    simp only [Act.put, Fl.z1, Fl.z2, Fl.z3]
    refine Fl.call (some 51) Try.func26 (by kernel_rfl) rfl #[.slice A0 l0.length c0] rfl rfl rfl (by rfl) rfl (fun E2 W2 hE2 hi => ?_)
    refine (spec_DrawCapsOf.calls k A0 c0 l0 g1 g2 g3 lst W2 (Kd.C_below HR0.out hi.bel) HC0.out H_d.out).mono ?_
    rintro e W' ⟨v0, rfl, hr, hb⟩
    obtain ⟨A1, c1, rfl⟩ := Kd.R_slice hr
    refine Fl.addR hi hr hb ?_
    clear hr
    clear hi hb hE2
    simp only [Act.put, Fl.z1, Fl.z2, Fl.z3]
    refine Fl.take (some 49) (v := .tuple #[.agg #[.int .i64 g1, .int .i64 g2, .int .i64 g3], .slice A1 lst.length c1]) rfl rfl (Or.inl ⟨by rfl, fun _ _ => by rfl⟩) ?_
    simp only [Act.put, Fl.z1, Fl.z2, Fl.z3]
    refine Fl.take (some 52) (v := .agg #[.int .i64 g1, .int .i64 g2, .int .i64 g3]) rfl rfl (Or.inl ⟨by rfl, fun _ _ => by rfl⟩) ?_
    simp only [Act.put, Fl.z1, Fl.z2, Fl.z3]
    refine Fl.take (some 53) (v := .slice A1 lst.length c1) rfl rfl (Or.inl ⟨by rfl, fun _ _ => by rfl⟩) ?_
    simp only [Act.put, Fl.z1, Fl.z2, Fl.z3]
    refine Fl.var (N := 3) (cs := #[.int .i64 0, .int .i64 0, .int .i64 0]) (t := 60) ⟨_, rfl, rfl, fun _ => rfl, fun e w => by first | (go_simp; done) | (go_simp; rfl)⟩ (fun gA => ?_)
    simp only [Act.put, Fl.z1, Fl.z2, Fl.z3]
    refine Fl.store 0 #[.int .i64 g1, .int .i64 g2, .int .i64 g3] rfl rfl rfl rfl _ _ _ rfl rfl rfl (by rfl) rfl (by kernel_rfl) (by simp [Value.oneCell']) ?_
    refine Fl.take (some 4) (v := .slice A1 lst.length c1) rfl rfl (Or.inl ⟨by rfl, fun _ _ => by rfl⟩) ?_
    simp only [Act.put, Fl.z1, Fl.z2, Fl.z3]
    refine Fl.stop (fun W hi => ?_)
    replace HI := Lib.hid hi
    clear hi
    go_upto_region 4 with (fail)
    refine Fl.startL [.take 0, .take 1, .one 2, .take 3, .take 4, .take 5, .take 6, .take 7] (by decide) HI.out ?_
    refine Fl.take (some 55) (v := .agg #[.int .i64 g1, .int .i64 g2, .int .i64 g3]) rfl rfl (Fl.ld 0 rfl (by rfl) _ _ rfl rfl Try.underlying60 rfl (by kernel_rfl)) ?_
    simp only [Act.put, Fl.z1, Fl.z2, Fl.z3]
    refine Fl.take (some 56) (v := .slice A1 lst.length c1) rfl rfl (Or.inl ⟨by rfl, fun _ _ => by rfl⟩) ?_
    simp only [Act.put, Fl.z1, Fl.z2, Fl.z3]
    refine Fl.call (some 57) Try.func27 (by kernel_rfl) rfl #[.agg #[.int .i64 g1, .int .i64 g2, .int .i64 g3], .slice A1 lst.length c1] rfl rfl rfl (by rfl) rfl (fun E2 W2 hE2 hi => ?_)
    refine (impl_CapsOf.calls g1 g2 g3 A1 c1 lst caps ok W2 ((hE2 _ (Fl.inv_drop hi)).cR 1 rfl) ((hE2 _ (Fl.inv_drop hi)).lR 1 rfl) H_c.out).mono ?_
    rintro e W' ⟨v0, rfl, hr, hb⟩
    obtain ⟨A2, c2, rfl⟩ := Kd.R_slice hr
    refine Fl.addR hi hr hb ?_
    clear hr
    clear hi hb hE2
    simp only [Act.put, Fl.z1, Fl.z2, Fl.z3]
    refine Fl.take (some 54) (v := .tuple #[.slice A2 caps.length c2, .bool ok]) rfl rfl (Or.inl ⟨by rfl, fun _ _ => by rfl⟩) ?_
    simp only [Act.put, Fl.z1, Fl.z2, Fl.z3]
    refine Fl.take (some 58) (v := .slice A2 caps.length c2) rfl rfl (Or.inl ⟨by rfl, fun _ _ => by rfl⟩) ?_
    simp only [Act.put, Fl.z1, Fl.z2, Fl.z3]
    refine Fl.take (some 59) (v := .bool ok) rfl rfl (Or.inl ⟨by rfl, fun _ _ => by rfl⟩) ?_
    simp only [Act.put, Fl.z1, Fl.z2, Fl.z3]
    refine Fl.take (some 5) (v := .slice A2 caps.length c2) rfl rfl (Or.inl ⟨by rfl, fun _ _ => by rfl⟩) ?_
    simp only [Act.put, Fl.z1, Fl.z2, Fl.z3]
    refine Fl.take (some 6) (v := .bool ok) rfl rfl (Or.inl ⟨by rfl, fun _ _ => by rfl⟩) ?_
    simp only [Act.put, Fl.z1, Fl.z2, Fl.z3]
    refine Fl.stop (fun W hi => ?_)
    replace HI := Lib.hid hi
    clear hi
    go_upto_region 5 with (fail)
    refine Fl.startL [.take 0, .take 1, .one 2, .take 3, .take 4, .take 5, .take 6, .take 7] (by decide) HI.out ?_
    refine Fl.take (some 61) (v := .agg #[.int .i64 g1, .int .i64 g2, .int .i64 g3]) rfl rfl (Fl.ld 1 rfl (by rfl) _ _ rfl rfl Try.underlying60 rfl (by kernel_rfl)) ?_
    simp only [Act.put, Fl.z1, Fl.z2, Fl.z3]
    refine Fl.take (some 62) (v := .slice A1 lst.length c1) rfl rfl (Or.inl ⟨by rfl, fun _ _ => by rfl⟩) ?_
    simp only [Act.put, Fl.z1, Fl.z2, Fl.z3]
    refine Fl.call (some 63) Try.func28 (by kernel_rfl) rfl #[.agg #[.int .i64 g1, .int .i64 g2, .int .i64 g3], .slice A1 lst.length c1] rfl rfl rfl (by rfl) rfl (fun E2 W2 hE2 hi => ?_)
    refine (spec_CapsOf.calls k g1 g2 g3 A1 c1 lst caps2 ok W2 ((hE2 _ (Fl.inv_drop hi)).cR 2 rfl) ((hE2 _ (Fl.inv_drop hi)).lR 2 rfl) H_c2.out).mono ?_
    rintro e W' ⟨v0, rfl, hr, hb⟩
    obtain ⟨A3, c3, rfl⟩ := Kd.R_slice hr
    refine Fl.addR hi hr hb ?_
    clear hr
    clear hi hb hE2
    simp only [Act.put, Fl.z1, Fl.z2, Fl.z3]
    refine Fl.take (some 60) (v := .tuple #[.slice A3 caps2.length c3, .bool ok]) rfl rfl (Or.inl ⟨by rfl, fun _ _ => by rfl⟩) ?_
    simp only [Act.put, Fl.z1, Fl.z2, Fl.z3]
    refine Fl.take (some 64) (v := .slice A3 caps2.length c3) rfl rfl (Or.inl ⟨by rfl, fun _ _ => by rfl⟩) ?_
    simp only [Act.put, Fl.z1, Fl.z2, Fl.z3]
    refine Fl.take (some 65) (v := .bool ok) rfl rfl (Or.inl ⟨by rfl, fun _ _ => by rfl⟩) ?_
    simp only [Act.put, Fl.z1, Fl.z2, Fl.z3]
    refine Fl.take (some 7) (v := .slice A3 caps2.length c3) rfl rfl (Or.inl ⟨by rfl, fun _ _ => by rfl⟩) ?_
    simp only [Act.put, Fl.z1, Fl.z2, Fl.z3]
    refine Fl.take (some 8) (v := .bool ok) rfl rfl (Or.inl ⟨by rfl, fun _ _ => by rfl⟩) ?_
    simp only [Act.put, Fl.z1, Fl.z2, Fl.z3]
    refine Fl.stop (fun W hi => ?_)
    replace HI := Lib.hid hi
    clear hi
    go_upto_region 6 with (fail)
    refine Fl.startL [.take 0, .take 1, .take 2, .take 3, .take 4, .take 5, .one 6, .take 7, .take 8] (by decide) HI.out ?_
    refine Fl.take (some 66) (v := .bool ok) rfl rfl (Or.inl ⟨by rfl, fun _ _ => by rfl⟩) ?_
    simp only [Act.put, Fl.z1, Fl.z2, Fl.z3]
    refine Fl.take (some 67) (v := .bool ok) rfl rfl (Or.inl ⟨by rfl, fun _ _ => by rfl⟩) ?_
    simp only [Act.put, Fl.z1, Fl.z2, Fl.z3]
    refine Fl.take (some 68) (v := .bool false) rfl rfl (Or.inl ⟨by rfl, fun _ _ => by first | rfl | (go_simp; done) | (go_simp; rfl) | (go_simp; simp)⟩) ?_
    simp only [Act.put, Fl.z1, Fl.z2, Fl.z3]
    refine Fl.take (some 69) (v := .bool false) rfl rfl (Or.inl ⟨by rfl, fun _ _ => by rfl⟩) ?_
    simp only [Act.put, Fl.z1, Fl.z2, Fl.z3]
    refine Fl.take (some 70) (v := .slice A2 caps.length c2) rfl rfl (Or.inl ⟨by rfl, fun _ _ => by rfl⟩) ?_
    simp only [Act.put, Fl.z1, Fl.z2, Fl.z3]
    refine Fl.take (some 71) (v := .slice A3 caps2.length c3) rfl rfl (Or.inl ⟨by rfl, fun _ _ => by rfl⟩) ?_
    simp only [Act.put, Fl.z1, Fl.z2, Fl.z3]
    refine Fl.call (some 72) Try.func29 (by kernel_rfl) rfl #[.slice A2 caps.length c2, .slice A3 caps2.length c3] rfl rfl rfl (by rfl) rfl (fun E2 W2 hE2 hi => ?_)
    refine (laws_rInts.calls k A2 c2 caps A3 c3 caps2 true W2 ((hE2 _ (Fl.inv_drop hi)).cR 1 rfl) ((hE2 _ (Fl.inv_drop hi)).lR 1 rfl) ((hE2 _ (Fl.inv_drop hi)).cR 0 rfl) ((hE2 _ (Fl.inv_drop hi)).lR 0 rfl) H_t2.out).mono ?_
    rintro e W' ⟨rfl, hb⟩
    refine Fl.keep (v := .bool true) hi hb.below ?_
    clear hi hb hE2
    simp only [Act.put, Fl.z1, Fl.z2, Fl.z3]
    refine Fl.take (some 73) (v := .bool false) rfl rfl (Or.inl ⟨by rfl, fun _ _ => by rfl⟩) ?_
    simp only [Act.put, Fl.z1, Fl.z2, Fl.z3]
    refine Fl.take (some 74) (v := .bool false) rfl rfl (Or.inl ⟨by rfl, fun _ _ => by rfl⟩) ?_
    simp only [Act.put, Fl.z1, Fl.z2, Fl.z3]
    refine Fl.stop (fun W hi => ?_)
    replace HI := Lib.hid hi
    clear hi
    go_upto_region 8 with (fail)
    refine Fl.startL [.take 0, .take 1, .one 2, .take 3, .take 4, .take 5, .take 6, .take 7] (by decide) HI.out ?_
    refine Fl.take (some 76) (v := .agg #[.int .i64 g1, .int .i64 g2, .int .i64 g3]) rfl rfl (Fl.ld 2 rfl (by rfl) _ _ rfl rfl Try.underlying60 rfl (by kernel_rfl)) ?_
    simp only [Act.put, Fl.z1, Fl.z2, Fl.z3]
    refine Fl.take (some 77) (v := .slice A1 lst.length c1) rfl rfl (Or.inl ⟨by rfl, fun _ _ => by rfl⟩) ?_
    simp only [Act.put, Fl.z1, Fl.z2, Fl.z3]
    refine Fl.call (some 78) Try.func30 (by kernel_rfl) rfl #[.agg #[.int .i64 g1, .int .i64 g2, .int .i64 g3], .slice A1 lst.length c1] rfl rfl rfl (by rfl) rfl (fun E2 W2 hE2 hi => ?_)
    refine (impl_MovesOf.calls g1 g2 g3 A1 c1 lst mv ok W2 ((hE2 _ (Fl.inv_drop hi)).cR 3 rfl) ((hE2 _ (Fl.inv_drop hi)).lR 3 rfl) H_m.out).mono ?_
    rintro e W' ⟨rfl, hb⟩
    refine Fl.keep (v := .tuple #[.int .i64 mv, .bool ok]) hi hb ?_
    clear hi hb hE2
    simp only [Act.put, Fl.z1, Fl.z2, Fl.z3]
    refine Fl.take (some 75) (v := .tuple #[.int .i64 mv, .bool ok]) rfl rfl (Or.inl ⟨by rfl, fun _ _ => by rfl⟩) ?_
    simp only [Act.put, Fl.z1, Fl.z2, Fl.z3]
    refine Fl.take (some 79) (v := .int .i64 mv) rfl rfl (Or.inl ⟨by rfl, fun _ _ => by rfl⟩) ?_
    simp only [Act.put, Fl.z1, Fl.z2, Fl.z3]
    refine Fl.take (some 80) (v := .bool ok) rfl rfl (Or.inl ⟨by rfl, fun _ _ => by rfl⟩) ?_
    simp only [Act.put, Fl.z1, Fl.z2, Fl.z3]
    refine Fl.take (some 9) (v := .int .i64 mv) rfl rfl (Or.inl ⟨by rfl, fun _ _ => by rfl⟩) ?_
    simp only [Act.put, Fl.z1, Fl.z2, Fl.z3]
    refine Fl.take (some 10) (v := .bool ok) rfl rfl (Or.inl ⟨by rfl, fun _ _ => by rfl⟩) ?_
    simp only [Act.put, Fl.z1, Fl.z2, Fl.z3]
    refine Fl.stop (fun W hi => ?_)
    replace HI := Lib.hid hi
    clear hi
    go_upto_region 9 with (fail)
    refine Fl.startL [.take 0, .take 1, .one 2, .take 3, .take 4, .take 5, .take 6, .take 7] (by decide) HI.out ?_
    refine Fl.take (some 82) (v := .agg #[.int .i64 g1, .int .i64 g2, .int .i64 g3]) rfl rfl (Fl.ld 2 rfl (by rfl) _ _ rfl rfl Try.underlying60 rfl (by kernel_rfl)) ?_
    simp only [Act.put, Fl.z1, Fl.z2, Fl.z3]
    refine Fl.take (some 83) (v := .slice A1 lst.length c1) rfl rfl (Or.inl ⟨by rfl, fun _ _ => by rfl⟩) ?_
    simp only [Act.put, Fl.z1, Fl.z2, Fl.z3]
    refine Fl.call (some 84) Try.func31 (by kernel_rfl) rfl #[.agg #[.int .i64 g1, .int .i64 g2, .int .i64 g3], .slice A1 lst.length c1] rfl rfl rfl (by rfl) rfl (fun E2 W2 hE2 hi => ?_)
    refine (spec_MovesOf.calls k g1 g2 g3 A1 c1 lst mv ok W2 ((hE2 _ (Fl.inv_drop hi)).cR 3 rfl) ((hE2 _ (Fl.inv_drop hi)).lR 3 rfl) H_m2.out).mono ?_
    rintro e W' ⟨rfl, hb⟩
    refine Fl.keep (v := .tuple #[.int .i64 mv, .bool ok]) hi hb ?_
    clear hi hb hE2
    simp only [Act.put, Fl.z1, Fl.z2, Fl.z3]
    refine Fl.take (some 81) (v := .tuple #[.int .i64 mv, .bool ok]) rfl rfl (Or.inl ⟨by rfl, fun _ _ => by rfl⟩) ?_
    simp only [Act.put, Fl.z1, Fl.z2, Fl.z3]
    refine Fl.take (some 85) (v := .int .i64 mv) rfl rfl (Or.inl ⟨by rfl, fun _ _ => by rfl⟩) ?_
    simp only [Act.put, Fl.z1, Fl.z2, Fl.z3]
    refine Fl.take (some 86) (v := .bool ok) rfl rfl (Or.inl ⟨by rfl, fun _ _ => by rfl⟩) ?_
    simp only [Act.put, Fl.z1, Fl.z2, Fl.z3]
    refine Fl.take (some 11) (v := .int .i64 mv) rfl rfl (Or.inl ⟨by rfl, fun _ _ => by rfl⟩) ?_
    simp only [Act.put, Fl.z1, Fl.z2, Fl.z3]
    refine Fl.take (some 12) (v := .bool ok) rfl rfl (Or.inl ⟨by rfl, fun _ _ => by rfl⟩) ?_
    simp only [Act.put, Fl.z1, Fl.z2, Fl.z3]
    refine Fl.stop (fun W hi => ?_)
    replace HI := Lib.hid hi
    clear hi
    go_upto_region 10 with (fail)
    refine Fl.startL [.take 0, .take 1, .take 2, .take 3, .take 4, .take 5, .take 6, .take 7, .take 8, .take 9, .take 10, .take 11, .take 12] (by decide) HI.out ?_
    refine Fl.take (some 87) (v := .int .i64 mv) rfl rfl (Or.inl ⟨by rfl, fun _ _ => by rfl⟩) ?_
    simp only [Act.put, Fl.z1, Fl.z2, Fl.z3]
    refine Fl.take (some 88) (v := .int .i64 mv) rfl rfl (Or.inl ⟨by rfl, fun _ _ => by rfl⟩) ?_
    simp only [Act.put, Fl.z1, Fl.z2, Fl.z3]
    refine Fl.take (some 89) (v := .bool false) rfl rfl (Or.inl ⟨by rfl, fun _ _ => by first | rfl | (go_simp; done) | (go_simp; rfl) | (go_simp; simp)⟩) ?_
    simp only [Act.put, Fl.z1, Fl.z2, Fl.z3]
    refine Fl.take (some 90) (v := .bool false) rfl rfl (Or.inl ⟨by rfl, fun _ _ => by rfl⟩) ?_
    simp only [Act.put, Fl.z1, Fl.z2, Fl.z3]
    refine Fl.take (some 91) (v := .bool ok) rfl rfl (Or.inl ⟨by rfl, fun _ _ => by rfl⟩) ?_
    simp only [Act.put, Fl.z1, Fl.z2, Fl.z3]
    refine Fl.take (some 92) (v := .bool ok) rfl rfl (Or.inl ⟨by rfl, fun _ _ => by rfl⟩) ?_
    simp only [Act.put, Fl.z1, Fl.z2, Fl.z3]
    refine Fl.take (some 93) (v := .bool false) rfl rfl (Or.inl ⟨by rfl, fun _ _ => by first | rfl | (go_simp; done) | (go_simp; rfl) | (go_simp; simp)⟩) ?_
    simp only [Act.put, Fl.z1, Fl.z2, Fl.z3]
    refine Fl.take (some 94) (v := .bool false) rfl rfl (Or.inl ⟨by rfl, fun _ _ => by rfl⟩) ?_
    simp only [Act.put, Fl.z1, Fl.z2, Fl.z3]
    refine Fl.take (some 95) (v := .bool false) rfl rfl (Or.inl ⟨by rfl, fun _ _ => by rfl⟩) ?_
    simp only [Act.put, Fl.z1, Fl.z2, Fl.z3]
    refine Fl.take (some 96) (v := .bool ok) rfl rfl (Or.inl ⟨by rfl, fun _ _ => by rfl⟩) ?_
    simp only [Act.put, Fl.z1, Fl.z2, Fl.z3]
    refine Fl.take (some 97) (v := .bool ok) rfl rfl (Or.inl ⟨by rfl, fun _ _ => by rfl⟩) ?_
    simp only [Act.put, Fl.z1, Fl.z2, Fl.z3]
    refine Fl.take (some 98) (v := .bool false) rfl rfl (Or.inl ⟨by rfl, fun _ _ => by first | rfl | (go_simp; done) | (go_simp; rfl) | (go_simp; simp)⟩) ?_
    simp only [Act.put, Fl.z1, Fl.z2, Fl.z3]
    refine Fl.take (some 99) (v := .bool false) rfl rfl (Or.inl ⟨by rfl, fun _ _ => by rfl⟩) ?_
    simp only [Act.put, Fl.z1, Fl.z2, Fl.z3]
    refine Fl.stop (fun W hi => ?_)
    replace HI := Lib.hid hi
    clear hi
    go_upto_region 12 with (fail)
    refine Fl.startL [.take 0, .take 1, .one 2, .take 3, .take 4, .take 5, .take 6, .take 7] (by decide) HI.out ?_
    refine Fl.take (some 101) (v := .agg #[.int .i64 g1, .int .i64 g2, .int .i64 g3]) rfl rfl (Fl.ld 2 rfl (by rfl) _ _ rfl rfl Try.underlying60 rfl (by kernel_rfl)) ?_
    simp only [Act.put, Fl.z1, Fl.z2, Fl.z3]
    refine Fl.take (some 102) (v := .slice A1 lst.length c1) rfl rfl (Or.inl ⟨by rfl, fun _ _ => by rfl⟩) ?_
    simp only [Act.put, Fl.z1, Fl.z2, Fl.z3]
    refine Fl.call (some 103) Try.func32 (by kernel_rfl) rfl #[.agg #[.int .i64 g1, .int .i64 g2, .int .i64 g3], .slice A1 lst.length c1] rfl rfl rfl (by rfl) rfl (fun E2 W2 hE2 hi => ?_)
    refine (impl_CostOf.calls g1 g2 g3 A1 c1 lst cs ok W2 ((hE2 _ (Fl.inv_drop hi)).cR 3 rfl) ((hE2 _ (Fl.inv_drop hi)).lR 3 rfl) H_e.out).mono ?_
    rintro e W' ⟨rfl, hb⟩
    refine Fl.keep (v := .tuple #[.int .i64 cs, .bool ok]) hi hb ?_
    clear hi hb hE2
    simp only [Act.put, Fl.z1, Fl.z2, Fl.z3]
    refine Fl.take (some 100) (v := .tuple #[.int .i64 cs, .bool ok]) rfl rfl (Or.inl ⟨by rfl, fun _ _ => by rfl⟩) ?_
    simp only [Act.put, Fl.z1, Fl.z2, Fl.z3]
    refine Fl.take (some 104) (v := .int .i64 cs) rfl rfl (Or.inl ⟨by rfl, fun _ _ => by rfl⟩) ?_
    simp only [Act.put, Fl.z1, Fl.z2, Fl.z3]
    refine Fl.take (some 105) (v := .bool ok) rfl rfl (Or.inl ⟨by rfl, fun _ _ => by rfl⟩) ?_
    simp only [Act.put, Fl.z1, Fl.z2, Fl.z3]
    refine Fl.take (some 13) (v := .int .i64 cs) rfl rfl (Or.inl ⟨by rfl, fun _ _ => by rfl⟩) ?_
    simp only [Act.put, Fl.z1, Fl.z2, Fl.z3]
    refine Fl.take (some 14) (v := .bool ok) rfl rfl (Or.inl ⟨by rfl, fun _ _ => by rfl⟩) ?_
    simp only [Act.put, Fl.z1, Fl.z2, Fl.z3]
    refine Fl.stop (fun W hi => ?_)
    replace HI := Lib.hid hi
    clear hi
    go_upto_region 13 with (fail)
    refine Fl.startL [.take 0, .take 1, .one 2, .take 3, .take 4, .take 5, .take 6, .take 7] (by decide) HI.out ?_
    refine Fl.take (some 107) (v := .agg #[.int .i64 g1, .int .i64 g2, .int .i64 g3]) rfl rfl (Fl.ld 2 rfl (by rfl) _ _ rfl rfl Try.underlying60 rfl (by kernel_rfl)) ?_
    simp only [Act.put, Fl.z1, Fl.z2, Fl.z3]
    refine Fl.take (some 108) (v := .slice A1 lst.length c1) rfl rfl (Or.inl ⟨by rfl, fun _ _ => by rfl⟩) ?_
    simp only [Act.put, Fl.z1, Fl.z2, Fl.z3]
    refine Fl.call (some 109) Try.func33 (by kernel_rfl) rfl #[.agg #[.int .i64 g1, .int .i64 g2, .int .i64 g3], .slice A1 lst.length c1] rfl rfl rfl (by rfl) rfl (fun E2 W2 hE2 hi => ?_)
    refine (spec_CostOf.calls k g1 g2 g3 A1 c1 lst cs ok W2 ((hE2 _ (Fl.inv_drop hi)).cR 3 rfl) ((hE2 _ (Fl.inv_drop hi)).lR 3 rfl) H_e2.out).mono ?_
    rintro e W' ⟨rfl, hb⟩
    refine Fl.keep (v := .tuple #[.int .i64 cs, .bool ok]) hi hb ?_
    clear hi hb hE2
    simp only [Act.put, Fl.z1, Fl.z2, Fl.z3]
    refine Fl.take (some 106) (v := .tuple #[.int .i64 cs, .bool ok]) rfl rfl (Or.inl ⟨by rfl, fun _ _ => by rfl⟩) ?_
    simp only [Act.put, Fl.z1, Fl.z2, Fl.z3]
    refine Fl.take (some 110) (v := .int .i64 cs) rfl rfl (Or.inl ⟨by rfl, fun _ _ => by rfl⟩) ?_
    simp only [Act.put, Fl.z1, Fl.z2, Fl.z3]
    refine Fl.take (some 111) (v := .bool ok) rfl rfl (Or.inl ⟨by rfl, fun _ _ => by rfl⟩) ?_
    simp only [Act.put, Fl.z1, Fl.z2, Fl.z3]
    refine Fl.take (some 15) (v := .int .i64 cs) rfl rfl (Or.inl ⟨by rfl, fun _ _ => by rfl⟩) ?_
    simp only [Act.put, Fl.z1, Fl.z2, Fl.z3]
    refine Fl.take (some 16) (v := .bool ok) rfl rfl (Or.inl ⟨by rfl, fun _ _ => by rfl⟩) ?_
    simp only [Act.put, Fl.z1, Fl.z2, Fl.z3]
    refine Fl.stop (fun W hi => ?_)
    replace HI := Lib.hid hi
    clear hi
    go_upto_region 14 with (fail)
    refine Fl.startL [.take 0, .take 1, .take 2, .take 3, .take 4, .take 5, .take 6, .take 7, .take 8, .take 9, .take 10, .take 11, .take 12] (by decide) HI.out ?_
    refine Fl.take (some 112) (v := .int .i64 cs) rfl rfl (Or.inl ⟨by rfl, fun _ _ => by rfl⟩) ?_
    simp only [Act.put, Fl.z1, Fl.z2, Fl.z3]
    refine Fl.take (some 113) (v := .int .i64 cs) rfl rfl (Or.inl ⟨by rfl, fun _ _ => by rfl⟩) ?_
    simp only [Act.put, Fl.z1, Fl.z2, Fl.z3]
    refine Fl.take (some 114) (v := .bool false) rfl rfl (Or.inl ⟨by rfl, fun _ _ => by first | rfl | (go_simp; done) | (go_simp; rfl) | (go_simp; simp)⟩) ?_
    simp only [Act.put, Fl.z1, Fl.z2, Fl.z3]
    refine Fl.take (some 115) (v := .bool false) rfl rfl (Or.inl ⟨by rfl, fun _ _ => by rfl⟩) ?_
    simp only [Act.put, Fl.z1, Fl.z2, Fl.z3]
    refine Fl.take (some 116) (v := .bool ok) rfl rfl (Or.inl ⟨by rfl, fun _ _ => by rfl⟩) ?_
    simp only [Act.put, Fl.z1, Fl.z2, Fl.z3]
    refine Fl.take (some 117) (v := .bool ok) rfl rfl (Or.inl ⟨by rfl, fun _ _ => by rfl⟩) ?_
    simp only [Act.put, Fl.z1, Fl.z2, Fl.z3]
    refine Fl.take (some 118) (v := .bool false) rfl rfl (Or.inl ⟨by rfl, fun _ _ => by first | rfl | (go_simp; done) | (go_simp; rfl) | (go_simp; simp)⟩) ?_
    simp only [Act.put, Fl.z1, Fl.z2, Fl.z3]
    refine Fl.take (some 119) (v := .bool false) rfl rfl (Or.inl ⟨by rfl, fun _ _ => by rfl⟩) ?_
    simp only [Act.put, Fl.z1, Fl.z2, Fl.z3]
    refine Fl.take (some 120) (v := .bool false) rfl rfl (Or.inl ⟨by rfl, fun _ _ => by rfl⟩) ?_
    simp only [Act.put, Fl.z1, Fl.z2, Fl.z3]
    refine Fl.take (some 121) (v := .bool ok) rfl rfl (Or.inl ⟨by rfl, fun _ _ => by rfl⟩) ?_
    simp only [Act.put, Fl.z1, Fl.z2, Fl.z3]
    refine Fl.take (some 122) (v := .bool ok) rfl rfl (Or.inl ⟨by rfl, fun _ _ => by rfl⟩) ?_
    simp only [Act.put, Fl.z1, Fl.z2, Fl.z3]
    refine Fl.take (some 123) (v := .bool false) rfl rfl (Or.inl ⟨by rfl, fun _ _ => by first | rfl | (go_simp; done) | (go_simp; rfl) | (go_simp; simp)⟩) ?_
    simp only [Act.put, Fl.z1, Fl.z2, Fl.z3]
    refine Fl.take (some 124) (v := .bool false) rfl rfl (Or.inl ⟨by rfl, fun _ _ => by rfl⟩) ?_
    simp only [Act.put, Fl.z1, Fl.z2, Fl.z3]
    refine Fl.stop (fun W hi => ?_)
    replace HI := Lib.hid hi
    clear hi
    go_upto_region 16 with (fail)
    refine Fl.startL [.take 0, .take 1, .one 2, .take 3, .take 4, .take 5, .take 6, .take 7] (by decide) HI.out ?_
    refine Fl.take (some 126) (v := .agg #[.int .i64 g1, .int .i64 g2, .int .i64 g3]) rfl rfl (Fl.ld 2 rfl (by rfl) _ _ rfl rfl Try.underlying60 rfl (by kernel_rfl)) ?_
    simp only [Act.put, Fl.z1, Fl.z2, Fl.z3]
    refine Fl.take (some 127) (v := .slice A1 lst.length c1) rfl rfl (Or.inl ⟨by rfl, fun _ _ => by rfl⟩) ?_
    simp only [Act.put, Fl.z1, Fl.z2, Fl.z3]
    refine Fl.call (some 128) Try.func34 (by kernel_rfl) rfl #[.agg #[.int .i64 g1, .int .i64 g2, .int .i64 g3], .slice A1 lst.length c1] rfl rfl rfl (by rfl) rfl (fun E2 W2 hE2 hi => ?_)
    refine (impl_WorstWaste.calls g1 g2 g3 A1 c1 lst wa ok W2 ((hE2 _ (Fl.inv_drop hi)).cR 3 rfl) ((hE2 _ (Fl.inv_drop hi)).lR 3 rfl) H_u.out).mono ?_
    rintro e W' ⟨rfl, hb⟩
    refine Fl.keep (v := .tuple #[.int .i64 wa, .bool ok]) hi hb ?_
    clear hi hb hE2
    simp only [Act.put, Fl.z1, Fl.z2, Fl.z3]
    refine Fl.take (some 125) (v := .tuple #[.int .i64 wa, .bool ok]) rfl rfl (Or.inl ⟨by rfl, fun _ _ => by rfl⟩) ?_
    simp only [Act.put, Fl.z1, Fl.z2, Fl.z3]
    refine Fl.take (some 129) (v := .int .i64 wa) rfl rfl (Or.inl ⟨by rfl, fun _ _ => by rfl⟩) ?_
    simp only [Act.put, Fl.z1, Fl.z2, Fl.z3]
    refine Fl.take (some 130) (v := .bool ok) rfl rfl (Or.inl ⟨by rfl, fun _ _ => by rfl⟩) ?_
    simp only [Act.put, Fl.z1, Fl.z2, Fl.z3]
    refine Fl.take (some 17) (v := .int .i64 wa) rfl rfl (Or.inl ⟨by rfl, fun _ _ => by rfl⟩) ?_
    simp only [Act.put, Fl.z1, Fl.z2, Fl.z3]
    refine Fl.take (some 18) (v := .bool ok) rfl rfl (Or.inl ⟨by rfl, fun _ _ => by rfl⟩) ?_
    simp only [Act.put, Fl.z1, Fl.z2, Fl.z3]
    refine Fl.stop (fun W hi => ?_)
    replace HI := Lib.hid hi
    clear hi
    go_upto_region 17 with (fail)
    refine Fl.startL [.take 0, .take 1, .one 2, .take 3, .take 4, .take 5, .take 6, .take 7] (by decide) HI.out ?_
    refine Fl.take (some 132) (v := .agg #[.int .i64 g1, .int .i64 g2, .int .i64 g3]) rfl rfl (Fl.ld 2 rfl (by rfl) _ _ rfl rfl Try.underlying60 rfl (by kernel_rfl)) ?_
    simp only [Act.put, Fl.z1, Fl.z2, Fl.z3]
    refine Fl.take (some 133) (v := .slice A1 lst.length c1) rfl rfl (Or.inl ⟨by rfl, fun _ _ => by rfl⟩) ?_
    simp only [Act.put, Fl.z1, Fl.z2, Fl.z3]
    refine Fl.call (some 134) Try.func35 (by kernel_rfl) rfl #[.agg #[.int .i64 g1, .int .i64 g2, .int .i64 g3], .slice A1 lst.length c1] rfl rfl rfl (by rfl) rfl (fun E2 W2 hE2 hi => ?_)
    refine (spec_WorstWaste.calls k g1 g2 g3 A1 c1 lst wa ok W2 ((hE2 _ (Fl.inv_drop hi)).cR 3 rfl) ((hE2 _ (Fl.inv_drop hi)).lR 3 rfl) H_u2.out).mono ?_
    rintro e W' ⟨rfl, hb⟩
    refine Fl.keep (v := .tuple #[.int .i64 wa, .bool ok]) hi hb ?_
    clear hi hb hE2
    simp only [Act.put, Fl.z1, Fl.z2, Fl.z3]
    refine Fl.take (some 131) (v := .tuple #[.int .i64 wa, .bool ok]) rfl rfl (Or.inl ⟨by rfl, fun _ _ => by rfl⟩) ?_
    simp only [Act.put, Fl.z1, Fl.z2, Fl.z3]
    refine Fl.take (some 135) (v := .int .i64 wa) rfl rfl (Or.inl ⟨by rfl, fun _ _ => by rfl⟩) ?_
    simp only [Act.put, Fl.z1, Fl.z2, Fl.z3]
    refine Fl.take (some 136) (v := .bool ok) rfl rfl (Or.inl ⟨by rfl, fun _ _ => by rfl⟩) ?_
    simp only [Act.put, Fl.z1, Fl.z2, Fl.z3]
    refine Fl.take (some 19) (v := .int .i64 wa) rfl rfl (Or.inl ⟨by rfl, fun _ _ => by rfl⟩) ?_
    simp only [Act.put, Fl.z1, Fl.z2, Fl.z3]
    refine Fl.take (some 20) (v := .bool ok) rfl rfl (Or.inl ⟨by rfl, fun _ _ => by rfl⟩) ?_
    simp only [Act.put, Fl.z1, Fl.z2, Fl.z3]
    refine Fl.stop (fun W hi => ?_)
    replace HI := Lib.hid hi
    clear hi
    go_upto_region 18 with (fail)
    refine Fl.startL [.take 0, .take 1, .take 2, .take 3, .take 4, .take 5, .take 6, .take 7, .take 8, .take 9, .take 10, .take 11, .take 12] (by decide) HI.out ?_
    refine Fl.take (some 137) (v := .int .i64 wa) rfl rfl (Or.inl ⟨by rfl, fun _ _ => by rfl⟩) ?_
    simp only [Act.put, Fl.z1, Fl.z2, Fl.z3]
    refine Fl.take (some 138) (v := .int .i64 wa) rfl rfl (Or.inl ⟨by rfl, fun _ _ => by rfl⟩) ?_
    simp only [Act.put, Fl.z1, Fl.z2, Fl.z3]
    refine Fl.take (some 139) (v := .bool false) rfl rfl (Or.inl ⟨by rfl, fun _ _ => by first | rfl | (go_simp; done) | (go_simp; rfl) | (go_simp; simp)⟩) ?_
    simp only [Act.put, Fl.z1, Fl.z2, Fl.z3]
    refine Fl.take (some 140) (v := .bool false) rfl rfl (Or.inl ⟨by rfl, fun _ _ => by rfl⟩) ?_
    simp only [Act.put, Fl.z1, Fl.z2, Fl.z3]
    refine Fl.take (some 141) (v := .bool ok) rfl rfl (Or.inl ⟨by rfl, fun _ _ => by rfl⟩) ?_
    simp only [Act.put, Fl.z1, Fl.z2, Fl.z3]
    refine Fl.take (some 142) (v := .bool ok) rfl rfl (Or.inl ⟨by rfl, fun _ _ => by rfl⟩) ?_
    simp only [Act.put, Fl.z1, Fl.z2, Fl.z3]
    refine Fl.take (some 143) (v := .bool false) rfl rfl (Or.inl ⟨by rfl, fun _ _ => by first | rfl | (go_simp; done) | (go_simp; rfl) | (go_simp; simp)⟩) ?_
    simp only [Act.put, Fl.z1, Fl.z2, Fl.z3]
    refine Fl.take (some 144) (v := .bool false) rfl rfl (Or.inl ⟨by rfl, fun _ _ => by rfl⟩) ?_
    simp only [Act.put, Fl.z1, Fl.z2, Fl.z3]
    refine Fl.take (some 145) (v := .bool false) rfl rfl (Or.inl ⟨by rfl, fun _ _ => by rfl⟩) ?_
    simp only [Act.put, Fl.z1, Fl.z2, Fl.z3]
    refine Fl.take (some 146) (v := .bool ok) rfl rfl (Or.inl ⟨by rfl, fun _ _ => by rfl⟩) ?_
    simp only [Act.put, Fl.z1, Fl.z2, Fl.z3]
    refine Fl.take (some 147) (v := .bool ok) rfl rfl (Or.inl ⟨by rfl, fun _ _ => by rfl⟩) ?_
    simp only [Act.put, Fl.z1, Fl.z2, Fl.z3]
    refine Fl.take (some 148) (v := .bool false) rfl rfl (Or.inl ⟨by rfl, fun _ _ => by first | rfl | (go_simp; done) | (go_simp; rfl) | (go_simp; simp)⟩) ?_
    simp only [Act.put, Fl.z1, Fl.z2, Fl.z3]
    refine Fl.take (some 149) (v := .bool false) rfl rfl (Or.inl ⟨by rfl, fun _ _ => by rfl⟩) ?_
    simp only [Act.put, Fl.z1, Fl.z2, Fl.z3]
    refine Fl.stop (fun W hi => ?_)
    replace HI := Lib.hid hi
    clear hi
    go_upto_region 20 with (fail)
    refine Fl.startL [.take 0, .one 1, .take 2, .take 3, .take 4, .one 5, .one 6, .take 7] (by decide) HI.out ?_
    refine Fl.take (some 151) (v := .slice A0 l0.length c0) rfl rfl (Or.inl ⟨by rfl, fun _ _ => by rfl⟩) ?_
    simp only [Act.put, Fl.z1, Fl.z2, Fl.z3]
    refine Fl.call (some 152) Try.func36 (by kernel_rfl) rfl #[.slice A0 l0.length c0] rfl rfl rfl (by rfl) rfl (fun E2 W2 hE2 hi => ?_)
    refine (spec_DrawSingleCost.calls A0 c0 l0 q1 q2 q3 k1 W2 (Kd.C_below HR0.out hi.bel) HC0.out H_q.out).mono ?_
    rintro e W' ⟨rfl, hb⟩
    refine Fl.keep (v := .tuple #[.agg #[.int .i64 q1, .int .i64 q2, .int .i64 q3], .int .i64 k1]) hi hb ?_
    clear hi hb hE2
    simp only [Act.put, Fl.z1, Fl.z2, Fl.z3]
    refine Fl.take (some 150) (v := .tuple #[.agg #[.int .i64 q1, .int .i64 q2, .int .i64 q3], .int .i64 k1]) rfl rfl (Or.inl ⟨by rfl, fun _ _ => by rfl⟩) ?_
    simp only [Act.put, Fl.z1, Fl.z2, Fl.z3]
    refine Fl.take (some 153) (v := .agg #[.int .i64 q1, .int .i64 q2, .int .i64 q3]) rfl rfl (Or.inl ⟨by rfl, fun _ _ => by rfl⟩) ?_
    simp only [Act.put, Fl.z1, Fl.z2, Fl.z3]
    refine Fl.take (some 154) (v := .int .i64 k1) rfl rfl (Or.inl ⟨by rfl, fun _ _ => by rfl⟩) ?_
    simp only [Act.put, Fl.z1, Fl.z2, Fl.z3]
    refine Fl.var (N := 21) (cs := #[.int .i64 0, .int .i64 0, .int .i64 0]) (t := 60) ⟨_, rfl, rfl, fun _ => rfl, fun e w => by first | (go_simp; done) | (go_simp; rfl)⟩ (fun gB => ?_)
    simp only [Act.put, Fl.z1, Fl.z2, Fl.z3]
    refine Fl.store 0 #[.int .i64 q1, .int .i64 q2, .int .i64 q3] rfl rfl rfl rfl _ _ _ rfl rfl rfl (by rfl) rfl (by kernel_rfl) (by simp [Value.oneCell']) ?_
    refine Fl.take (some 22) (v := .int .i64 k1) rfl rfl (Or.inl ⟨by rfl, fun _ _ => by rfl⟩) ?_
    simp only [Act.put, Fl.z1, Fl.z2, Fl.z3]
    refine Fl.stop (fun W hi => ?_)
    replace HI := Lib.hid hi
    clear hi
    go_upto_region 21 with (fail)
    refine Fl.startL [.take 0, .take 1, .one 2, .take 3, .take 4, .take 5, .take 6, .take 7] (by decide) HI.out ?_
    refine Fl.take (some 156) (v := .agg #[.int .i64 q1, .int .i64 q2, .int .i64 q3]) rfl rfl (Fl.ld 0 rfl (by rfl) _ _ rfl rfl Try.underlying60 rfl (by kernel_rfl)) ?_
    simp only [Act.put, Fl.z1, Fl.z2, Fl.z3]
    refine Fl.take (some 157) (v := .int .i64 k1) rfl rfl (Or.inl ⟨by rfl, fun _ _ => by rfl⟩) ?_
    simp only [Act.put, Fl.z1, Fl.z2, Fl.z3]
    refine Fl.call (some 158) Try.func37 (by kernel_rfl) rfl #[.agg #[.int .i64 q1, .int .i64 q2, .int .i64 q3], .int .i64 k1] rfl rfl rfl (by rfl) rfl (fun E2 W2 hE2 hi => ?_)
    refine (impl_SingleCost.calls q1 q2 q3 k1 sc so W2  H_s.out).mono ?_
    rintro e W' ⟨rfl, hb⟩
    refine Fl.keep (v := .tuple #[.int .i64 sc, .bool so]) hi hb ?_
    clear hi hb hE2
    simp only [Act.put, Fl.z1, Fl.z2, Fl.z3]
    refine Fl.take (some 155) (v := .tuple #[.int .i64 sc, .bool so]) rfl rfl (Or.inl ⟨by rfl, fun _ _ => by rfl⟩) ?_
    simp only [Act.put, Fl.z1, Fl.z2, Fl.z3]
    refine Fl.take (some 159) (v := .int .i64 sc) rfl rfl (Or.inl ⟨by rfl, fun _ _ => by rfl⟩) ?_
    simp only [Act.put, Fl.z1, Fl.z2, Fl.z3]
    refine Fl.take (some 160) (v := .bool so) rfl rfl (Or.inl ⟨by rfl, fun _ _ => by rfl⟩) ?_
    simp only [Act.put, Fl.z1, Fl.z2, Fl.z3]
    refine Fl.take (some 23) (v := .int .i64 sc) rfl rfl (Or.inl ⟨by rfl, fun _ _ => by rfl⟩) ?_
    simp only [Act.put, Fl.z1, Fl.z2, Fl.z3]
    refine Fl.take (some 24) (v := .bool so) rfl rfl (Or.inl ⟨by rfl, fun _ _ => by rfl⟩) ?_
    simp only [Act.put, Fl.z1, Fl.z2, Fl.z3]
    refine Fl.stop (fun W hi => ?_)
    replace HI := Lib.hid hi
    clear hi
    go_upto_region 22 with (fail)
    refine Fl.startL [.take 0, .take 1, .one 2, .take 3, .take 4, .take 5, .take 6, .take 7] (by decide) HI.out ?_
    refine Fl.take (some 162) (v := .agg #[.int .i64 q1, .int .i64 q2, .int .i64 q3]) rfl rfl (Fl.ld 0 rfl (by rfl) _ _ rfl rfl Try.underlying60 rfl (by kernel_rfl)) ?_
    simp only [Act.put, Fl.z1, Fl.z2, Fl.z3]
    refine Fl.take (some 163) (v := .int .i64 k1) rfl rfl (Or.inl ⟨by rfl, fun _ _ => by rfl⟩) ?_
    simp only [Act.put, Fl.z1, Fl.z2, Fl.z3]
    refine Fl.call (some 164) Try.func38 (by kernel_rfl) rfl #[.agg #[.int .i64 q1, .int .i64 q2, .int .i64 q3], .int .i64 k1] rfl rfl rfl (by rfl) rfl (fun E2 W2 hE2 hi => ?_)
    refine (spec_SingleCost.calls k q1 q2 q3 k1 sc so W2  H_s2.out).mono ?_
    rintro e W' ⟨rfl, hb⟩
    refine Fl.keep (v := .tuple #[.int .i64 sc, .bool so]) hi hb ?_
    clear hi hb hE2
    simp only [Act.put, Fl.z1, Fl.z2, Fl.z3]
    refine Fl.take (some 161) (v := .tuple #[.int .i64 sc, .bool so]) rfl rfl (Or.inl ⟨by rfl, fun _ _ => by rfl⟩) ?_
    simp only [Act.put, Fl.z1, Fl.z2, Fl.z3]
    refine Fl.take (some 165) (v := .int .i64 sc) rfl rfl (Or.inl ⟨by rfl, fun _ _ => by rfl⟩) ?_
    simp only [Act.put, Fl.z1, Fl.z2, Fl.z3]
    refine Fl.take (some 166) (v := .bool so) rfl rfl (Or.inl ⟨by rfl, fun _ _ => by rfl⟩) ?_
    simp only [Act.put, Fl.z1, Fl.z2, Fl.z3]
    refine Fl.take (some 25) (v := .int .i64 sc) rfl rfl (Or.inl ⟨by rfl, fun _ _ => by rfl⟩) ?_
    simp only [Act.put, Fl.z1, Fl.z2, Fl.z3]
    refine Fl.take (some 26) (v := .bool so) rfl rfl (Or.inl ⟨by rfl, fun _ _ => by rfl⟩) ?_
    simp only [Act.put, Fl.z1, Fl.z2, Fl.z3]
    refine Fl.stop (fun W hi => ?_)
    replace HI := Lib.hid hi
    clear hi
    go_upto_region 23 with (fail)
    refine Fl.startL [.take 0, .take 1, .take 2, .take 3, .take 4, .take 5, .take 6, .take 7] (by decide) HI.out ?_
    refine Fl.take (some 167) (v := .int .i64 sc) rfl rfl (Or.inl ⟨by rfl, fun _ _ => by rfl⟩) ?_
    simp only [Act.put, Fl.z1, Fl.z2, Fl.z3]
    refine Fl.take (some 168) (v := .int .i64 sc) rfl rfl (Or.inl ⟨by rfl, fun _ _ => by rfl⟩) ?_
    simp only [Act.put, Fl.z1, Fl.z2, Fl.z3]
    refine Fl.take (some 169) (v := .bool false) rfl rfl (Or.inl ⟨by rfl, fun _ _ => by first | rfl | (go_simp; done) | (go_simp; rfl) | (go_simp; simp)⟩) ?_
    simp only [Act.put, Fl.z1, Fl.z2, Fl.z3]
    refine Fl.take (some 170) (v := .bool false) rfl rfl (Or.inl ⟨by rfl, fun _ _ => by rfl⟩) ?_
    simp only [Act.put, Fl.z1, Fl.z2, Fl.z3]
    refine Fl.take (some 171) (v := .bool so) rfl rfl (Or.inl ⟨by rfl, fun _ _ => by rfl⟩) ?_
    simp only [Act.put, Fl.z1, Fl.z2, Fl.z3]
    refine Fl.take (some 172) (v := .bool so) rfl rfl (Or.inl ⟨by rfl, fun _ _ => by rfl⟩) ?_
    simp only [Act.put, Fl.z1, Fl.z2, Fl.z3]
    refine Fl.take (some 173) (v := .bool false) rfl rfl (Or.inl ⟨by rfl, fun _ _ => by first | rfl | (go_simp; done) | (go_simp; rfl) | (go_simp; simp)⟩) ?_
    simp only [Act.put, Fl.z1, Fl.z2, Fl.z3]
    refine Fl.take (some 174) (v := .bool false) rfl rfl (Or.inl ⟨by rfl, fun _ _ => by rfl⟩) ?_
    simp only [Act.put, Fl.z1, Fl.z2, Fl.z3]
    refine Fl.stop (fun W hi => ?_)
    replace HI := Lib.hid hi
    clear hi
    go_upto_region 25 with (fail)
    refine Fl.startL [.take 0, .take 1, .one 2, .take 3, .take 4, .take 5, .take 6, .take 7] (by decide) HI.out ?_
    refine Fl.take (some 176) (v := .agg #[.int .i64 q1, .int .i64 q2, .int .i64 q3]) rfl rfl (Fl.ld 0 rfl (by rfl) _ _ rfl rfl Try.underlying60 rfl (by kernel_rfl)) ?_
    simp only [Act.put, Fl.z1, Fl.z2, Fl.z3]
    refine Fl.take (some 177) (v := .int .i64 k1) rfl rfl (Or.inl ⟨by rfl, fun _ _ => by rfl⟩) ?_
    simp only [Act.put, Fl.z1, Fl.z2, Fl.z3]
    refine Fl.call (some 178) Try.func39 (by kernel_rfl) rfl #[.agg #[.int .i64 q1, .int .i64 q2, .int .i64 q3], .int .i64 k1] rfl rfl rfl (by rfl) rfl (fun E2 W2 hE2 hi => ?_)
    refine (impl_SingleMoves.calls q1 q2 q3 k1 sm so W2  H_o.out).mono ?_
    rintro e W' ⟨rfl, hb⟩
    refine Fl.keep (v := .tuple #[.int .i64 sm, .bool so]) hi hb ?_
    clear hi hb hE2
    simp only [Act.put, Fl.z1, Fl.z2, Fl.z3]
    refine Fl.take (some 175) (v := .tuple #[.int .i64 sm, .bool so]) rfl rfl (Or.inl ⟨by rfl, fun _ _ => by rfl⟩) ?_
    simp only [Act.put, Fl.z1, Fl.z2, Fl.z3]
    refine Fl.take (some 179) (v := .int .i64 sm) rfl rfl (Or.inl ⟨by rfl, fun _ _ => by rfl⟩) ?_
    simp only [Act.put, Fl.z1, Fl.z2, Fl.z3]
    refine Fl.take (some 180) (v := .bool so) rfl rfl (Or.inl ⟨by rfl, fun _ _ => by rfl⟩) ?_
    simp only [Act.put, Fl.z1, Fl.z2, Fl.z3]
    refine Fl.take (some 27) (v := .int .i64 sm) rfl rfl (Or.inl ⟨by rfl, fun _ _ => by rfl⟩) ?_
    simp only [Act.put, Fl.z1, Fl.z2, Fl.z3]
    refine Fl.take (some 28) (v := .bool so) rfl rfl (Or.inl ⟨by rfl, fun _ _ => by rfl⟩) ?_
    simp only [Act.put, Fl.z1, Fl.z2, Fl.z3]
    refine Fl.stop (fun W hi => ?_)
    replace HI := Lib.hid hi
    clear hi
    go_upto_region 26 with (fail)
    refine Fl.startL [.take 0, .take 1, .one 2, .take 3, .take 4, .take 5, .take 6, .take 7] (by decide) HI.out ?_
    refine Fl.take (some 182) (v := .agg #[.int .i64 q1, .int .i64 q2, .int .i64 q3]) rfl rfl (Fl.ld 0 rfl (by rfl) _ _ rfl rfl Try.underlying60 rfl (by kernel_rfl)) ?_
    simp only [Act.put, Fl.z1, Fl.z2, Fl.z3]
    refine Fl.take (some 183) (v := .int .i64 k1) rfl rfl (Or.inl ⟨by rfl, fun _ _ => by rfl⟩) ?_
    simp only [Act.put, Fl.z1, Fl.z2, Fl.z3]
    refine Fl.call (some 184) Try.func40 (by kernel_rfl) rfl #[.agg #[.int .i64 q1, .int .i64 q2, .int .i64 q3], .int .i64 k1] rfl rfl rfl (by rfl) rfl (fun E2 W2 hE2 hi => ?_)
    refine (spec_SingleMoves.calls k q1 q2 q3 k1 sm so W2  H_o2.out).mono ?_
    rintro e W' ⟨rfl, hb⟩
    refine Fl.keep (v := .tuple #[.int .i64 sm, .bool so]) hi hb ?_
    clear hi hb hE2
    simp only [Act.put, Fl.z1, Fl.z2, Fl.z3]
    refine Fl.take (some 181) (v := .tuple #[.int .i64 sm, .bool so]) rfl rfl (Or.inl ⟨by rfl, fun _ _ => by rfl⟩) ?_
    simp only [Act.put, Fl.z1, Fl.z2, Fl.z3]
    refine Fl.take (some 185) (v := .int .i64 sm) rfl rfl (Or.inl ⟨by rfl, fun _ _ => by rfl⟩) ?_
    simp only [Act.put, Fl.z1, Fl.z2, Fl.z3]
    refine Fl.take (some 186) (v := .bool so) rfl rfl (Or.inl ⟨by rfl, fun _ _ => by rfl⟩) ?_
    simp only [Act.put, Fl.z1, Fl.z2, Fl.z3]
    refine Fl.take (some 29) (v := .int .i64 sm) rfl rfl (Or.inl ⟨by rfl, fun _ _ => by rfl⟩) ?_
    simp only [Act.put, Fl.z1, Fl.z2, Fl.z3]
    refine Fl.take (some 30) (v := .bool so) rfl rfl (Or.inl ⟨by rfl, fun _ _ => by rfl⟩) ?_
    simp only [Act.put, Fl.z1, Fl.z2, Fl.z3]
    refine Fl.stop (fun W hi => ?_)
    replace HI := Lib.hid hi
    clear hi
    go_upto_region 27 with (fail)
    refine Fl.startL [.take 0, .take 1, .take 2, .take 3, .take 4, .take 5, .take 6, .take 7, .take 8, .take 9, .take 10, .take 11, .take 12] (by decide) HI.out ?_
    refine Fl.take (some 187) (v := .int .i64 sm) rfl rfl (Or.inl ⟨by rfl, fun _ _ => by rfl⟩) ?_
    simp only [Act.put, Fl.z1, Fl.z2, Fl.z3]
    refine Fl.take (some 188) (v := .int .i64 sm) rfl rfl (Or.inl ⟨by rfl, fun _ _ => by rfl⟩) ?_
    simp only [Act.put, Fl.z1, Fl.z2, Fl.z3]
    refine Fl.take (some 189) (v := .bool false) rfl rfl (Or.inl ⟨by rfl, fun _ _ => by first | rfl | (go_simp; done) | (go_simp; rfl) | (go_simp; simp)⟩) ?_
    simp only [Act.put, Fl.z1, Fl.z2, Fl.z3]
    refine Fl.take (some 190) (v := .bool false) rfl rfl (Or.inl ⟨by rfl, fun _ _ => by rfl⟩) ?_
    simp only [Act.put, Fl.z1, Fl.z2, Fl.z3]
    refine Fl.take (some 191) (v := .bool so) rfl rfl (Or.inl ⟨by rfl, fun _ _ => by rfl⟩) ?_
    simp only [Act.put, Fl.z1, Fl.z2, Fl.z3]
    refine Fl.take (some 192) (v := .bool so) rfl rfl (Or.inl ⟨by rfl, fun _ _ => by rfl⟩) ?_
    simp only [Act.put, Fl.z1, Fl.z2, Fl.z3]
    refine Fl.take (some 193) (v := .bool false) rfl rfl (Or.inl ⟨by rfl, fun _ _ => by first | rfl | (go_simp; done) | (go_simp; rfl) | (go_simp; simp)⟩) ?_
    simp only [Act.put, Fl.z1, Fl.z2, Fl.z3]
    refine Fl.take (some 194) (v := .bool false) rfl rfl (Or.inl ⟨by rfl, fun _ _ => by rfl⟩) ?_
    simp only [Act.put, Fl.z1, Fl.z2, Fl.z3]
    refine Fl.take (some 195) (v := .bool false) rfl rfl (Or.inl ⟨by rfl, fun _ _ => by rfl⟩) ?_
    simp only [Act.put, Fl.z1, Fl.z2, Fl.z3]
    refine Fl.take (some 196) (v := .bool so) rfl rfl (Or.inl ⟨by rfl, fun _ _ => by rfl⟩) ?_
    simp only [Act.put, Fl.z1, Fl.z2, Fl.z3]
    refine Fl.take (some 197) (v := .bool so) rfl rfl (Or.inl ⟨by rfl, fun _ _ => by rfl⟩) ?_
    simp only [Act.put, Fl.z1, Fl.z2, Fl.z3]
    refine Fl.take (some 198) (v := .bool false) rfl rfl (Or.inl ⟨by rfl, fun _ _ => by first | rfl | (go_simp; done) | (go_simp; rfl) | (go_simp; simp)⟩) ?_
    simp only [Act.put, Fl.z1, Fl.z2, Fl.z3]
    refine Fl.take (some 199) (v := .bool false) rfl rfl (Or.inl ⟨by rfl, fun _ _ => by rfl⟩) ?_
    simp only [Act.put, Fl.z1, Fl.z2, Fl.z3]
    refine Fl.stop (fun W hi => ?_)
    replace HI := Lib.hid hi
    clear hi
    go_upto_region 29 with (fail)
    refine Fl.startL [.take 0, .one 1, .take 2, .take 3, .take 4, .take 5, .take 6] (by decide) HI.out ?_
    refine Fl.take (some 201) (v := .agg #[.int .i64 q1, .int .i64 q2, .int .i64 q3]) rfl rfl (Fl.ld 0 rfl (by rfl) _ _ rfl rfl Try.underlying60 rfl (by kernel_rfl)) ?_
    simp only [Act.put, Fl.z1, Fl.z2, Fl.z3]
    refine Fl.call (some 202) Try.func41 (by kernel_rfl) rfl #[.agg #[.int .i64 q1, .int .i64 q2, .int .i64 q3]] rfl rfl rfl (by rfl) rfl (fun E2 W2 hE2 hi => ?_)
    refine (impl_GrowsFast.calls q1 q2 q3  xa xb W2  H_x.out).mono ?_
    rintro e W' ⟨rfl, hb⟩
    refine Fl.keep (v := .tuple #[.bool xa, .bool xb]) hi hb ?_
    clear hi hb hE2
    simp only [Act.put, Fl.z1, Fl.z2, Fl.z3]
    refine Fl.take (some 200) (v := .tuple #[.bool xa, .bool xb]) rfl rfl (Or.inl ⟨by rfl, fun _ _ => by rfl⟩) ?_
    simp only [Act.put, Fl.z1, Fl.z2, Fl.z3]
    refine Fl.take (some 203) (v := .bool xa) rfl rfl (Or.inl ⟨by rfl, fun _ _ => by rfl⟩) ?_
    simp only [Act.put, Fl.z1, Fl.z2, Fl.z3]
    refine Fl.take (some 204) (v := .bool xb) rfl rfl (Or.inl ⟨by rfl, fun _ _ => by rfl⟩) ?_
    simp only [Act.put, Fl.z1, Fl.z2, Fl.z3]
    refine Fl.take (some 31) (v := .bool xa) rfl rfl (Or.inl ⟨by rfl, fun _ _ => by rfl⟩) ?_
    simp only [Act.put, Fl.z1, Fl.z2, Fl.z3]
    refine Fl.take (some 32) (v := .bool xb) rfl rfl (Or.inl ⟨by rfl, fun _ _ => by rfl⟩) ?_
    simp only [Act.put, Fl.z1, Fl.z2, Fl.z3]
    refine Fl.stop (fun W hi => ?_)
    replace HI := Lib.hid hi
    clear hi
    go_upto_region 30 with (fail)
    refine Fl.startL [.take 0, .one 1, .take 2, .take 3, .take 4, .take 5, .take 6] (by decide) HI.out ?_
    refine Fl.take (some 206) (v := .agg #[.int .i64 q1, .int .i64 q2, .int .i64 q3]) rfl rfl (Fl.ld 0 rfl (by rfl) _ _ rfl rfl Try.underlying60 rfl (by kernel_rfl)) ?_
    simp only [Act.put, Fl.z1, Fl.z2, Fl.z3]
    refine Fl.call (some 207) Try.func42 (by kernel_rfl) rfl #[.agg #[.int .i64 q1, .int .i64 q2, .int .i64 q3]] rfl rfl rfl (by rfl) rfl (fun E2 W2 hE2 hi => ?_)
    refine (spec_GrowsFast.calls q1 q2 q3  xa xb W2  H_x2.out).mono ?_
    rintro e W' ⟨rfl, hb⟩
    refine Fl.keep (v := .tuple #[.bool xa, .bool xb]) hi hb ?_
    clear hi hb hE2
    simp only [Act.put, Fl.z1, Fl.z2, Fl.z3]
    refine Fl.take (some 205) (v := .tuple #[.bool xa, .bool xb]) rfl rfl (Or.inl ⟨by rfl, fun _ _ => by rfl⟩) ?_
    simp only [Act.put, Fl.z1, Fl.z2, Fl.z3]
    refine Fl.take (some 208) (v := .bool xa) rfl rfl (Or.inl ⟨by rfl, fun _ _ => by rfl⟩) ?_
    simp only [Act.put, Fl.z1, Fl.z2, Fl.z3]
    refine Fl.take (some 209) (v := .bool xb) rfl rfl (Or.inl ⟨by rfl, fun _ _ => by rfl⟩) ?_
    simp only [Act.put, Fl.z1, Fl.z2, Fl.z3]
    refine Fl.take (some 33) (v := .bool xa) rfl rfl (Or.inl ⟨by rfl, fun _ _ => by rfl⟩) ?_
    simp only [Act.put, Fl.z1, Fl.z2, Fl.z3]
    refine Fl.take (some 34) (v := .bool xb) rfl rfl (Or.inl ⟨by rfl, fun _ _ => by rfl⟩) ?_
    simp only [Act.put, Fl.z1, Fl.z2, Fl.z3]
    refine Fl.stop (fun W hi => ?_)
    replace HI := Lib.hid hi
    clear hi
    go_upto_region 31 with (fail)
    refine Fl.startL [.take 0, .take 1, .take 2, .take 3, .take 4, .take 5, .take 6, .take 7, .take 8, .take 9, .take 10, .one 11, .take 12, .take 13] (by decide) HI.out ?_
    refine Fl.take (some 210) (v := .bool xa) rfl rfl (Or.inl ⟨by rfl, fun _ _ => by rfl⟩) ?_
    simp only [Act.put, Fl.z1, Fl.z2, Fl.z3]
    refine Fl.take (some 211) (v := .bool xa) rfl rfl (Or.inl ⟨by rfl, fun _ _ => by rfl⟩) ?_
    simp only [Act.put, Fl.z1, Fl.z2, Fl.z3]
    refine Fl.take (some 212) (v := .bool false) rfl rfl (Or.inl ⟨by rfl, fun _ _ => by first | rfl | (go_simp; done) | (go_simp; rfl) | (go_simp; simp)⟩) ?_
    simp only [Act.put, Fl.z1, Fl.z2, Fl.z3]
    refine Fl.take (some 213) (v := .bool false) rfl rfl (Or.inl ⟨by rfl, fun _ _ => by rfl⟩) ?_
    simp only [Act.put, Fl.z1, Fl.z2, Fl.z3]
    refine Fl.take (some 214) (v := .bool xb) rfl rfl (Or.inl ⟨by rfl, fun _ _ => by rfl⟩) ?_
    simp only [Act.put, Fl.z1, Fl.z2, Fl.z3]
    refine Fl.take (some 215) (v := .bool xb) rfl rfl (Or.inl ⟨by rfl, fun _ _ => by rfl⟩) ?_
    simp only [Act.put, Fl.z1, Fl.z2, Fl.z3]
    refine Fl.take (some 216) (v := .bool false) rfl rfl (Or.inl ⟨by rfl, fun _ _ => by first | rfl | (go_simp; done) | (go_simp; rfl) | (go_simp; simp)⟩) ?_
    simp only [Act.put, Fl.z1, Fl.z2, Fl.z3]
    refine Fl.take (some 217) (v := .bool false) rfl rfl (Or.inl ⟨by rfl, fun _ _ => by rfl⟩) ?_
    simp only [Act.put, Fl.z1, Fl.z2, Fl.z3]
    refine Fl.take (some 218) (v := .bool false) rfl rfl (Or.inl ⟨by rfl, fun _ _ => by rfl⟩) ?_
    simp only [Act.put, Fl.z1, Fl.z2, Fl.z3]
    refine Fl.take (some 219) (v := .bool xb) rfl rfl (Or.inl ⟨by rfl, fun _ _ => by rfl⟩) ?_
    simp only [Act.put, Fl.z1, Fl.z2, Fl.z3]
    refine Fl.take (some 220) (v := .agg #[.int .i64 q1, .int .i64 q2, .int .i64 q3]) rfl rfl (Fl.ld 0 rfl (by rfl) _ _ rfl rfl Try.underlying60 rfl (by kernel_rfl)) ?_
    simp only [Act.put, Fl.z1, Fl.z2, Fl.z3]
    refine Fl.call (some 221) Try.func43 (by kernel_rfl) rfl #[.agg #[.int .i64 q1, .int .i64 q2, .int .i64 q3]] rfl rfl rfl (by rfl) rfl (fun E2 W2 hE2 hi => ?_)
    refine (impl_IsGrowRule.calls q1 q2 q3 xb W2 H_y.out).mono ?_
    rintro e W' ⟨rfl, hb⟩
    refine Fl.keep (v := .bool xb) hi hb ?_
    clear hi hb hE2
    simp only [Act.put, Fl.z1, Fl.z2, Fl.z3]
    refine Fl.take (some 222) (v := .bool false) rfl rfl (Or.inl ⟨by rfl, fun _ _ => by first | rfl | (go_simp; done) | (go_simp; rfl) | (go_simp; simp)⟩) ?_
    simp only [Act.put, Fl.z1, Fl.z2, Fl.z3]
    refine Fl.take (some 223) (v := .bool false) rfl rfl (Or.inl ⟨by rfl, fun _ _ => by rfl⟩) ?_
    simp only [Act.put, Fl.z1, Fl.z2, Fl.z3]
    refine Fl.stop (fun W hi => ?_)
    replace HI := Lib.hid hi
    clear hi
    go_upto_region 33 with (fail)
    refine Fl.startL [.take 0, .one 1, .take 2, .take 3, .take 4, .take 5, .take 6, .one 7, .one 8, .take 9, .take 10, .take 11] (by decide) HI.out ?_
    refine Fl.take (some 225) (v := .slice A0 l0.length c0) rfl rfl (Or.inl ⟨by rfl, fun _ _ => by rfl⟩) ?_
    simp only [Act.put, Fl.z1, Fl.z2, Fl.z3]
    refine Fl.call (some 226) Try.func44 (by kernel_rfl) rfl #[.slice A0 l0.length c0] rfl rfl rfl (by rfl) rfl (fun E2 W2 hE2 hi => ?_)
    refine (spec_DrawNextCap.calls A0 c0 l0 n1 n2 n3 m1 m2_ m3 W2 (Kd.C_below HR0.out hi.bel) HC0.out H_n.out).mono ?_
    rintro e W' ⟨rfl, hb⟩
    refine Fl.keep (v := .tuple #[.agg #[.int .i64 n1, .int .i64 n2, .int .i64 n3], .int .i64 m1, .int .i64 m2_, .int .i64 m3]) hi hb ?_
    clear hi hb hE2
    simp only [Act.put, Fl.z1, Fl.z2, Fl.z3]
    refine Fl.take (some 224) (v := .tuple #[.agg #[.int .i64 n1, .int .i64 n2, .int .i64 n3], .int .i64 m1, .int .i64 m2_, .int .i64 m3]) rfl rfl (Or.inl ⟨by rfl, fun _ _ => by rfl⟩) ?_
    simp only [Act.put, Fl.z1, Fl.z2, Fl.z3]
    refine Fl.take (some 227) (v := .agg #[.int .i64 n1, .int .i64 n2, .int .i64 n3]) rfl rfl (Or.inl ⟨by rfl, fun _ _ => by rfl⟩) ?_
    simp only [Act.put, Fl.z1, Fl.z2, Fl.z3]
    refine Fl.take (some 228) (v := .int .i64 m1) rfl rfl (Or.inl ⟨by rfl, fun _ _ => by rfl⟩) ?_
    simp only [Act.put, Fl.z1, Fl.z2, Fl.z3]
    refine Fl.take (some 229) (v := .int .i64 m2_) rfl rfl (Or.inl ⟨by rfl, fun _ _ => by rfl⟩) ?_
    simp only [Act.put, Fl.z1, Fl.z2, Fl.z3]
    refine Fl.take (some 230) (v := .int .i64 m3) rfl rfl (Or.inl ⟨by rfl, fun _ _ => by rfl⟩) ?_
    simp only [Act.put, Fl.z1, Fl.z2, Fl.z3]
    refine Fl.var (N := 35) (cs := #[.int .i64 0, .int .i64 0, .int .i64 0]) (t := 60) ⟨_, rfl, rfl, fun _ => rfl, fun e w => by first | (go_simp; done) | (go_simp; rfl)⟩ (fun gC => ?_)
    simp only [Act.put, Fl.z1, Fl.z2, Fl.z3]
    refine Fl.store 0 #[.int .i64 n1, .int .i64 n2, .int .i64 n3] rfl rfl rfl rfl _ _ _ rfl rfl rfl (by rfl) rfl (by kernel_rfl) (by simp [Value.oneCell']) ?_
    refine Fl.take (some 36) (v := .int .i64 m1) rfl rfl (Or.inl ⟨by rfl, fun _ _ => by rfl⟩) ?_
    simp only [Act.put, Fl.z1, Fl.z2, Fl.z3]
    refine Fl.take (some 37) (v := .int .i64 m2_) rfl rfl (Or.inl ⟨by rfl, fun _ _ => by rfl⟩) ?_
    simp only [Act.put, Fl.z1, Fl.z2, Fl.z3]
    refine Fl.take (some 38) (v := .int .i64 m3) rfl rfl (Or.inl ⟨by rfl, fun _ _ => by rfl⟩) ?_
    simp only [Act.put, Fl.z1, Fl.z2, Fl.z3]
    refine Fl.stop (fun W hi => ?_)
    replace HI := Lib.hid hi
    clear hi
    go_upto_region 34 with (fail)
    refine Fl.startL [.take 0, .take 1, .take 2, .take 3, .one 4, .take 5, .take 6, .take 7, .take 8, .take 9] (by decide) HI.out ?_
    refine Fl.take (some 232) (v := .agg #[.int .i64 n1, .int .i64 n2, .int .i64 n3]) rfl rfl (Fl.ld 0 rfl (by rfl) _ _ rfl rfl Try.underlying60 rfl (by kernel_rfl)) ?_
    simp only [Act.put, Fl.z1, Fl.z2, Fl.z3]
    refine Fl.take (some 233) (v := .int .i64 m1) rfl rfl (Or.inl ⟨by rfl, fun _ _ => by rfl⟩) ?_
    simp only [Act.put, Fl.z1, Fl.z2, Fl.z3]
    refine Fl.take (some 234) (v := .int .i64 m2_) rfl rfl (Or.inl ⟨by rfl, fun _ _ => by rfl⟩) ?_
    simp only [Act.put, Fl.z1, Fl.z2, Fl.z3]
    refine Fl.take (some 235) (v := .int .i64 m3) rfl rfl (Or.inl ⟨by rfl, fun _ _ => by rfl⟩) ?_
    simp only [Act.put, Fl.z1, Fl.z2, Fl.z3]
    refine Fl.call (some 236) Try.func45 (by kernel_rfl) rfl #[.agg #[.int .i64 n1, .int .i64 n2, .int .i64 n3], .int .i64 m1, .int .i64 m2_, .int .i64 m3] rfl rfl rfl (by rfl) rfl (fun E2 W2 hE2 hi => ?_)
    refine (impl_NextCap.calls n1 n2 n3 m1 m2_ m3 nv nk W2  H_v.out).mono ?_
    rintro e W' ⟨rfl, hb⟩
    refine Fl.keep (v := .tuple #[.int .i64 nv, .bool nk]) hi hb ?_
    clear hi hb hE2
    simp only [Act.put, Fl.z1, Fl.z2, Fl.z3]
    refine Fl.take (some 231) (v := .tuple #[.int .i64 nv, .bool nk]) rfl rfl (Or.inl ⟨by rfl, fun _ _ => by rfl⟩) ?_
    simp only [Act.put, Fl.z1, Fl.z2, Fl.z3]
    refine Fl.take (some 237) (v := .int .i64 nv) rfl rfl (Or.inl ⟨by rfl, fun _ _ => by rfl⟩) ?_
    simp only [Act.put, Fl.z1, Fl.z2, Fl.z3]
    refine Fl.take (some 238) (v := .bool nk) rfl rfl (Or.inl ⟨by rfl, fun _ _ => by rfl⟩) ?_
    simp only [Act.put, Fl.z1, Fl.z2, Fl.z3]
    refine Fl.take (some 39) (v := .int .i64 nv) rfl rfl (Or.inl ⟨by rfl, fun _ _ => by rfl⟩) ?_
    simp only [Act.put, Fl.z1, Fl.z2, Fl.z3]
    refine Fl.take (some 40) (v := .bool nk) rfl rfl (Or.inl ⟨by rfl, fun _ _ => by rfl⟩) ?_
    simp only [Act.put, Fl.z1, Fl.z2, Fl.z3]
    refine Fl.stop (fun W hi => ?_)
    replace HI := Lib.hid hi
    clear hi
    go_upto_region 35 with (fail)
    refine Fl.startL [.take 0, .take 1, .take 2, .take 3, .one 4, .take 5, .take 6, .take 7, .take 8, .take 9] (by decide) HI.out ?_
    refine Fl.take (some 240) (v := .agg #[.int .i64 n1, .int .i64 n2, .int .i64 n3]) rfl rfl (Fl.ld 0 rfl (by rfl) _ _ rfl rfl Try.underlying60 rfl (by kernel_rfl)) ?_
    simp only [Act.put, Fl.z1, Fl.z2, Fl.z3]
    refine Fl.take (some 241) (v := .int .i64 m1) rfl rfl (Or.inl ⟨by rfl, fun _ _ => by rfl⟩) ?_
    simp only [Act.put, Fl.z1, Fl.z2, Fl.z3]
    refine Fl.take (some 242) (v := .int .i64 m2_) rfl rfl (Or.inl ⟨by rfl, fun _ _ => by rfl⟩) ?_
    simp only [Act.put, Fl.z1, Fl.z2, Fl.z3]
    refine Fl.take (some 243) (v := .int .i64 m3) rfl rfl (Or.inl ⟨by rfl, fun _ _ => by rfl⟩) ?_
    simp only [Act.put, Fl.z1, Fl.z2, Fl.z3]
    refine Fl.call (some 244) Try.func46 (by kernel_rfl) rfl #[.agg #[.int .i64 n1, .int .i64 n2, .int .i64 n3], .int .i64 m1, .int .i64 m2_, .int .i64 m3] rfl rfl rfl (by rfl) rfl (fun E2 W2 hE2 hi => ?_)
    refine (spec_NextCap.calls k n1 n2 n3 m1 m2_ m3 nv nk W2  H_v2.out).mono ?_
    rintro e W' ⟨rfl, hb⟩
    refine Fl.keep (v := .tuple #[.int .i64 nv, .bool nk]) hi hb ?_
    clear hi hb hE2
    simp only [Act.put, Fl.z1, Fl.z2, Fl.z3]
    refine Fl.take (some 239) (v := .tuple #[.int .i64 nv, .bool nk]) rfl rfl (Or.inl ⟨by rfl, fun _ _ => by rfl⟩) ?_
    simp only [Act.put, Fl.z1, Fl.z2, Fl.z3]
    refine Fl.take (some 245) (v := .int .i64 nv) rfl rfl (Or.inl ⟨by rfl, fun _ _ => by rfl⟩) ?_
    simp only [Act.put, Fl.z1, Fl.z2, Fl.z3]
    refine Fl.take (some 246) (v := .bool nk) rfl rfl (Or.inl ⟨by rfl, fun _ _ => by rfl⟩) ?_
    simp only [Act.put, Fl.z1, Fl.z2, Fl.z3]
    refine Fl.take (some 41) (v := .int .i64 nv) rfl rfl (Or.inl ⟨by rfl, fun _ _ => by rfl⟩) ?_
    simp only [Act.put, Fl.z1, Fl.z2, Fl.z3]
    refine Fl.take (some 42) (v := .bool nk) rfl rfl (Or.inl ⟨by rfl, fun _ _ => by rfl⟩) ?_
    simp only [Act.put, Fl.z1, Fl.z2, Fl.z3]
    refine Fl.stop (fun W hi => ?_)
    replace HI := Lib.hid hi
    clear hi
    go_upto_region 36 with (fail)
    refine Fl.startL [.take 0, .take 1, .take 2, .take 3, .take 4, .take 5, .take 6, .take 7, .take 8, .take 9, .take 10, .take 11, .take 12, .take 13, .take 14, .take 15, .take 16, .take 17, .take 18, .take 19, .take 20, .take 21, .take 22, .take 23, .take 24] (by decide) HI.out ?_
    refine Fl.take (some 247) (v := .int .i64 nv) rfl rfl (Or.inl ⟨by rfl, fun _ _ => by rfl⟩) ?_
    simp only [Act.put, Fl.z1, Fl.z2, Fl.z3]
    refine Fl.take (some 248) (v := .int .i64 nv) rfl rfl (Or.inl ⟨by rfl, fun _ _ => by rfl⟩) ?_
    simp only [Act.put, Fl.z1, Fl.z2, Fl.z3]
    refine Fl.take (some 249) (v := .bool false) rfl rfl (Or.inl ⟨by rfl, fun _ _ => by first | rfl | (go_simp; done) | (go_simp; rfl) | (go_simp; simp)⟩) ?_
    simp only [Act.put, Fl.z1, Fl.z2, Fl.z3]
    refine Fl.take (some 250) (v := .bool false) rfl rfl (Or.inl ⟨by rfl, fun _ _ => by rfl⟩) ?_
    simp only [Act.put, Fl.z1, Fl.z2, Fl.z3]
    refine Fl.take (some 251) (v := .bool nk) rfl rfl (Or.inl ⟨by rfl, fun _ _ => by rfl⟩) ?_
    simp only [Act.put, Fl.z1, Fl.z2, Fl.z3]
    refine Fl.take (some 252) (v := .bool nk) rfl rfl (Or.inl ⟨by rfl, fun _ _ => by rfl⟩) ?_
    simp only [Act.put, Fl.z1, Fl.z2, Fl.z3]
    refine Fl.take (some 253) (v := .bool false) rfl rfl (Or.inl ⟨by rfl, fun _ _ => by first | rfl | (go_simp; done) | (go_simp; rfl) | (go_simp; simp)⟩) ?_
    simp only [Act.put, Fl.z1, Fl.z2, Fl.z3]
    refine Fl.take (some 254) (v := .bool false) rfl rfl (Or.inl ⟨by rfl, fun _ _ => by rfl⟩) ?_
    simp only [Act.put, Fl.z1, Fl.z2, Fl.z3]
    refine Fl.take (some 255) (v := .bool false) rfl rfl (Or.inl ⟨by rfl, fun _ _ => by rfl⟩) ?_
    simp only [Act.put, Fl.z1, Fl.z2, Fl.z3]
    refine Fl.take (some 256) (v := .bool nk) rfl rfl (Or.inl ⟨by rfl, fun _ _ => by rfl⟩) ?_
    simp only [Act.put, Fl.z1, Fl.z2, Fl.z3]
    refine Fl.take (some 257) (v := .bool nk) rfl rfl (Or.inl ⟨by rfl, fun _ _ => by rfl⟩) ?_
    simp only [Act.put, Fl.z1, Fl.z2, Fl.z3]
    refine Fl.take (some 258) (v := (cond nk (.int .i64 nv) undef)) rfl rfl (by cases nk <;> first | exact Or.inr ⟨by rfl, by rfl⟩ | exact Or.inl ⟨by rfl, fun _ _ => by first | rfl | (go_simp; done) | (go_simp; rfl) | (go_simp; simp only [i64_w])⟩) ?_
    simp only [Act.put, Fl.z1, Fl.z2, Fl.z3]
    refine Fl.take (some 259) (v := (cond nk (.int .i64 m1) undef)) rfl rfl (by cases nk <;> first | exact Or.inr ⟨by rfl, by rfl⟩ | exact Or.inl ⟨by rfl, fun _ _ => by first | rfl | (go_simp; done) | (go_simp; rfl) | (go_simp; simp only [i64_w])⟩) ?_
    simp only [Act.put, Fl.z1, Fl.z2, Fl.z3]
    refine Fl.take (some 260) (v := (cond nk (.int .i64 m3) undef)) rfl rfl (by cases nk <;> first | exact Or.inr ⟨by rfl, by rfl⟩ | exact Or.inl ⟨by rfl, fun _ _ => by first | rfl | (go_simp; done) | (go_simp; rfl) | (go_simp; simp only [i64_w])⟩) ?_
    simp only [Act.put, Fl.z1, Fl.z2, Fl.z3]
    refine Fl.take (some 261) (v := (cond nk (.int .i64 (wrap64 (m1 + m3))) undef)) rfl rfl (by cases nk <;> first | exact Or.inr ⟨by rfl, by rfl⟩ | exact Or.inl ⟨by rfl, fun _ _ => by first | rfl | (go_simp; done) | (go_simp; rfl) | (go_simp; simp only [i64_w])⟩) ?_
    simp only [Act.put, Fl.z1, Fl.z2, Fl.z3]
    refine Fl.take (some 262) (v := (cond nk (.bool false) undef)) rfl rfl (by cases nk <;> first | exact Or.inr ⟨by rfl, by rfl⟩ | exact Or.inl ⟨by rfl, fun _ _ => by first | rfl | (go_simp; done) | (go_simp; rfl) | (go_simp; simp only [i64_w]) | (have h_ := eq_false ((HC1.out rfl).1); first | (go_simp; done) | (go_simp; rfl) | (go_simp; omega))⟩) ?_
    simp only [Act.put, Fl.z1, Fl.z2, Fl.z3]
    refine Fl.take (some 263) (v := (cond nk (.bool false) undef)) rfl rfl (by cases nk <;> first | exact Or.inr ⟨by rfl, by rfl⟩ | exact Or.inl ⟨by rfl, fun _ _ => by first | rfl | (go_simp; done) | (go_simp; rfl) | (go_simp; simp only [i64_w])⟩) ?_
    simp only [Act.put, Fl.z1, Fl.z2, Fl.z3]
    refine Fl.take (some 264) (v := (cond nk (.int .i64 nv) undef)) rfl rfl (by cases nk <;> first | exact Or.inr ⟨by rfl, by rfl⟩ | exact Or.inl ⟨by rfl, fun _ _ => by first | rfl | (go_simp; done) | (go_simp; rfl) | (go_simp; simp only [i64_w])⟩) ?_
    simp only [Act.put, Fl.z1, Fl.z2, Fl.z3]
    refine Fl.take (some 265) (v := (cond nk (.int .i64 m1) undef)) rfl rfl (by cases nk <;> first | exact Or.inr ⟨by rfl, by rfl⟩ | exact Or.inl ⟨by rfl, fun _ _ => by first | rfl | (go_simp; done) | (go_simp; rfl) | (go_simp; simp only [i64_w])⟩) ?_
    simp only [Act.put, Fl.z1, Fl.z2, Fl.z3]
    refine Fl.take (some 266) (v := (cond nk (.int .i64 m2_) undef)) rfl rfl (by cases nk <;> first | exact Or.inr ⟨by rfl, by rfl⟩ | exact Or.inl ⟨by rfl, fun _ _ => by first | rfl | (go_simp; done) | (go_simp; rfl) | (go_simp; simp only [i64_w])⟩) ?_
    simp only [Act.put, Fl.z1, Fl.z2, Fl.z3]
    refine Fl.take (some 267) (v := (cond nk (.int .i64 (wrap64 (m1 + m2_))) undef)) rfl rfl (by cases nk <;> first | exact Or.inr ⟨by rfl, by rfl⟩ | exact Or.inl ⟨by rfl, fun _ _ => by first | rfl | (go_simp; done) | (go_simp; rfl) | (go_simp; simp only [i64_w])⟩) ?_
    simp only [Act.put, Fl.z1, Fl.z2, Fl.z3]
    refine Fl.take (some 268) (v := (cond nk (.bool false) undef)) rfl rfl (by cases nk <;> first | exact Or.inr ⟨by rfl, by rfl⟩ | exact Or.inl ⟨by rfl, fun _ _ => by first | rfl | (go_simp; done) | (go_simp; rfl) | (go_simp; simp only [i64_w]) | (have h_ := eq_false ((HC1.out rfl).2); first | (go_simp; done) | (go_simp; rfl) | (go_simp; omega))⟩) ?_
    simp only [Act.put, Fl.z1, Fl.z2, Fl.z3]
    refine Fl.take (some 269) (v := (cond nk (.bool false) undef)) rfl rfl (by cases nk <;> first | exact Or.inr ⟨by rfl, by rfl⟩ | exact Or.inl ⟨by rfl, fun _ _ => by first | rfl | (go_simp; done) | (go_simp; rfl) | (go_simp; simp only [i64_w])⟩) ?_
    simp only [Act.put, Fl.z1, Fl.z2, Fl.z3]
    refine Fl.take (some 270) (v := .bool false) rfl rfl (by cases nk <;> exact Or.inl ⟨by rfl, fun _ _ => by rfl⟩) ?_
    simp only [Act.put, Fl.z1, Fl.z2, Fl.z3]
    refine Fl.take (some 271) (v := .bool false) rfl rfl (Or.inl ⟨by rfl, fun _ _ => by rfl⟩) ?_
    simp only [Act.put, Fl.z1, Fl.z2, Fl.z3]
    refine Fl.stop (fun W hi => ?_)
    replace HI := Lib.hid hi
    clear hi
    obtain ⟨hqb, hhq⟩ : ∃ b, b = decide (q1 ≥ wrap64 (2 * q2)) := ⟨_, rfl⟩
    have HQB := Lib.hid hhq
    clear hhq
    go_upto_region 38 with (fail)
    refine Fl.startL [.take 0, .take 1, .take 2, .take 3, .take 4, .take 5, .take 6, .take 7, .take 8, .take 9, .take 10, .take 11, .take 12, .take 13, .take 14, .take 15, .take 16, .take 17, .take 18, .take 19, .take 20, .take 21, .take 22, .take 23, .take 24] (by decide) HI.out ?_
    refine Fl.take (some 272) (v := .bool so) rfl rfl (Or.inl ⟨by rfl, fun _ _ => by rfl⟩) ?_
    simp only [Act.put, Fl.z1, Fl.z2, Fl.z3]
    refine Fl.take (some 273) (v := .bool so) rfl rfl (Or.inl ⟨by rfl, fun _ _ => by rfl⟩) ?_
    simp only [Act.put, Fl.z1, Fl.z2, Fl.z3]
    refine Fl.take (some 274) (v := (cond so (.int .i64 sc) undef)) rfl rfl (by cases so <;> first | exact Or.inr ⟨by rfl, by rfl⟩ | exact Or.inl ⟨by rfl, fun _ _ => by first | rfl | (go_simp; done) | (go_simp; rfl) | (go_simp; simp only [i64_w])⟩) ?_
    simp only [Act.put, Fl.z1, Fl.z2, Fl.z3]
    refine Fl.take (some 275) (v := (cond so (.int .i64 k1) undef)) rfl rfl (by cases so <;> first | exact Or.inr ⟨by rfl, by rfl⟩ | exact Or.inl ⟨by rfl, fun _ _ => by first | rfl | (go_simp; done) | (go_simp; rfl) | (go_simp; simp only [i64_w])⟩) ?_
    simp only [Act.put, Fl.z1, Fl.z2, Fl.z3]
    refine Fl.take (some 276) (v := (cond so (.bool false) undef)) rfl rfl (by cases so <;> first | exact Or.inr ⟨by rfl, by rfl⟩ | exact Or.inl ⟨by rfl, fun _ _ => by first | rfl | (go_simp; done) | (go_simp; rfl) | (go_simp; simp only [i64_w]) | (have h_ := eq_false ((HC2.out rfl).1); first | (go_simp; done) | (go_simp; rfl) | (go_simp; omega))⟩) ?_
    simp only [Act.put, Fl.z1, Fl.z2, Fl.z3]
    refine Fl.take (some 277) (v := (cond so (.bool false) undef)) rfl rfl (by cases so <;> first | exact Or.inr ⟨by rfl, by rfl⟩ | exact Or.inl ⟨by rfl, fun _ _ => by first | rfl | (go_simp; done) | (go_simp; rfl) | (go_simp; simp only [i64_w])⟩) ?_
    simp only [Act.put, Fl.z1, Fl.z2, Fl.z3]
    refine Fl.take (some 278) (v := (cond so (.int .i64 sm) undef)) rfl rfl (by cases so <;> first | exact Or.inr ⟨by rfl, by rfl⟩ | exact Or.inl ⟨by rfl, fun _ _ => by first | rfl | (go_simp; done) | (go_simp; rfl) | (go_simp; simp only [i64_w])⟩) ?_
    simp only [Act.put, Fl.z1, Fl.z2, Fl.z3]
    refine Fl.take (some 279) (v := (cond so (.int .i64 k1) undef)) rfl rfl (by cases so <;> first | exact Or.inr ⟨by rfl, by rfl⟩ | exact Or.inl ⟨by rfl, fun _ _ => by first | rfl | (go_simp; done) | (go_simp; rfl) | (go_simp; simp only [i64_w])⟩) ?_
    simp only [Act.put, Fl.z1, Fl.z2, Fl.z3]
    refine Fl.take (some 280) (v := (cond so (.bool false) undef)) rfl rfl (by cases so <;> first | exact Or.inr ⟨by rfl, by rfl⟩ | exact Or.inl ⟨by rfl, fun _ _ => by first | rfl | (go_simp; done) | (go_simp; rfl) | (go_simp; simp only [i64_w]) | (have h_ := eq_false ((HC2.out rfl).2.1); first | (go_simp; done) | (go_simp; rfl) | (go_simp; omega))⟩) ?_
    simp only [Act.put, Fl.z1, Fl.z2, Fl.z3]
    refine Fl.take (some 281) (v := (cond so (.bool false) undef)) rfl rfl (by cases so <;> first | exact Or.inr ⟨by rfl, by rfl⟩ | exact Or.inl ⟨by rfl, fun _ _ => by first | rfl | (go_simp; done) | (go_simp; rfl) | (go_simp; simp only [i64_w])⟩) ?_
    simp only [Act.put, Fl.z1, Fl.z2, Fl.z3]
    refine Fl.take (some 282) (v := (cond so (.bool false) undef)) rfl rfl (by cases so <;> first | exact Or.inr ⟨by rfl, by rfl⟩ | exact Or.inl ⟨by rfl, fun _ _ => by first | rfl | (go_simp; done) | (go_simp; rfl) | (go_simp; simp only [i64_w])⟩) ?_
    simp only [Act.put, Fl.z1, Fl.z2, Fl.z3]
    refine Fl.take (some 283) (v := (cond so (.pointer (some ⟨gB, 0, none⟩)) undef)) rfl rfl (by cases so <;> first | exact Or.inr ⟨by rfl, by rfl⟩ | exact Or.inl ⟨by rfl, fun _ _ => by first | rfl | (go_simp; done) | (go_simp; rfl) | (go_simp; simp only [i64_w])⟩) ?_
    simp only [Act.put, Fl.z1, Fl.z2, Fl.z3]
    refine Fl.take (some 284) (v := (cond so (.int .i64 q1) undef)) rfl rfl (by cases so <;> first | exact Or.inr ⟨by rfl, by rfl⟩ | exact Fl.ldc 1 0 rfl (by rfl) _ _ rfl rfl rfl Try.underlying3 rfl) ?_
    simp only [Act.put, Fl.z1, Fl.z2, Fl.z3]
    refine Fl.take (some 285) (v := (cond so (.pointer (some ⟨gB, 1, none⟩)) undef)) rfl rfl (by cases so <;> first | exact Or.inr ⟨by rfl, by rfl⟩ | exact Or.inl ⟨by rfl, fun _ _ => by first | rfl | (go_simp; done) | (go_simp; rfl) | (go_simp; simp only [i64_w])⟩) ?_
    simp only [Act.put, Fl.z1, Fl.z2, Fl.z3]
    refine Fl.take (some 286) (v := (cond so (.int .i64 q2) undef)) rfl rfl (by cases so <;> first | exact Or.inr ⟨by rfl, by rfl⟩ | exact Fl.ldc 1 1 rfl (by rfl) _ _ rfl rfl rfl Try.underlying3 rfl) ?_
    simp only [Act.put, Fl.z1, Fl.z2, Fl.z3]
    refine Fl.take (some 287) (v := (cond so (.int .i64 (wrap64 (2 * q2))) undef)) rfl rfl (by cases so <;> first | exact Or.inr ⟨by rfl, by rfl⟩ | exact Or.inl ⟨by rfl, fun _ _ => by first | rfl | (go_simp; done) | (go_simp; rfl) | (go_simp; simp only [i64_w])⟩) ?_
    simp only [Act.put, Fl.z1, Fl.z2, Fl.z3]
    refine Fl.take (some 288) (v := (cond so (.bool hqb) undef)) rfl rfl (by cases so <;> first | exact Or.inr ⟨by rfl, by rfl⟩ | exact Or.inl ⟨by rfl, fun _ _ => by first | rfl | (go_simp; done) | (go_simp; rfl) | (go_simp; simp only [i64_w]) | (have h_ := HQB.out; first | (go_simp; rw [h_]; done) | (subst h_; go_simp; done) | (subst h_; go_simp; rfl) | (go_simp; simp [h_]))⟩) ?_
    simp only [Act.put, Fl.z1, Fl.z2, Fl.z3]
    refine Fl.take (some 289) (v := (cond so (.bool hqb) undef)) rfl rfl (by cases so <;> first | exact Or.inr ⟨by rfl, by rfl⟩ | exact Or.inl ⟨by rfl, fun _ _ => by first | rfl | (go_simp; done) | (go_simp; rfl) | (go_simp; simp only [i64_w])⟩) ?_
    simp only [Act.put, Fl.z1, Fl.z2, Fl.z3]
    refine Fl.take (some 290) (v := (cond so ((cond hqb (.int .i64 sc) undef)) undef)) rfl rfl (by cases so <;> cases hqb <;> first | exact Or.inr ⟨by rfl, by rfl⟩ | exact Or.inl ⟨by rfl, fun _ _ => by first | rfl | (go_simp; done) | (go_simp; rfl) | (go_simp; simp only [i64_w])⟩) ?_
    simp only [Act.put, Fl.z1, Fl.z2, Fl.z3]
    refine Fl.take (some 291) (v := (cond so ((cond hqb (.int .i64 k1) undef)) undef)) rfl rfl (by cases so <;> cases hqb <;> first | exact Or.inr ⟨by rfl, by rfl⟩ | exact Or.inl ⟨by rfl, fun _ _ => by first | rfl | (go_simp; done) | (go_simp; rfl) | (go_simp; simp only [i64_w])⟩) ?_
    simp only [Act.put, Fl.z1, Fl.z2, Fl.z3]
    refine Fl.take (some 292) (v := (cond so ((cond hqb (.int .i64 (wrap64 (3 * k1))) undef)) undef)) rfl rfl (by cases so <;> cases hqb <;> first | exact Or.inr ⟨by rfl, by rfl⟩ | exact Or.inl ⟨by rfl, fun _ _ => by first | rfl | (go_simp; done) | (go_simp; rfl) | (go_simp; simp only [i64_w])⟩) ?_
    simp only [Act.put, Fl.z1, Fl.z2, Fl.z3]
    refine Fl.take (some 293) (v := (cond so ((cond hqb (.bool false) undef)) undef)) rfl rfl (by cases so <;> cases hqb <;> first | exact Or.inr ⟨by rfl, by rfl⟩ | exact Or.inl ⟨by rfl, fun _ _ => by first | rfl | (go_simp; done) | (go_simp; rfl) | (go_simp; simp only [i64_w]) | (have h_ := eq_false ((HC2.out rfl).2.2 (of_decide_eq_true HQB.out.symm)); first | (go_simp; done) | (go_simp; rfl) | (go_simp; omega))⟩) ?_
    simp only [Act.put, Fl.z1, Fl.z2, Fl.z3]
    refine Fl.take (some 294) (v := (cond so (.bool false) undef)) rfl rfl (by cases so <;> cases hqb <;> first | exact Or.inr ⟨by rfl, by rfl⟩ | exact Or.inl ⟨by rfl, fun _ _ => by rfl⟩) ?_
    simp only [Act.put, Fl.z1, Fl.z2, Fl.z3]
    refine Fl.take (some 295) (v := (cond so (.bool false) undef)) rfl rfl (by cases so <;> first | exact Or.inr ⟨by rfl, by rfl⟩ | exact Or.inl ⟨by rfl, fun _ _ => by first | rfl | (go_simp; done) | (go_simp; rfl) | (go_simp; simp only [i64_w])⟩) ?_
    simp only [Act.put, Fl.z1, Fl.z2, Fl.z3]
    refine Fl.take (some 296) (v := .bool false) rfl rfl (by cases so <;> exact Or.inl ⟨by rfl, fun _ _ => by rfl⟩) ?_
    simp only [Act.put, Fl.z1, Fl.z2, Fl.z3]
    refine Fl.stop (fun W hi => ?_)
    replace HI := Lib.hid hi
    clear hi
    have h := HL.out
    cases ok with
    | false =>
      rw [if_neg (by decide)] at h
      obtain rfl := Option.some.inj h
      clear h HL
      go_upto_region 40 with (fail)
      refine Fl.startL [.take 0, .take 1] (by decide) HI.out ?_
      refine Fl.take (some 297) (v := .bool false) rfl rfl (Or.inl ⟨by rfl, fun _ _ => by rfl⟩) ?_
      simp only [Act.put, Fl.z1, Fl.z2, Fl.z3]
      refine Fl.take (some 298) (v := .bool true) rfl rfl (Or.inl ⟨by rfl, fun _ _ => by rfl⟩) ?_
      simp only [Act.put, Fl.z1, Fl.z2, Fl.z3]
      refine Fl.stop (fun W hi => ?_)
      replace HI := Lib.hid hi
      clear hi
      go_wp2
      go_ret
      exact ⟨rfl, HI.out.bel⟩
    | true =>
      rw [if_pos rfl] at h
      have HG := Lib.hid h
      have HLL : Hid (lst.length ≤ 9223372036854775807) := Lib.hid ((HI.out.cR 5 rfl).2.1)
      clear h HL
      go_upto_region 40 with (fail)
      refine Fl.startL [.take 0, .take 1] (by decide) HI.out ?_
      refine Fl.take (some 297) (v := .bool true) rfl rfl (Or.inl ⟨by rfl, fun _ _ => by rfl⟩) ?_
      simp only [Act.put, Fl.z1, Fl.z2, Fl.z3]
      refine Fl.take (some 298) (v := .bool false) rfl rfl (Or.inl ⟨by rfl, fun _ _ => by rfl⟩) ?_
      simp only [Act.put, Fl.z1, Fl.z2, Fl.z3]
      refine Fl.stop (fun W hi => ?_)
      replace HI := Lib.hid hi
      clear hi
      go_wp2
      go_loopg [43, 44, 45, 46] lst.length (fun gg s43 s44 s45 s46 wr => ∃ (i : Nat) (a b c : Int), s43 = .int .i64 a ∧ s44 = .int .i64 b ∧ s45 = .int .i64 c ∧ s46 = .int .i64 (i : Int) ∧ Hid (i ≤ lst.length ∧ lst.length - i ≤ gg) ∧ Hid (laws_FnGrowth.lp lst caps mv cs (lst.length - i) i a b c = some r) ∧ Hid (Lv.Inv w wr [Lv.boxF gC #[.int .i64 n1, .int .i64 n2, .int .i64 n3] 60, Lv.boxF gB #[.int .i64 q1, .int .i64 q2, .int .i64 q3] 60, Lv.rowF (Kd.int .i64) 3 w.heap.size (.slice A3 caps2.length c3) (caps2), Lv.rowF (Kd.int .i64) 3 w.heap.size (.slice A2 caps.length c2) (caps), Lv.boxF gA #[.int .i64 g1, .int .i64 g2, .int .i64 g3] 60, Lv.rowF (Kd.int .i64) 3 w.heap.size (.slice A1 lst.length c1) (lst)]))
      case atStart => exact ⟨0, 0, 0, 0, rfl, rfl, rfl, rfl, Lib.hid (by simp), HG, HI⟩
      case round =>
        clear HI HG
        obtain ⟨i, a, b, c, rfl, rfl, rfl, rfl, HK, HG, HI⟩ := hrel
        by_cases hlt : i < lst.length
        · have hg := HG.out
          rw [show lst.length - i = (lst.length - (i + 1)) + 1 by omega, laws_FnGrowth.lp] at hg
          obtain ⟨⟨_, hci⟩, hg⟩ := Lx.of_condO hg
          obtain ⟨⟨hn1, hn2⟩, hg⟩ := Lx.of_condO hg
          obtain ⟨x, hx⟩ : ∃ x, lst[i]? = some x := ⟨_, List.getElem?_eq_getElem hlt⟩
          obtain ⟨y, hy⟩ : ∃ y, caps[i]? = some y := ⟨_, List.getElem?_eq_getElem hci⟩
          rw [show rd lst (i : Int) = x from by show lst.getD i 0 = x; rw [List.getD_eq_getElem?_getD, hx]; rfl, show rd caps (i : Int) = y from by show caps.getD i 0 = y; rw [List.getD_eq_getElem?_getD, hy]; rfl] at hg
          rw [show rd caps (i : Int) = y from by show caps.getD i 0 = y; rw [List.getD_eq_getElem?_getD, hy]; rfl] at hn1 hn2
          rw [show rd lst (i : Int) = x from by show lst.getD i 0 = x; rw [List.getD_eq_getElem?_getD, hx]; rfl] at hn2
          have HX := Lib.hid hx
          have HY := Lib.hid hy
          have HN1 := Lib.hid hn1
          have HN2 := Lib.hid hn2
          have HG2 := Lib.hid hg
          have HLT := Lib.hid hlt
          have HCI := Lib.hid hci
          obtain ⟨b1, o1, rfl⟩ := laws_FnGrowth.addr (HI.out.cR 5 rfl) (by omega)
          obtain ⟨b2, o2, rfl⟩ := laws_FnGrowth.addr (HI.out.cR 3 rfl) (by omega)
          have k0 : (0 : Int) ≤ (i : Int) := by omega
          have k1_ : (i : Int) < (lst.length : Int) := by omega
          have k2_ : (i : Int) < (caps.length : Int) := by omega
          clear hx hy hn1 hn2 hg HG hci
          go_upto_region 46 with (fail)
          refine Fl.startL [.take 0, .take 1, .take 2, .take 3, .take 4, .take 5, .take 6] (by decide) HI.out ?_
          refine Fl.take (some 305) (v := .int .i64 a) rfl rfl (Or.inl ⟨by rfl, fun _ _ => by rfl⟩) ?_
          simp only [Act.put, Fl.z1, Fl.z2, Fl.z3]
          refine Fl.take (some 306) (v := .slice (some ⟨b1, o1, none⟩) lst.length c1) rfl rfl (Or.inl ⟨by rfl, fun _ _ => by rfl⟩) ?_
          simp only [Act.put, Fl.z1, Fl.z2, Fl.z3]
          refine Fl.take (some 307) (v := .int .i64 (i : Int)) rfl rfl (Or.inl ⟨by rfl, fun _ _ => by rfl⟩) ?_
          simp only [Act.put, Fl.z1, Fl.z2, Fl.z3]
          refine Fl.take (some 308) (v := .pointer (some ⟨b1, o1 + i, none⟩)) rfl rfl (Or.inl ⟨by rfl, fun _ _ => by first | rfl | (go_simp; done) | (go_simp; rfl) | (go_simp; omega)⟩) ?_
          simp only [Act.put, Fl.z1, Fl.z2, Fl.z3]
          refine Fl.take (some 309) (v := .int .i64 x) rfl rfl (Fl.yieldsIf_load_cell (by rfl) _ _ rfl b1 (o1 + i) rfl (fun W1 hW1 => laws_FnGrowth.cellR (hW1.cR 5 rfl) i x HX.out HLT.out) Try.underlying3 rfl) ?_
          simp only [Act.put, Fl.z1, Fl.z2, Fl.z3]
          refine Fl.take (some 310) (v := .int .i64 (wrap64 (a + x))) rfl rfl (Or.inl ⟨by rfl, fun _ _ => by first | rfl | (go_simp; done) | (go_simp; rfl) | (go_simp; simp only [i64_w])⟩) ?_
          simp only [Act.put, Fl.z1, Fl.z2, Fl.z3]
          refine Fl.take (some 43) (v := .int .i64 (wrap64 (a + x))) rfl rfl (Or.inl ⟨by rfl, fun _ _ => by rfl⟩) ?_
          simp only [Act.put, Fl.z1, Fl.z2, Fl.z3]
          refine Fl.stop (fun W hi => ?_)
          replace HI := Lib.hid hi
          clear hi
          go_upto_region 47 with (fail)
          refine Fl.startL [.take 0, .take 1, .take 2, .take 3, .take 4, .take 5, .take 6, .take 7, .take 8, .take 9, .take 10, .take 11, .take 12, .take 13] (by decide) HI.out ?_
          refine Fl.take (some 311) (v := .slice (some ⟨b2, o2, none⟩) caps.length c2) rfl rfl (Or.inl ⟨by rfl, fun _ _ => by rfl⟩) ?_
          simp only [Act.put, Fl.z1, Fl.z2, Fl.z3]
          refine Fl.take (some 312) (v := .int .i64 (i : Int)) rfl rfl (Or.inl ⟨by rfl, fun _ _ => by rfl⟩) ?_
          simp only [Act.put, Fl.z1, Fl.z2, Fl.z3]
          refine Fl.take (some 313) (v := .pointer (some ⟨b2, o2 + i, none⟩)) rfl rfl (Or.inl ⟨by rfl, fun _ _ => by first | rfl | (go_simp; done) | (go_simp; rfl) | (go_simp; omega)⟩) ?_
          simp only [Act.put, Fl.z1, Fl.z2, Fl.z3]
          refine Fl.take (some 314) (v := .int .i64 y) rfl rfl (Fl.yieldsIf_load_cell (by rfl) _ _ rfl b2 (o2 + i) rfl (fun W1 hW1 => laws_FnGrowth.cellR (hW1.cR 3 rfl) i y HY.out HCI.out) Try.underlying3 rfl) ?_
          simp only [Act.put, Fl.z1, Fl.z2, Fl.z3]
          refine Fl.take (some 315) (v := .int .i64 c) rfl rfl (Or.inl ⟨by rfl, fun _ _ => by rfl⟩) ?_
          simp only [Act.put, Fl.z1, Fl.z2, Fl.z3]
          refine Fl.take (some 316) (v := .bool false) rfl rfl (Or.inl ⟨by rfl, fun _ _ => by have h_ := eq_false (HN1.out); first | (go_simp; done) | (go_simp; rfl) | (go_simp; omega)⟩) ?_
          simp only [Act.put, Fl.z1, Fl.z2, Fl.z3]
          refine Fl.take (some 317) (v := .bool false) rfl rfl (Or.inl ⟨by rfl, fun _ _ => by rfl⟩) ?_
          simp only [Act.put, Fl.z1, Fl.z2, Fl.z3]
          refine Fl.take (some 318) (v := .slice (some ⟨b2, o2, none⟩) caps.length c2) rfl rfl (Or.inl ⟨by rfl, fun _ _ => by rfl⟩) ?_
          simp only [Act.put, Fl.z1, Fl.z2, Fl.z3]
          refine Fl.take (some 319) (v := .int .i64 (i : Int)) rfl rfl (Or.inl ⟨by rfl, fun _ _ => by rfl⟩) ?_
          simp only [Act.put, Fl.z1, Fl.z2, Fl.z3]
          refine Fl.take (some 320) (v := .pointer (some ⟨b2, o2 + i, none⟩)) rfl rfl (Or.inl ⟨by rfl, fun _ _ => by first | rfl | (go_simp; done) | (go_simp; rfl) | (go_simp; omega)⟩) ?_
          simp only [Act.put, Fl.z1, Fl.z2, Fl.z3]
          refine Fl.take (some 321) (v := .int .i64 y) rfl rfl (Fl.yieldsIf_load_cell (by rfl) _ _ rfl b2 (o2 + i) rfl (fun W1 hW1 => laws_FnGrowth.cellR (hW1.cR 3 rfl) i y HY.out HCI.out) Try.underlying3 rfl) ?_
          simp only [Act.put, Fl.z1, Fl.z2, Fl.z3]
          refine Fl.take (some 322) (v := .int .i64 (wrap64 (a + x))) rfl rfl (Or.inl ⟨by rfl, fun _ _ => by rfl⟩) ?_
          simp only [Act.put, Fl.z1, Fl.z2, Fl.z3]
          refine Fl.take (some 323) (v := .bool false) rfl rfl (Or.inl ⟨by rfl, fun _ _ => by have h_ := eq_false (HN2.out); first | (go_simp; done) | (go_simp; rfl) | (go_simp; omega)⟩) ?_
          simp only [Act.put, Fl.z1, Fl.z2, Fl.z3]
          refine Fl.take (some 324) (v := .bool false) rfl rfl (Or.inl ⟨by rfl, fun _ _ => by rfl⟩) ?_
          simp only [Act.put, Fl.z1, Fl.z2, Fl.z3]
          refine Fl.stop (fun W hi => ?_)
          replace HI := Lib.hid hi
          clear hi
          by_cases hgt : y > c
          · have HGT := Lib.hid hgt
            have hg := HG2.out
            rw [if_pos hgt] at hg
            have HG3 := Lib.hid hg
            clear hgt hg HG2
            go_upto_region 49 with (fail)
            refine Fl.startL [.take 0, .take 1, .take 2, .take 3, .take 4, .take 5] (by decide) HI.out ?_
            refine Fl.take (some 325) (v := .slice (some ⟨b2, o2, none⟩) caps.length c2) rfl rfl (Or.inl ⟨by rfl, fun _ _ => by rfl⟩) ?_
            simp only [Act.put, Fl.z1, Fl.z2, Fl.z3]
            refine Fl.take (some 326) (v := .int .i64 (i : Int)) rfl rfl (Or.inl ⟨by rfl, fun _ _ => by rfl⟩) ?_
            simp only [Act.put, Fl.z1, Fl.z2, Fl.z3]
            refine Fl.take (some 327) (v := .pointer (some ⟨b2, o2 + i, none⟩)) rfl rfl (Or.inl ⟨by rfl, fun _ _ => by first | rfl | (go_simp; done) | (go_simp; rfl) | (go_simp; omega)⟩) ?_
            simp only [Act.put, Fl.z1, Fl.z2, Fl.z3]
            refine Fl.take (some 328) (v := .int .i64 y) rfl rfl (Fl.yieldsIf_load_cell (by rfl) _ _ rfl b2 (o2 + i) rfl (fun W1 hW1 => laws_FnGrowth.cellR (hW1.cR 3 rfl) i y HY.out HCI.out) Try.underlying3 rfl) ?_
            simp only [Act.put, Fl.z1, Fl.z2, Fl.z3]
            refine Fl.take (some 329) (v := .int .i64 c) rfl rfl (Or.inl ⟨by rfl, fun _ _ => by rfl⟩) ?_
            simp only [Act.put, Fl.z1, Fl.z2, Fl.z3]
            refine Fl.take (some 330) (v := .bool true) rfl rfl (Or.inl ⟨by rfl, fun _ _ => by have h_ := eq_true HGT.out; first | (go_simp; done) | (go_simp; rfl) | (go_simp; omega)⟩) ?_
            simp only [Act.put, Fl.z1, Fl.z2, Fl.z3]
            refine Fl.stop (fun W hi => ?_)
            replace HI := Lib.hid hi
            clear hi
            go_upto_region 50 with (fail)
            refine Fl.startL [.take 0, .take 1, .take 2] (by decide) HI.out ?_
            refine Fl.take (some 331) (v := .int .i64 b) rfl rfl (Or.inl ⟨by rfl, fun _ _ => by rfl⟩) ?_
            simp only [Act.put, Fl.z1, Fl.z2, Fl.z3]
            refine Fl.take (some 332) (v := .int .i64 (wrap64 (b + 1))) rfl rfl (Or.inl ⟨by rfl, fun _ _ => by first | rfl | (go_simp; done) | (go_simp; rfl) | (go_simp; simp only [i64_w])⟩) ?_
            simp only [Act.put, Fl.z1, Fl.z2, Fl.z3]
            refine Fl.take (some 44) (v := .int .i64 (wrap64 (b + 1))) rfl rfl (Or.inl ⟨by rfl, fun _ _ => by rfl⟩) ?_
            simp only [Act.put, Fl.z1, Fl.z2, Fl.z3]
            refine Fl.stop (fun W hi => ?_)
            replace HI := Lib.hid hi
            clear hi
            go_upto_region 51 with (fail)
            refine Fl.startL [.take 0, .take 1, .take 2, .take 3, .take 4] (by decide) HI.out ?_
            refine Fl.take (some 333) (v := .slice (some ⟨b2, o2, none⟩) caps.length c2) rfl rfl (Or.inl ⟨by rfl, fun _ _ => by rfl⟩) ?_
            simp only [Act.put, Fl.z1, Fl.z2, Fl.z3]
            refine Fl.take (some 334) (v := .int .i64 (i : Int)) rfl rfl (Or.inl ⟨by rfl, fun _ _ => by rfl⟩) ?_
            simp only [Act.put, Fl.z1, Fl.z2, Fl.z3]
            refine Fl.take (some 335) (v := .pointer (some ⟨b2, o2 + i, none⟩)) rfl rfl (Or.inl ⟨by rfl, fun _ _ => by first | rfl | (go_simp; done) | (go_simp; rfl) | (go_simp; omega)⟩) ?_
            simp only [Act.put, Fl.z1, Fl.z2, Fl.z3]
            refine Fl.take (some 336) (v := .int .i64 y) rfl rfl (Fl.yieldsIf_load_cell (by rfl) _ _ rfl b2 (o2 + i) rfl (fun W1 hW1 => laws_FnGrowth.cellR (hW1.cR 3 rfl) i y HY.out HCI.out) Try.underlying3 rfl) ?_
            simp only [Act.put, Fl.z1, Fl.z2, Fl.z3]
            refine Fl.take (some 45) (v := .int .i64 y) rfl rfl (Or.inl ⟨by rfl, fun _ _ => by rfl⟩) ?_
            simp only [Act.put, Fl.z1, Fl.z2, Fl.z3]
            refine Fl.stop (fun W hi => ?_)
            replace HI := Lib.hid hi
            clear hi
            go_wp2
            go_roundg (lst.length - (i + 1))
            case measure => have := HK.out; omega
            case rel => exact ⟨i + 1, wrap64 (a + x), wrap64 (b + 1), y, rfl, rfl, rfl, by have hw : wrap64 ((i : Int) + 1) = ((i + 1 : Nat) : Int) := (by unfold wrap64; have := HLL.out; have := HLT.out; omega); first | (rw [hw]; done) | (simp only [i64_w]; rw [hw]; done) | (simp only [i64_w, hw]; done) | go_num, Lib.hid (by have := HK.out; omega), HG3, HI⟩
          · have HGT := Lib.hid hgt
            have hg := HG2.out
            rw [if_neg hgt] at hg
            have HG3 := Lib.hid hg
            clear hgt hg HG2
            go_upto_region 49 with (fail)
            refine Fl.startL [.take 0, .take 1, .take 2, .take 3, .take 4, .take 5] (by decide) HI.out ?_
            refine Fl.take (some 325) (v := .slice (some ⟨b2, o2, none⟩) caps.length c2) rfl rfl (Or.inl ⟨by rfl, fun _ _ => by rfl⟩) ?_
            simp only [Act.put, Fl.z1, Fl.z2, Fl.z3]
            refine Fl.take (some 326) (v := .int .i64 (i : Int)) rfl rfl (Or.inl ⟨by rfl, fun _ _ => by rfl⟩) ?_
            simp only [Act.put, Fl.z1, Fl.z2, Fl.z3]
            refine Fl.take (some 327) (v := .pointer (some ⟨b2, o2 + i, none⟩)) rfl rfl (Or.inl ⟨by rfl, fun _ _ => by first | rfl | (go_simp; done) | (go_simp; rfl) | (go_simp; omega)⟩) ?_
            simp only [Act.put, Fl.z1, Fl.z2, Fl.z3]
            refine Fl.take (some 328) (v := .int .i64 y) rfl rfl (Fl.yieldsIf_load_cell (by rfl) _ _ rfl b2 (o2 + i) rfl (fun W1 hW1 => laws_FnGrowth.cellR (hW1.cR 3 rfl) i y HY.out HCI.out) Try.underlying3 rfl) ?_
            simp only [Act.put, Fl.z1, Fl.z2, Fl.z3]
            refine Fl.take (some 329) (v := .int .i64 c) rfl rfl (Or.inl ⟨by rfl, fun _ _ => by rfl⟩) ?_
            simp only [Act.put, Fl.z1, Fl.z2, Fl.z3]
            refine Fl.take (some 330) (v := .bool false) rfl rfl (Or.inl ⟨by rfl, fun _ _ => by have h_ := eq_false HGT.out; first | (go_simp; done) | (go_simp; rfl) | (go_simp; omega)⟩) ?_
            simp only [Act.put, Fl.z1, Fl.z2, Fl.z3]
            refine Fl.stop (fun W hi => ?_)
            replace HI := Lib.hid hi
            clear hi
            go_upto_region 51 with (fail)
            refine Fl.startL [.take 0, .take 1, .take 2, .take 3, .take 4] (by decide) HI.out ?_
            refine Fl.take (some 333) (v := .slice (some ⟨b2, o2, none⟩) caps.length c2) rfl rfl (Or.inl ⟨by rfl, fun _ _ => by rfl⟩) ?_
            simp only [Act.put, Fl.z1, Fl.z2, Fl.z3]
            refine Fl.take (some 334) (v := .int .i64 (i : Int)) rfl rfl (Or.inl ⟨by rfl, fun _ _ => by rfl⟩) ?_
            simp only [Act.put, Fl.z1, Fl.z2, Fl.z3]
            refine Fl.take (some 335) (v := .pointer (some ⟨b2, o2 + i, none⟩)) rfl rfl (Or.inl ⟨by rfl, fun _ _ => by first | rfl | (go_simp; done) | (go_simp; rfl) | (go_simp; omega)⟩) ?_
            simp only [Act.put, Fl.z1, Fl.z2, Fl.z3]
            refine Fl.take (some 336) (v := .int .i64 y) rfl rfl (Fl.yieldsIf_load_cell (by rfl) _ _ rfl b2 (o2 + i) rfl (fun W1 hW1 => laws_FnGrowth.cellR (hW1.cR 3 rfl) i y HY.out HCI.out) Try.underlying3 rfl) ?_
            simp only [Act.put, Fl.z1, Fl.z2, Fl.z3]
            refine Fl.take (some 45) (v := .int .i64 y) rfl rfl (Or.inl ⟨by rfl, fun _ _ => by rfl⟩) ?_
            simp only [Act.put, Fl.z1, Fl.z2, Fl.z3]
            refine Fl.stop (fun W hi => ?_)
            replace HI := Lib.hid hi
            clear hi
            go_wp2
            go_roundg (lst.length - (i + 1))
            case measure => have := HK.out; omega
            case rel => exact ⟨i + 1, wrap64 (a + x), b, y, rfl, rfl, rfl, by have hw : wrap64 ((i : Int) + 1) = ((i + 1 : Nat) : Int) := (by unfold wrap64; have := HLL.out; have := HLT.out; omega); first | (rw [hw]; done) | (simp only [i64_w]; rw [hw]; done) | (simp only [i64_w, hw]; done) | go_num, Lib.hid (by have := HK.out; omega), HG3, HI⟩
        · have hg := HG.out
          rw [show lst.length - i = 0 by omega, laws_FnGrowth.lp] at hg
          obtain ⟨_, hg⟩ := Lx.of_condO hg
          obtain ⟨⟨hbm, hca⟩, hr⟩ := Lx.of_cond hg
          subst hr
          have HBM := Lib.hid hbm
          have HCA := Lib.hid hca
          clear hg HG hbm hca
          go_upto_region 52 with (fail)
          refine Fl.startL [.take 0, .take 1, .take 2, .take 3, .take 4, .take 5, .take 6, .take 7, .take 8] (by decide) HI.out ?_
          refine Fl.take (some 337) (v := .int .i64 b) rfl rfl (Or.inl ⟨by rfl, fun _ _ => by rfl⟩) ?_
          simp only [Act.put, Fl.z1, Fl.z2, Fl.z3]
          refine Fl.take (some 338) (v := .int .i64 mv) rfl rfl (Or.inl ⟨by rfl, fun _ _ => by rfl⟩) ?_
          simp only [Act.put, Fl.z1, Fl.z2, Fl.z3]
          refine Fl.take (some 339) (v := .bool true) rfl rfl (Or.inl ⟨by rfl, fun _ _ => by have h_ := HBM.out; first | (go_simp; done) | (go_simp; simp [h_]; done) | (subst h_; go_simp; done) | (subst h_; go_simp; simp)⟩) ?_
          simp only [Act.put, Fl.z1, Fl.z2, Fl.z3]
          refine Fl.take (some 340) (v := .bool true) rfl rfl (Or.inl ⟨by rfl, fun _ _ => by rfl⟩) ?_
          simp only [Act.put, Fl.z1, Fl.z2, Fl.z3]
          refine Fl.take (some 341) (v := .int .i64 cs) rfl rfl (Or.inl ⟨by rfl, fun _ _ => by rfl⟩) ?_
          simp only [Act.put, Fl.z1, Fl.z2, Fl.z3]
          refine Fl.take (some 342) (v := .int .i64 a) rfl rfl (Or.inl ⟨by rfl, fun _ _ => by rfl⟩) ?_
          simp only [Act.put, Fl.z1, Fl.z2, Fl.z3]
          refine Fl.take (some 343) (v := .bool true) rfl rfl (Or.inl ⟨by rfl, fun _ _ => by have h_ := eq_true HCA.out; first | (go_simp; done) | (go_simp; rfl) | (go_simp; omega)⟩) ?_
          simp only [Act.put, Fl.z1, Fl.z2, Fl.z3]
          refine Fl.take (some 344) (v := .bool true) rfl rfl (Or.inl ⟨by rfl, fun _ _ => by rfl⟩) ?_
          simp only [Act.put, Fl.z1, Fl.z2, Fl.z3]
          refine Fl.take (some 2) (v := .bool true) rfl rfl (Or.inl ⟨by rfl, fun _ _ => by rfl⟩) ?_
          simp only [Act.put, Fl.z1, Fl.z2, Fl.z3]
          refine Fl.stop (fun W hi => ?_)
          replace HI := Lib.hid hi
          clear hi
          go_wp2
          go_ret
          exact ⟨rfl, HI.out.bel⟩

end Go.Proofs.Ytkifenbcepicjab.PFnGrowth
