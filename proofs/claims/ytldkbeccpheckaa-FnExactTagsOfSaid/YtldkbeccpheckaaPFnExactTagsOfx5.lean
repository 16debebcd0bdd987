/- What is proved here: each Go function that is named below answers, and leaves memory, as the theorem of its name says; no condition beyond those that each theorem states. Laid by this session's own program (wip/driver.py) over the kit's print. -/
import Derived.Test.YtldkbeccpheckaaPFnExactTagsOfx0
import Derived.Test.YtldkbeccpheckaaPFnExactTagsOfx1
import Derived.Test.YtldkbeccpheckaaPFnExactTagsOfx3
import Derived.Test.YtldkbeccpheckaaPFnExactTagsOfx4
namespace Go.Proofs.Ytldkbeccpheckaa.PFnExactTagsOf
open Go.RowKit Go.Proofs.YtldkbeccpheckaaW.PrintWords Go.Proofs.YtldkbeccpheckaaW.PrintLast Go.Proofs.YtldkbeccpheckaaW.PrintMore
attribute [local go_sem] max2_int min2_int max_two min_two max_three min_three max_four min_four   -- for this text's walks alone
set_option linter.unusedVariables false
set_option linter.unusedSimpArgs false

/-! ### impl_Memory_frames: function 75 (by hand) -/
section
attribute [-go_sem] max2_int min2_int max_two min_two max_three min_three max_four min_four
namespace impl_Memory_frames
theorem sn_C {w : World} {A : Option Addr} {c n : Nat} {xs : List Int} {s l : Nat} (h : (Kd.int .u8).C w A n xs) (hn : n = xs.length) (hsl : s + l ≤ xs.length) (hc : xs.length ≤ c) : (Kd.int .u8).C w (if c = s then A else A.map (·.add s)) l ((xs.drop s).take l) := by
  subst hn
  have h1 := Kd.C_take (m := l) (Kd.C_drop (m := s) h (by omega) hc) (by simp; omega)
  rw [show ((xs.drop s).take l).length = l from by simp; omega] at h1
  have hs : (Kd.int .u8).sz = 1 := rfl
  rw [hs] at h1
  simpa using h1
set_option maxHeartbeats 1000000 in
set_option maxRecDepth 100000 in
theorem sn (A0 : Option Addr) (c0 : Nat) (l0 : List (List Int)) (a s l c : Int) (w0 w : World) (hb0 : Below w0.heap.size w0 w) (hr0 : Kd.C (Kd.slice 5 (Kd.int .u8)) w0 A0 l0.length l0) (hc0 : l0.length ≤ c0)
    (ha0 : 0 ≤ a) (ha1 : a < (l0.length : Int)) (hs : 0 ≤ s) (hl : 0 ≤ l) (hsl : s + l ≤ ((rd_L1 l0 a).length : Int)) (hpos : 0 < (rd_L1 l0 a).length) (hsm : (rd_L1 l0 a).length ≤ 1000000) :
    Calls Try.prog 57 #[.agg #[.slice A0 l0.length c0], .agg #[.int .i64 a, .int .i64 s, .int .i64 l, .int .i64 c]] w fun e w' => ∃ (A' : Option Addr) (c' : Nat), e = .returned (.slice A' l.toNat c') ∧ l.toNat ≤ c' ∧ (Kd.int .u8).C w0 A' l.toNat (((rd_L1 l0 a).drop s.toNat).take l.toNat) ∧ Below w.heap.size w w' := by
  obtain ⟨ad, A1, c1, hA, hx, hle, hrow⟩ := at_L1 hr0 a ha0 ha1
  subst hA
  have hlen : l0.length ≤ 9223372036854775807 := hr0.2.1
  obtain ⟨n1, hn1⟩ : ∃ n, n = (rd_L1 l0 a).length := ⟨_, rfl⟩
  rw [← hn1] at hx hle hsl hpos hsm
  obtain ⟨W, hW⟩ : ∃ W, W = (w.alloc (.cells #[.slice (some ad) l0.length c0] 31)).alloc (.cells #[.int .i64 a, .int .i64 s, .int .i64 l, .int .i64 c] 33) := ⟨_, rfl⟩
  have HB : Aside0 (Below w.heap.size w W) := ⟨by subst hW; exact below_alloc (below_alloc (Below.refl _ _) _) _⟩
  have h0 : W.cell? ⟨w.heap.size, 0, none⟩ = some (.slice (some ad) l0.length c0) := by subst hW; exact (blk_cell (heap_alloc2_old _ _ _) 0).trans rfl
  have h1 : W.cell? ⟨w.heap.size + 1, 0, none⟩ = some (.int .i64 a) := by subst hW; exact (blk_cell (heap_alloc2_new _ _ _) 0).trans rfl
  have h2 : W.cell? ⟨w.heap.size + 1, 1, none⟩ = some (.int .i64 s) := by subst hW; exact (blk_cell (heap_alloc2_new _ _ _) 1).trans rfl
  have h3 : W.cell? ⟨w.heap.size + 1, 2, none⟩ = some (.int .i64 l) := by subst hW; exact (blk_cell (heap_alloc2_new _ _ _) 2).trans rfl
  replace hx := (hb0.cell (World.block_lt_of_cell? w0 _ hx)).trans hx
  replace hx := (HB.out.cell (World.block_lt_of_cell? w _ hx)).trans hx
  have HR := Aside0.mk hr0
  have HROW := Aside0.mk hrow
  have HN := Aside0.mk hn1
  clear hr0 hrow hn1 hb0
  go_enter Try.func57, Try.ntmps57
  go_wp2
  rw [← hW]
  clear hW
  have e1 : IntKind.i64.wrap (s + l) = s + l := by rw [IntKind.wrap_i64]; omega
  have e2 : (s + l).toNat - s.toNat = l.toNat := by omega
  go_quiet (fail)
  go_wp2
  all_goals
    have HCS := Aside0.mk h
    go_ret
    refine ⟨_, _, rfl, by have := HCS.out; omega, ?_, pw_below_drewN HB.out _⟩
    have h := sn_C (c := c1) (s := s.toNat) (l := l.toNat) HROW.out rfl (by have := HN.out; omega) (by have := HN.out; omega)
    first
    | (rw [if_pos HCS.out] at h; exact h)
    | (rw [if_neg HCS.out] at h; exact h)
/-- The check of some bytes. -/
def chk (l : List Int) : Int := l.foldl (fun o b => bits .xor .u8 o b) 0
set_option maxHeartbeats 1000000 in
set_option maxRecDepth 100000 in
theorem ck (A0 : Option Addr) (c0 n0 : Nat) (l : List Int) (w : World) (hr0 : Kd.C (Kd.int .u8) w A0 n0 l) (hn : n0 = l.length) (hc : n0 ≤ c0) (hsm : n0 ≤ 1000000) :
    Calls Try.prog 92 #[.slice A0 n0 c0] w fun e w' => e = .returned (.int .u8 (chk l)) ∧ w = w' := by
  have HR := Aside0.mk hr0
  have HN := Aside0.mk hn
  clear hr0 hn
  go_enter Try.func92, Try.ntmps92
  go_wp2
  go_loopg [3, 5, 8] n0 (fun gg s3 _ s8 wr => ∃ (i : Nat) (o : Int), s3 = .int .u8 o ∧ s8 = .int .i64 i ∧ Aside0 (i ≤ n0 ∧ n0 - i ≤ gg) ∧ Aside0 ((l.drop i).foldl (fun o b => bits .xor .u8 o b) o = chk l) ∧ w = wr)
  case atStart => exact ⟨0, 0, rfl, rfl, ⟨by omega⟩, ⟨rfl⟩, rfl⟩
  case round =>
    obtain ⟨i, o, rfl, rfl, HI, HF, rfl⟩ := hrel
    by_cases hlt : i < n0
    · have hi : i < l.length := by have := HN.out; omega
      obtain ⟨x, hx⟩ : ∃ x, l[i]? = some x := ⟨_, List.getElem?_eq_getElem hi⟩
      obtain ⟨ad, cs, hA, _, hK, hcell⟩ := Kd.C_get HR.out 0 (i : Int) (by omega) (by omega)
      subst hA
      have hK2 : cs = [.int .u8 (l.getD i 0)] := hK
      have hx0 : w.cell? (ad.add i) = some (.int .u8 x) := by
        have h := hcell 0 (.int .u8 x) (by rw [hK2, List.getD_eq_getElem?_getD, hx]; rfl)
        have hs : (Kd.int .u8).sz = 1 := rfl
        rw [hs, Nat.mul_one, Nat.add_zero] at h
        exact h
      have HS : Aside0 ((l.drop (i + 1)).foldl (fun o b => bits .xor .u8 o b) (bits .xor .u8 o x) = chk l) := by
        have h := HF.out
        obtain ⟨h1, h2⟩ := List.getElem?_eq_some_iff.1 hx
        rw [List.drop_eq_getElem_cons h1, h2] at h
        exact ⟨h⟩
      clear hx hK hK2 hcell HF hi
      have k0 : (0 : Int) ≤ (i : Int) := by omega
      have k1 : (i : Int) < (n0 : Int) := by omega
      go_wp2
      go_roundg (n0 - (i + 1))
      case measure => have := HI.out; omega
      case rel => exact ⟨i + 1, _, rfl, by go_num, ⟨by have := HI.out; omega⟩, HS, rfl⟩
    · have hd : l.drop i = [] := List.drop_eq_nil_of_le (by have := HN.out; omega)
      have HS : Aside0 (o = chk l) := by have h := HF.out; rw [hd] at h; exact ⟨h⟩
      have c0 : decide (i < n0) = false := decide_eq_false hlt
      clear hd HF
      go_wp2
      go_ret
      exact ⟨by rw [← HS.out]; rfl, rfl⟩
set_option maxHeartbeats 1000000 in
set_option maxRecDepth 100000 in
theorem pa (a s l c f n : Int) (w : World) (h0 : -9223372036854775808 ≤ s + f) (h1 : s + f ≤ 9223372036854775807) :
    Calls Try.prog 82 #[.agg #[.int .i64 a, .int .i64 s, .int .i64 l, .int .i64 c], .int .i64 f, .int .i64 n] w fun e w' => e = .returned (.agg #[.int .i64 a, .int .i64 (s + f), .int .i64 n, .int .i64 n]) ∧ Below w.heap.size w w' := by
  go_enter Try.func82, Try.ntmps82
  go_wp2
  exact bodyPost_ret (results_cell_row rfl _ _ (w.heap.size + 1) 33 #[.int .i64 a, .int .i64 (s + f), .int .i64 n, .int .i64 n] (0, 0) _ rfl (heap_alloc2_new _ _ _) Try.underlying33 rfl (by kernel_rfl)) rfl ⟨rfl, below_alloc (below_alloc (Below.refl _ _) _) _⟩
theorem R_typed {α β : Type} {d : Kd α} {d2 : Kd β} {e e2 base base2 : Nat} {ok ok2 : Nat → Prop} {W : World} {v v2 : Value} {xs : List α} {ys : List β} (h : d.R e W base ok v xs) (h2 : d2.R e2 W base2 ok2 v2 ys) (ht : ∀ q, q ∈ e :: d.E → q ≠ e2) : d.R e W base (fun k => ok k ∧ some k ≠ v2.ownBlock) v xs :=
  Kd.R_mono (Kd.R_bound h) (fun k hk => ⟨hk.1, fun he => by
    obtain ⟨inner, ho⟩ := Kd.R_own h2
    obtain ⟨cells, hc⟩ := own_typed ho k he.symm
    obtain ⟨_, _, _, q, hq, cells', hc'⟩ := hk
    rw [hc] at hc'
    injection hc' with hc'
    injection hc' with _ hc'
    exact ht q hq hc'.symm⟩)
theorem quietLeft {P : Program} {f : FuncId} {args : Array Value} {w : World} {n : Nat} {v : Value} (h : Calls P f args (w.drewN n) fun e w' => e = .returned v ∧ w.drewN n = w') : Calls P f args (w.drewN n) fun e w' => e = .returned v ∧ ∃ m, w' = w.drewN m := by
  refine h.mono ?_
  rintro e w' ⟨h1, h2⟩
  exact ⟨h1, n, h2.symm⟩
/-- The frames of some bytes, from a place on: tags, payloads, where reading stops. -/
def go (a s : Int) (L : List Int) : Nat → Nat → List Int → List S33 → List Int × List S33 × Int
  | 0, at_, tags, pays => (tags, pays, (at_ : Int))
  | f + 1, at_, tags, pays =>
    if at_ + 3 ≤ L.length then
      if (L.getD (at_ + 1) 0).toNat ≤ 30 ∧ at_ + 2 + (L.getD (at_ + 1) 0).toNat < L.length ∧ chk ((L.drop at_).take (2 + (L.getD (at_ + 1) 0).toNat)) = L.getD (at_ + 2 + (L.getD (at_ + 1) 0).toNat) 0 then
        go a s L f (at_ + 2 + (L.getD (at_ + 1) 0).toNat + 1) (tags ++ [L.getD at_ 0]) (pays ++ [⟨a, s + (at_ + 2), (L.getD (at_ + 1) 0).toNat, (L.getD (at_ + 1) 0).toNat⟩])
      else (tags, pays, (at_ : Int))
    else (tags, pays, (at_ : Int))
set_option maxHeartbeats 4000000 in
set_option maxRecDepth 100000 in
theorem fm (A0 : Option Addr) (c0 : Nat) (l0 : List (List Int)) (a s c : Int) (N : Nat) (r1 : List Int) (r2 : List S33) (r3 : Int) (w : World) (hr0 : Kd.C (Kd.slice 5 (Kd.int .u8)) w A0 l0.length l0) (hc0 : l0.length ≤ c0)
    (ha0 : 0 ≤ a) (ha1 : a < (l0.length : Int)) (hs : 0 ≤ s) (hsl : s + (N : Int) ≤ ((rd_L1 l0 a).length : Int)) (hpos : 0 < (rd_L1 l0 a).length) (hsm : (rd_L1 l0 a).length ≤ 1000000) (hu : ∀ x ∈ rd_L1 l0 a, 0 ≤ x ∧ x ≤ 255)
    (h : go a s (((rd_L1 l0 a).drop s.toNat).take N) (N + 1) 0 [] [] = (r1, r2, r3)) :
    Calls Try.prog 75 #[.agg #[.slice A0 l0.length c0], .agg #[.int .i64 a, .int .i64 s, .int .i64 (N : Int), .int .i64 c]] w fun e w' => ∃ v0_ v1_ : Value, e = .returned (.tuple #[v0_, v1_, .int .i64 r3]) ∧ Kd.R (Kd.int .u8) 5 w' w.heap.size (fun _ => True) v0_ r1 ∧ Kd.R k33 33 w' w.heap.size (fun _ => True) v1_ r2 ∧ Below w.heap.size w w' := by
  obtain ⟨W, hW⟩ : ∃ W, W = (w.alloc (.cells #[.slice A0 l0.length c0] 31)).alloc (.cells #[.int .i64 a, .int .i64 s, .int .i64 (N : Int), .int .i64 c] 33) := ⟨_, rfl⟩
  have HB : Aside0 (Below w.heap.size w W) := ⟨by subst hW; exact below_alloc (below_alloc (Below.refl _ _) _) _⟩
  have HM : Aside0 (W.heap[w.heap.size]? = some (.cells #[.slice A0 l0.length c0] 31 (0, 0))) := ⟨by subst hW; exact heap_alloc2_old _ _ _⟩
  have HV : Aside0 (W.heap[w.heap.size + 1]? = some (.cells #[.int .i64 a, .int .i64 s, .int .i64 (N : Int), .int .i64 c] 33 (0, 0))) := ⟨by subst hW; exact heap_alloc2_new _ _ _⟩
  have HZ : Aside0 (W.heap.size = w.heap.size + 2) := ⟨by subst hW; simp⟩
  have HSN := Aside0.mk (fun w1 hb => sn A0 c0 l0 a s (N : Int) c w w1 hb hr0 hc0 ha0 ha1 hs (by omega) hsl hpos hsm)
  have HL : Aside0 ((((rd_L1 l0 a).drop s.toNat).take N).length = N) := ⟨by rw [List.length_take, List.length_drop]; omega⟩
  have HU : Aside0 (∀ x ∈ ((rd_L1 l0 a).drop s.toNat).take N, 0 ≤ x ∧ x ≤ 255) := ⟨fun x hx => hu x (List.mem_of_mem_drop (List.mem_of_mem_take hx))⟩
  have HLS : Aside0 (N ≤ 1000000 ∧ s ≤ 1000000) := ⟨by omega⟩
  have HG := Aside0.mk h
  have HS0 := Aside0.mk hs
  simp only [Int.toNat_natCast] at HSN
  generalize ((rd_L1 l0 a).drop s.toNat).take N = L at HSN HL HU HG
  clear hr0 hc0 ha0 ha1 hs hsl hpos hsm hu h
  go_enter Try.func75, Try.ntmps75
  go_upto_region 1 with (fail)
  rw [← hW]
  clear hW
  have hm0 : W.cell? ⟨w.heap.size, 0, none⟩ = some (.slice A0 l0.length c0) := (blk_cell HM.out 0).trans rfl
  go_upto_region 2 with (first | ((with_reducible refine gate_dst (N := 13) rfl ?_); refine Kd.R_lit (Kd.int .u8) (w0 := W) W.heap.size 5 ?hg (N := 13) ?hd (xs := ([] : List Int)) (inner := []) (ok := fun _ => True) (okp := fun _ => True) ?hr ?hp (fun _ hk => hk) trivial (Below.refl _ _) (Nat.le_refl _) (by simp) ?_; (case hd => rfl); (case hg => rfl); (case hr => first | (go_simp; done) | (go_simp; rfl)); (case hp => exact (Reps.none _ _)); intro v7 w7 ho7 hb7 hg7 hn7; have HT := Aside0.mk ho7; have HB7 := Aside0.mk hb7; clear ho7 hb7 hg7 hn7) | ((with_reducible refine gate_dst (N := 14) rfl ?_); refine Kd.R_lit k33 (w0 := W) W.heap.size 33 ?hg (N := 14) ?hd (xs := ([] : List S33)) (inner := []) (ok := fun _ => True) (okp := fun _ => True) ?hr ?hp (fun _ hk => hk) trivial HB7.out HB7.out.size (by simp) ?_; (case hd => rfl); (case hg => rfl); (case hr => first | (go_simp; done) | (go_simp; rfl)); (case hp => exact (Reps.none _ _)); intro v8 w8 ho8 hb8 hg8 hn8; have HP := Aside0.mk ho8; have HB8 := Aside0.mk hb8; have HG8 := Aside0.mk hg8; clear ho8 hb8 hg8 hn8; have HM8 := Aside0.mk (blk_below HM.out HB8.out); have HV8 := Aside0.mk (blk_below HV.out HB8.out); have hq0 : w8.cell? ⟨w.heap.size, 0, none⟩ = some (.slice A0 l0.length c0) := (blk_cell HM8.out 0).trans rfl; have hv0 : w8.cell? ⟨w.heap.size + 1, 0, none⟩ = some (.int .i64 a) := (blk_cell HV8.out 0).trans rfl; have hv1 : w8.cell? ⟨w.heap.size + 1, 1, none⟩ = some (.int .i64 s) := (blk_cell HV8.out 1).trans rfl; have hv2 : w8.cell? ⟨w.heap.size + 1, 2, none⟩ = some (.int .i64 (N : Int)) := (blk_cell HV8.out 2).trans rfl; have hv3 : w8.cell? ⟨w.heap.size + 1, 3, none⟩ = some (.int .i64 c) := (blk_cell HV8.out 3).trans rfl) | (go_at_call 57; (with_reducible refine (HSN.out _ (below_step HB.out HB8.out)).mono ?_); rintro e w9 ⟨A', c', rfl, hc', hCL, hb9⟩; have HC' := Aside0.mk hc'; have HCL := Aside0.mk hCL; have HB9 := Aside0.mk hb9; clear hc' hCL hb9))
  have HT9 := Aside0.mk (Kd.R_below (Kd.R_grown HT.out HG8.out (by simp)) HB9.out)
  have HP9 := Aside0.mk (Kd.R_below HP.out HB9.out)
  have HV9 := Aside0.mk (blk_below HV8.out HB9.out)
  have HW9 := Aside0.mk (below_step (below_step HB.out HB8.out) HB9.out)
  have HBS : Aside0 (w.heap.size + 2 ≤ w9.heap.size) := ⟨by have := HB8.out.size; have := HB9.out.size; have := HZ.out; omega⟩
  rw [HZ.out] at HT9 HP9
  clear HT HP HV8 HM8 HV HM HB HB7 HB8 HB9 HG8 hq0 hv0 hv1 hv2 hv3 hm0 HSN HZ
  go_loopg [7, 8, 9, 11, 12] (N + 1) (fun gg s7 s8 s9 _ _ wr => ∃ (at_ : Nat) (tags : List Int) (pays : List S33), s9 = .int .i64 at_ ∧ Aside0 (at_ ≤ N ∧ N + 1 - at_ ≤ gg ∧ tags.length ≤ at_ ∧ pays.length ≤ at_) ∧ Aside0 (go a s L gg at_ tags pays = (r1, r2, r3)) ∧ Aside0 (Kd.R (Kd.int .u8) 5 wr (w.heap.size + 2) (fun _ => True) s7 tags) ∧ Aside0 (Kd.R k33 33 wr (w.heap.size + 2) (fun _ => True) s8 pays) ∧ Aside0 (Below (w.heap.size + 2) w9 wr) ∧ Aside0 (w.heap.size + 2 ≤ wr.heap.size))
  case atStart => exact ⟨0, [], [], rfl, ⟨by simp⟩, HG, HT9, HP9, ⟨Below.refl _ _⟩, HBS⟩
  case round =>
    have HBS9 := HBS
    clear HG HT9 HP9 HBS
    obtain ⟨at_, tags, pays, rfl, HX, HG, HT, HP, HB9, HBS⟩ := hrel
    have HB : Aside0 (Below w.heap.size w wr) := ⟨below_weaken HW9.out (by omega) HB9.out⟩
    have hhl := HLS.out.1
    by_cases h3 : at_ + 3 ≤ N
    · obtain ⟨f, rfl⟩ : ∃ f, gk = f + 1 := ⟨gk - 1, by have := HX.out; omega⟩
      have hg := HG.out
      rw [go, if_pos (by rw [HL.out]; exact h3)] at hg
      obtain ⟨ad, cs, hA, hcl, hK, hcell⟩ := Kd.C_get HCL.out 0 (at_ : Int) (by omega) (by omega)
      subst hA
      have hall : ∀ w', Below w.heap.size w w' → ∀ (j : Nat) (x : Int), L[j]? = some x → w'.cell? (ad.add j) = some (.int .u8 x) := by
        intro w' hbw j x hx
        obtain ⟨hj, hx2⟩ := List.getElem?_eq_some_iff.1 hx
        obtain ⟨ad2, cs2, hA2, _, hK2, hcell2⟩ := Kd.C_get HCL.out 0 (j : Int) (by omega) (by rw [HL.out] at hj; omega)
        cases hA2
        have hK3 : cs2 = [.int .u8 (L.getD j 0)] := hK2
        have h := hcell2 0 (.int .u8 x) (by rw [hK3, List.getD_eq_getElem?_getD, hx]; rfl)
        have hs : (Kd.int .u8).sz = 1 := rfl
        rw [hs, Nat.mul_one, Nat.add_zero] at h
        exact (hbw.cell (World.block_lt_of_cell? w _ h)).trans h
      have hcells := hall wr HB.out
      clear hK hcell hcl cs
      obtain ⟨t0, ht0⟩ : ∃ x, L[at_]? = some x := ⟨_, List.getElem?_eq_getElem (by have := HL.out; omega)⟩
      obtain ⟨b0, hb0⟩ : ∃ x, L[at_ + 1]? = some x := ⟨_, List.getElem?_eq_getElem (by have := HL.out; omega)⟩
      have ub := HU.out _ (List.mem_of_getElem? hb0)
      obtain ⟨n, rfl⟩ : ∃ n : Nat, b0 = (n : Int) := ⟨b0.toNat, by omega⟩
      have hn255 : n ≤ 255 := by omega
      have g0 : L.getD at_ 0 = t0 := by rw [List.getD_eq_getElem?_getD, ht0]; rfl
      have g1 : L.getD (at_ + 1) 0 = (n : Int) := by rw [List.getD_eq_getElem?_getD, hb0]; rfl
      rw [g0, g1, Int.toNat_natCast] at hg
      have hx0 := hcells _ _ ht0
      have hx1 := hcells _ _ hb0
      rw [show ad.add (at_ + 1) = ⟨ad.block, ad.off + (at_ + 1), none⟩ from by simp [Addr.add]] at hx1
      have HCE := Aside0.mk (fun w' (hb : Below (w.heap.size + 2) w9 w') => hall w' (below_weaken HW9.out (by omega) hb) _ _ ht0)
      have HVE : Aside0 (∀ w', Below (w.heap.size + 2) w9 w' → w'.heap[w.heap.size + 1]? = some (.cells #[.int .i64 a, .int .i64 s, .int .i64 (N : Int), .int .i64 c] 33 (0, 0))) := ⟨fun w' hb => (hb.block _ (by omega)).trans HV9.out⟩
      clear ht0 hb0 g0 g1 ub hall
      have k0 : (0 : Int) ≤ (at_ : Int) := by omega
      have k1 : ((at_ : Int) + 1) < (N : Int) := by omega
      have k2 : (0 : Int) ≤ (at_ : Int) + 1 := by omega
      have k3 : ((at_ : Int) + 3) ≤ (N : Int) := by omega
      by_cases hC : n ≤ 30 ∧ at_ + 2 + n < N
      · obtain ⟨hn30, hend⟩ := hC
        obtain ⟨x2, hx2⟩ : ∃ x, L[at_ + 2 + n]? = some x := ⟨_, List.getElem?_eq_getElem (by have := HL.out; omega)⟩
        have hx3 := hcells _ _ hx2
        have hx4 := hx3
        rw [show ad.add (at_ + 2 + n) = ⟨ad.block, ad.off + (at_ + 2 + n), none⟩ from by simp [Addr.add]] at hx4
        have g2 : L.getD (at_ + 2 + n) 0 = x2 := by rw [List.getD_eq_getElem?_getD, hx2]; rfl
        rw [g2] at hg
        have HCK := Aside0.mk (fun (m : Nat) => ck (some (ad.add at_)) (c' - at_) (2 + n) ((L.drop at_).take (2 + n)) (wr.drewN m) (Kd.C_drewN (Kd.C_below (by have h := sn_C (c := c') (s := at_) (l := 2 + n) HCL.out HL.out.symm (by have := HL.out; omega) (by have := HL.out; have := HC'.out; omega); rw [if_neg (by have := HC'.out; omega)] at h; exact h) HB.out) m) (by rw [List.length_take, List.length_drop, HL.out]; omega) (by have := HC'.out; omega) (by have := HLS.out.1; omega))
        have c0 : decide (30 < (n : Int)) = false := decide_eq_false (by omega)
        have c1 : decide ((N : Int) ≤ (at_ : Int) + 2 + (n : Int)) = false := decide_eq_false (by omega)
        have k4 : (0 : Int) ≤ (at_ : Int) + 2 + (n : Int) := by omega
        have k5 : (at_ : Int) + 2 + (n : Int) < (N : Int) := by omega
        have k6 : (at_ : Int) ≤ (at_ : Int) + 2 + (n : Int) := by omega
        have k7 : (at_ : Int) + 2 + (n : Int) ≤ (c' : Int) := by have := HC'.out; omega
        have hx5 : wr.cell? (ad.add ((at_ : Int) + 2 + (n : Int)).toNat) = some (.int .u8 x2) := by rw [show ((at_ : Int) + 2 + (n : Int)).toNat = at_ + 2 + n from by omega]; exact hx3
        have HNE : Aside0 (¬ c' = at_) := ⟨by omega⟩
        have HLN : Aside0 (((at_ : Int) + 2 + (n : Int)).toNat - at_ = 2 + n) := ⟨by omega⟩
        by_cases hch : chk ((L.drop at_).take (2 + n)) = x2
        · rw [if_pos ⟨hn30, by rw [HL.out]; exact hend, hch⟩] at hg
          rw [hch] at HCK
          have HG2 := Aside0.mk hg
          clear hg hcells hx2 g2 hch
          go_upto_region 5 with (fail)
          go_quiet ((go_at_call 92; rw [if_neg HNE.out, HLN.out]; exact quietLeft (HCK.out _)))
          go_upto_region 6 with (fail)
          generalize hw6 : World.drewN wr _ = w6
          have HB6 : Aside0 (Below (w.heap.size + 2) w9 w6.drew) := ⟨by rw [← hw6]; exact (pw_below_drewN HB9.out _).drew⟩
          have HT6 : Aside0 ((Kd.int .u8).R 5 w6.drew (w.heap.size + 2) (fun _ => True) u7 tags) := ⟨by rw [← hw6]; exact Kd.R_drew (Kd.R_drewN HT.out _)⟩
          have HP6 : Aside0 (k33.R 33 w6.drew (w.heap.size + 2) (fun _ => True) u8 pays) := ⟨by rw [← hw6]; exact Kd.R_drew (Kd.R_drewN HP.out _)⟩
          have HZ6 : Aside0 (w.heap.size + 2 ≤ w6.drew.heap.size) := ⟨by have := HB6.out.size; have := HBS9.out; omega⟩
          clear hw6 HT HP HB9 HBS HB hx0 hx1 hx3 hx4 hx5 HCK
          have k8 : (at_ : Int) < (N : Int) := by omega
          refine Rg.start (S := Below (w.heap.size + 2) w9) [.take 0, .take 1, .take 2, .take 3, .take 4, .take 7, .take 8, .take 9, .take 10, .take 11, .one 5, .one 6, .one 12, .one 13, .one 14, .one 15, .one 16] (by kernel_rfl) (by kernel_rfl) (by decide) (by kernel_rfl) HB6.out ?_
          generalize w6.drew = w7b at HB6 HT6 HP6 HZ6 ⊢
          refine Rg.take (some 53) (v := u7) rfl rfl (Or.inl ⟨by rfl, fun _ _ => by rfl⟩) ?_
          simp only [Act.put, List.setIfInBounds_toArray, List.set_cons_zero, List.set_cons_succ]
          refine Rg.take (some 54) (v := .slice (some ad) N c') rfl rfl (Or.inl ⟨by rfl, fun _ _ => by rfl⟩) ?_
          simp only [Act.put, List.setIfInBounds_toArray, List.set_cons_zero, List.set_cons_succ]
          refine Rg.take (some 55) (v := .int .i64 (at_ : Int)) rfl rfl (Or.inl ⟨by rfl, fun _ _ => by rfl⟩) ?_
          simp only [Act.put, List.setIfInBounds_toArray, List.set_cons_zero, List.set_cons_succ]
          refine Rg.take (some 56) (v := .pointer (some (ad.add at_))) rfl rfl (Or.inl ⟨by rfl, fun w' _ => by go_simp⟩) ?_
          simp only [Act.put, List.setIfInBounds_toArray, List.set_cons_zero, List.set_cons_succ]
          refine Rg.take (some 57) (v := .int .u8 t0) rfl rfl (Or.inl ⟨by rfl, fun w' hw' => by have h := HCE.out w' hw'; go_simp⟩) ?_
          simp only [Act.put, List.setIfInBounds_toArray, List.set_cons_zero, List.set_cons_succ]
          refine Rg.take (some 60) (v := u8) rfl rfl (Or.inl ⟨by rfl, fun _ _ => by rfl⟩) ?_
          simp only [Act.put, List.setIfInBounds_toArray, List.set_cons_zero, List.set_cons_succ]
          refine Rg.take (some 61) (v := .agg #[.int .i64 a, .int .i64 s, .int .i64 (N : Int), .int .i64 c]) rfl rfl (yieldsIf_load_mid (by rfl) _ _ rfl _ _ rfl [.int .i64 a, .int .i64 s, .int .i64 (N : Int), .int .i64 c] _ (fun w' hw' j v hv => by rw [Nat.zero_add]; exact (blk_cell (HVE.out w' hw') j).trans (by simpa using hv)) Try.underlying33 rfl (by kernel_rfl)) ?_
          simp only [Act.put, List.setIfInBounds_toArray, List.set_cons_zero, List.set_cons_succ]
          refine Rg.take (some 62) (v := .int .i64 (at_ : Int)) rfl rfl (Or.inl ⟨by rfl, fun _ _ => by rfl⟩) ?_
          simp only [Act.put, List.setIfInBounds_toArray, List.set_cons_zero, List.set_cons_succ]
          refine Rg.take (some 63) (v := .int .i64 ((at_ : Int) + 2)) rfl rfl (Or.inl ⟨by rfl, fun w' _ => by go_simp; rw [IntKind.wrap_i64]; omega⟩) ?_
          simp only [Act.put, List.setIfInBounds_toArray, List.set_cons_zero, List.set_cons_succ]
          refine Rg.take (some 64) (v := .int .i64 (n : Int)) rfl rfl (Or.inl ⟨by rfl, fun _ _ => by rfl⟩) ?_
          simp only [Act.put, List.setIfInBounds_toArray, List.set_cons_zero, List.set_cons_succ]
          refine Rg.step (some 58) (w' := w7b.alloc (.cells #[.int .u8 t0] 5)) (.slice (some ⟨w7b.heap.size, 0, none⟩) 1 1) rfl rfl (by rfl) (by go_simp) (HB6.out.alloc HZ6.out _) ?_
          simp only [Act.put, List.setIfInBounds_toArray, List.set_cons_zero, List.set_cons_succ]
          refine Rg.oneK rfl (fun K hK => ?_)
          refine Kd.R_append_step (Kd.int .u8) (w0 := w9) (W := w7b) (w.heap.size + 2) (by rfl) (.tmp 53) (.tmp 58) 57 5 (.int .u8 0) 1 rfl Try.underlying57 (by kernel_rfl) rfl (by decide) (by decide) u7 tags t0 [.int .u8 t0] (fun _ => True) (fun _ => False) (by rfl) (by rfl) (by exact rfl) (fun _ hk => hk.elim) (fun _ _ => trivial) HT6.out HB6.out HZ6.out (by have := HX.out; omega) ?_
          intro v1 w1 hv1 hb1 hg1 _
          refine hK.out _ _ hb1 ?_
          change Rg.SeqW _ _ _ _ _ (Act.put _ (some 59) v1) _
          have HT8 := Aside0.mk hv1
          have HP8 : Aside0 (k33.R 33 w1 (w.heap.size + 2) (fun _ => True) u8 pays) := ⟨Kd.R_mono (Kd.R_grown (R_typed HP6.out HT6.out (by decide)) hg1 (fun _ hk => hk.2)) (fun _ _ => trivial)⟩
          have HB8 := Aside0.mk hb1
          have HZ8 : Aside0 (w.heap.size + 2 ≤ w1.heap.size) := ⟨by have := hb1.size; have := HBS9.out; omega⟩
          clear hv1 hb1 hg1 hK K HT6 HP6 HB6 HZ6
          simp only [Act.put, List.setIfInBounds_toArray, List.set_cons_zero, List.set_cons_succ]
          refine Rg.call (some 65) Try.func82 (by kernel_rfl) rfl #[.agg #[.int .i64 a, .int .i64 s, .int .i64 (N : Int), .int .i64 c], .int .i64 ((at_ : Int) + 2), .int .i64 (n : Int)] rfl rfl rfl (by rfl) rfl ((pa a s (N : Int) c ((at_ : Int) + 2) (n : Int) w1 (by have := HLS.out; have := HS0.out; omega) (by have := HLS.out; have := HS0.out; omega)).mono ?_)
          rintro e w2 ⟨rfl, hb2⟩
          refine ⟨_, rfl, below_then HB8.out HZ8.out hb2, ?_⟩
          have HT10 := Aside0.mk (Kd.R_below HT8.out hb2)
          have HP10 := Aside0.mk (Kd.R_below HP8.out hb2)
          have HB10 := Aside0.mk (below_then HB8.out HZ8.out hb2)
          have HZ10 : Aside0 (w.heap.size + 2 ≤ w2.heap.size) := ⟨by have := HB10.out.size; have := HBS9.out; omega⟩
          clear hb2 HT8 HP8 HB8 HZ8
          simp only [Act.put, List.setIfInBounds_toArray, List.set_cons_zero, List.set_cons_succ]
          refine Rg.step (some 66) (w' := w2.alloc (.cells #[.int .i64 a, .int .i64 (s + ((at_ : Int) + 2)), .int .i64 (n : Int), .int .i64 (n : Int)] 33)) (.slice (some ⟨w2.heap.size, 0, none⟩) 1 1) rfl rfl (by rfl) (by go_simp) (HB10.out.alloc HZ10.out _) ?_
          simp only [Act.put, List.setIfInBounds_toArray, List.set_cons_zero, List.set_cons_succ]
          refine Rg.oneK rfl (fun K hK => ?_)
          refine Kd.R_append_step k33 (w0 := w9) (W := w2) (w.heap.size + 2) (by rfl) (.tmp 60) (.tmp 66) 63 33 (.agg #[.int .i64 0, .int .i64 0, .int .i64 0, .int .i64 0]) 32 rfl Try.underlying63 (by kernel_rfl) rfl (by decide) (by decide) u8 pays ⟨a, s + ((at_ : Int) + 2), (n : Int), (n : Int)⟩ [.int .i64 a, .int .i64 (s + ((at_ : Int) + 2)), .int .i64 (n : Int), .int .i64 (n : Int)] (fun _ => True) (fun _ => False) (by rfl) (by rfl) (k33_mkM w2 _ _ _) (fun _ hk => hk.elim) (fun _ _ => trivial) HP10.out HB10.out HZ10.out (by have := HX.out; omega) ?_
          intro v2 w3 hv2 hb3 hg3 _
          refine hK.out _ _ hb3 ?_
          change Rg.SeqW _ _ _ _ _ (Act.put _ (some 67) v2) _
          have HP11 := Aside0.mk (Kd.R_mono hv2 (fun _ _ => trivial) : k33.R 33 w3 (w.heap.size + 2) (fun _ => True) v2 _)
          have HT11 : Aside0 ((Kd.int .u8).R 5 w3 (w.heap.size + 2) (fun _ => True) v1 (tags ++ [t0])) := ⟨Kd.R_mono (Kd.R_grown (R_typed HT10.out HP10.out (by decide)) hg3 (fun _ hk => hk.2)) (fun _ _ => trivial)⟩
          have HB11 := Aside0.mk hb3
          clear hv2 hb3 hg3 hK K HT10 HP10 HB10 HZ10
          simp only [Act.put, List.setIfInBounds_toArray, List.set_cons_zero, List.set_cons_succ]
          refine Rg.step (some 7) v1 rfl rfl (by rfl) (by rfl) HB11.out ?_
          simp only [Act.put, List.setIfInBounds_toArray, List.set_cons_zero, List.set_cons_succ]
          refine Rg.step (some 8) v2 rfl rfl (by rfl) (by rfl) HB11.out ?_
          simp only [Act.put, List.setIfInBounds_toArray, List.set_cons_zero, List.set_cons_succ]
          refine Rg.done ?_
          have hwe : IntKind.i64.wrap ((at_ : Int) + 2 + (n : Int) + 1) = (at_ : Int) + 2 + (n : Int) + 1 := by rw [IntKind.wrap_i64]; omega
          go_wp2
          go_roundg f
          case measure => omega
          case rel => exact ⟨at_ + 2 + n + 1, tags ++ [t0], _, by go_num, ⟨by have := HX.out; simp only [List.length_append, List.length_cons, List.length_nil]; omega⟩, HG2, HT11, HP11, HB11, ⟨by have := HB11.out.size; have := HBS9.out; omega⟩⟩
        · rw [if_neg (fun h => hch h.2.2)] at hg
          have hne : (chk ((L.drop at_).take (2 + n)) == x2) = false := by simpa using hch
          generalize chk ((L.drop at_).take (2 + n)) = y at HCK hne hch hg
          simp only [Prod.mk.injEq] at hg
          obtain ⟨rfl, rfl, rfl⟩ := hg
          clear hcells hx2 g2 hch
          go_upto_region 5 with (fail)
          go_quiet ((go_at_call 92; rw [if_neg HNE.out, HLN.out]; exact quietLeft (HCK.out _)))
          go_wp2
          go_ret3
          exact ⟨u7, u8, by go_num, Kd.R_drewN (Kd.R_lower HT.out (by omega)) _, Kd.R_drewN (Kd.R_lower HP.out (by omega)) _, pw_below_drewN HB.out _⟩
      · rw [if_neg (fun h => hC ⟨h.1, by rw [HL.out] at h; exact h.2.1⟩)] at hg
        simp only [Prod.mk.injEq] at hg
        obtain ⟨rfl, rfl, rfl⟩ := hg
        clear hcells
        by_cases h30 : n ≤ 30
        · have c0 : decide (30 < (n : Int)) = false := decide_eq_false (by omega)
          have c1 : decide ((N : Int) ≤ (at_ : Int) + 2 + (n : Int)) = true := decide_eq_true (by omega)
          go_upto_region 5 with (fail)
          go_quiet (fail)
          go_wp2
          go_ret3
          exact ⟨u7, u8, by go_num, Kd.R_drewN (Kd.R_lower HT.out (by omega)) _, Kd.R_drewN (Kd.R_lower HP.out (by omega)) _, pw_below_drewN HB.out _⟩
        · have c0 : decide (30 < (n : Int)) = true := decide_eq_true (by omega)
          go_upto_region 5 with (fail)
          go_quiet (fail)
          go_wp2
          go_ret3
          exact ⟨u7, u8, by go_num, Kd.R_drewN (Kd.R_lower HT.out (by omega)) _, Kd.R_drewN (Kd.R_lower HP.out (by omega)) _, pw_below_drewN HB.out _⟩
    · obtain ⟨f, rfl⟩ : ∃ f, gk = f + 1 := ⟨gk - 1, by have := HX.out; omega⟩
      have hg := HG.out
      rw [go, if_neg (by rw [HL.out]; exact h3)] at hg
      simp only [Prod.mk.injEq] at hg
      obtain ⟨rfl, rfl, rfl⟩ := hg
      have c0 : decide ((at_ : Int) + 3 ≤ (N : Int)) = false := decide_eq_false (by omega)
      have hat : at_ ≤ N := HX.out.1
      clear h3
      go_wp2
      go_ret3
      exact ⟨u7, u8, by go_num, Kd.R_lower HT.out (by omega), Kd.R_lower HP.out (by omega), HB.out⟩
end impl_Memory_frames
end
def impl_Memory_frames.f (l0_0 : List (List Int)) (a1_0 a1_1 a1_2 a1_3 : Int) : Option (List Int × List S33 × Int) :=
  if 0 ≤ a1_0 ∧ a1_0 < (l0_0.length : Int) ∧ 0 ≤ a1_1 ∧ 0 ≤ a1_2 ∧ a1_1 + a1_2 ≤ ((rd_L1 l0_0 a1_0).length : Int) ∧ 0 < (rd_L1 l0_0 a1_0).length ∧ (rd_L1 l0_0 a1_0).length ≤ 1000000 ∧ ((rd_L1 l0_0 a1_0).all fun x => decide (0 ≤ x) && decide (x ≤ 255)) = true then some (impl_Memory_frames.go a1_0 a1_1 (((rd_L1 l0_0 a1_0).drop a1_1.toNat).take a1_2.toNat) (a1_2.toNat + 1) 0 [] []) else none
theorem impl_Memory_frames.calls (A0_0 : Option Addr) (c0_0 : Nat) (l0_0 : List (List Int)) (a1_0 : Int) (a1_1 : Int) (a1_2 : Int) (a1_3 : Int) (r1 : List Int) (r2 : List S33) (r3 : Int) (w : World) (hr0_0 : Kd.C (Kd.slice 5 (Kd.int .u8)) w A0_0 l0_0.length l0_0) (hc0_0 : l0_0.length ≤ c0_0) (h : impl_Memory_frames.f l0_0 a1_0 a1_1 a1_2 a1_3 = some (r1, r2, r3)) :
    Calls Try.prog 75 #[.agg #[.slice A0_0 l0_0.length c0_0], .agg #[.int .i64 a1_0, .int .i64 a1_1, .int .i64 a1_2, .int .i64 a1_3]] w fun e w' => ∃ v0_ v1_ : Value, e = .returned (.tuple #[v0_, v1_, .int .i64 r3]) ∧ Kd.R (Kd.int .u8) 5 w' w.heap.size (fun k_ => some k_ ≠ (v1_ : Value).ownBlock) v0_ r1 ∧ Kd.R k33 33 w' w.heap.size (fun k_ => some k_ ≠ (v0_ : Value).ownBlock) v1_ r2 ∧ Below w.heap.size w w' := by
  unfold impl_Memory_frames.f at h
  split at h
  · rename_i hc
    obtain ⟨h1, h2, h3, h4, h5, h6, h7, h8⟩ := hc
    obtain ⟨N, rfl⟩ := Int.eq_ofNat_of_zero_le h4
    simp only [Int.toNat_natCast] at h
    refine (impl_Memory_frames.fm A0_0 c0_0 l0_0 a1_0 a1_1 a1_3 N r1 r2 r3 w hr0_0 hc0_0 h1 h2 h3 h5 h6 h7 (fun x hx => ?_) (Option.some.inj h)).mono ?_
    · have := List.all_eq_true.1 h8 x hx
      simpa using this
    · rintro e w' ⟨v0, v1, rfl, hr1, hr2, hb⟩
      exact ⟨v0, v1, rfl, Kd.R_mono (impl_Memory_frames.R_typed hr1 hr2 (by decide)) (fun _ hk => hk.2), Kd.R_mono (impl_Memory_frames.R_typed hr2 hr1 (by decide)) (fun _ hk => hk.2), hb⟩
  · exact absurd h (by simp)

open Go.Proofs.Ytldkbeccpheckaa.Cp
/-! ### impl_TagsOf: function 36 -/
def impl_TagsOf.f (k : Nat) (l0_0 : List (List Int)) (a1_0 : Int) (a1_1 : Int) (a1_2 : Int) (a1_3 : Int) : Option (List Int × Bool) := (impl_areOn.f k l0_0 (([(⟨a1_0, a1_1, a1_2, a1_3⟩ : S33)] : List (S33)))).bind fun t216 => (if t216 = true then ((impl_Memory_frames.f l0_0 a1_0 a1_1 a1_2 a1_3).bind fun bt217 => (some (bt217.1, true))) else (some (([] : List Int), false)))
theorem impl_TagsOf.mono : ∀ a0 a1 a2 a3 a4 k, LeO (impl_TagsOf.f k a0 a1 a2 a3 a4) (impl_TagsOf.f (k + 1) a0 a1 a2 a3 a4) := by
 intro a0 a1 a2 a3 a4 k
 unfold impl_TagsOf.f
 repeat' first
   | (with_reducible exact impl_areOn.mono _ _ _)
   | (with_reducible exact LeO.refl _)
   | (with_reducible exact LeO.none _)
   | (with_reducible refine LeO.ite ?_ ?_)
   | (with_reducible refine LeO.bind ?_ (fun _ => ?_))
   | exact impl_areOn.mono _ _ _
   | exact LeO.none _
   | refine LeO.ite ?_ ?_
   | refine LeO.bind ?_ (fun _ => ?_)
set_option maxHeartbeats 8000000 in
set_option maxRecDepth 100000 in
theorem impl_TagsOf.calls (k : Nat) (A0_0 : Option Addr) (c0_0 : Nat) (l0_0 : List (List Int)) (a1_0 : Int) (a1_1 : Int) (a1_2 : Int) (a1_3 : Int) (r1 : List Int) (r2 : Bool) (w : World) (hr0_0 : Kd.C (Kd.slice 5 (Kd.int .u8)) w A0_0 l0_0.length l0_0) (hc0_0 : l0_0.length ≤ c0_0) (h : impl_TagsOf.f k l0_0 a1_0 a1_1 a1_2 a1_3 = some (r1, r2)) :
  Calls Try.prog 36 #[.agg #[.slice A0_0 l0_0.length c0_0], .agg #[.int .i64 a1_0, .int .i64 a1_1, .int .i64 a1_2, .int .i64 a1_3]] w fun e w' => ∃ v0_ : Value, e = .returned (.tuple #[v0_, .bool r2]) ∧ Kd.R (Kd.int .u8) 5 w' w.heap.size (fun _ => True) v0_ r1 ∧ Below w.heap.size w w' := by
 have hu31 := Try.underlying31
 have hu33 := Try.underlying33
 have HR0_0 := Aside0.mk hr0_0
 have HC0_0 := Aside0.mk hc0_0
 clear hr0_0 hc0_0
 have HB := Aside0.mk (Below.refl w.heap.size w)
 have H : ((impl_areOn.f k l0_0 (([(⟨a1_0, a1_1, a1_2, a1_3⟩ : S33)] : List (S33)))).bind fun t216 => (if t216 = true then ((impl_Memory_frames.f l0_0 a1_0 a1_1 a1_2 a1_3).bind fun bt217 => (some (bt217.1, true))) else (some (([] : List Int), false)))) = some (r1, r2) := h
 clear h
 obtain ⟨y213, hy213⟩ : ∃ y_ : List (S33), y_ = (([(⟨a1_0, a1_1, a1_2, a1_3⟩ : S33)] : List (S33))) := ⟨_, rfl⟩
 replace H : ((impl_areOn.f k l0_0 y213).bind fun t216 => (if t216 = true then ((impl_Memory_frames.f l0_0 a1_0 a1_1 a1_2 a1_3).bind fun bt217 => (some (bt217.1, true))) else (some (([] : List Int), false)))) = some (r1, r2) := by first | (rw [hy213]; with_reducible exact H) | (have H2_ := (Option.bind_some _ _).symm.trans H; rw [hy213]; with_reducible exact H2_) | (have H2_ := (Option.bind_some _ _).symm.trans H; with_reducible exact H2_) | with_reducible exact H | (rw [hy213]; exact H) | exact H
 have Ny213 := Aside0.mk hy213
 clear hy213
 replace H := Option.bind_eq_some_iff.mp H
 obtain ⟨t216, A30, H⟩ := H
 replace H : (if t216 = true then ((impl_Memory_frames.f l0_0 a1_0 a1_1 a1_2 a1_3).bind fun bt217 => (some (bt217.1, true))) else (some (([] : List Int), false))) = some (r1, r2) := H
 have A3 := Aside0.mk A30
 clear A30
 by_cases c4 : t216 = true
 ·subst c4
  have H1 : ((impl_Memory_frames.f l0_0 a1_0 a1_1 a1_2 a1_3).bind fun bt217 => (some (bt217.1, true))) = some (r1, r2) := by rw [if_pos rfl] at H; exact H
  clear H
  have H := H1
  clear H1
  replace H := Option.bind_eq_some_iff.mp H
  obtain ⟨⟨t217, t220, t223⟩, A50, H⟩ := H
  replace H : (some (t217, true)) = some (r1, r2) := H
  have A5 := Aside0.mk A50
  clear A50
  simp only [Option.some.injEq, Prod.mk.injEq] at H
  obtain ⟨rfl, rfl⟩ := H
  go_enter Try.func36, Try.ntmps36
  go_wp2_with (first | ((with_reducible refine gate_dst (N := 2) rfl ?_); refine box_event ?hg (N := 2) ?hd (cs := #[.slice A0_0 l0_0.length c0_0]) (t := 31) ?hr ?_; (case hd => rfl); (case hg => rfl); (case hr => first | (go_simp; done) | (go_simp; rfl)); intro gb211 hg w6 hbox hb; have BK211 := Aside0.mk (hbox); have GW211 := zge HB hg; have GE211 := zge HB hg; replace HB := zhs HB hb; clear hb hbox hg) | ((with_reducible refine gate_dst (N := 3) rfl ?_); refine box_event ?hg (N := 3) ?hd (cs := #[.int .i64 a1_0, .int .i64 a1_1, .int .i64 a1_2, .int .i64 a1_3]) (t := 33) ?hr ?_; (case hd => rfl); (case hg => rfl); (case hr => first | (go_simp; done) | (go_simp; rfl)); intro gb212 hg w7 hbox hb; have BK212 := Aside0.mk (hbox); have GW212 := zge HB hg; have GE212 := zge HB hg; have NB211_212 := znl BK211 hg; have NB212_211 := znr BK211 hg; replace BK211 := zb0 BK211 hb; replace HB := zhs HB hb; clear hb hbox hg; have hnb8 := NB211_212.out; have hnc8 := NB212_211.out; have hcz9_0 := zc0 BK211 0 rfl; have hfz9_0 := blk_frozen BK211.out 0; have hcz10_0 := zc0 BK212 0 rfl; have hcz10_1 := zc0 BK212 1 rfl; have hcz10_2 := zc0 BK212 2 rfl; have hcz10_3 := zc0 BK212 3 rfl; have hfz10_0 := blk_frozen BK212.out 0; have hfz10_1 := blk_frozen BK212.out 1; have hfz10_2 := blk_frozen BK212.out 2; have hfz10_3 := blk_frozen BK212.out 3) | ((with_reducible refine gate_dst (N := 11) rfl ?_); refine Kd.R_lit k33 _ 33 ?hg (N := 11) ?hd (xs := ([(⟨a1_0, a1_1, a1_2, a1_3⟩ : S33)] : List (S33))) (inner := [.int .i64 a1_0, .int .i64 a1_1, .int .i64 a1_2, .int .i64 a1_3]) (ok := fun _ => True) (okp := fun _ => True) ?hr ?hp (fun _ hk => hk) trivial (Below.refl _ _) (Nat.le_refl _) (by simp) ?_; (case hd => rfl); (case hg => rfl); (case hr => first | (go_simp; done) | (go_simp; rfl)); (case hp => exact (Reps.c4 (show Kd.M k33 _ _ _ (⟨a1_0, a1_1, a1_2, a1_3⟩ : S33) [.int .i64 a1_0, .int .i64 a1_1, .int .i64 a1_2, .int .i64 a1_3] from (k33_mkM _ _ _ (⟨a1_0, a1_1, a1_2, a1_3⟩ : S33) )) (Reps.none _ _))); intro v214 w11 ho12 hb hg_ hnew_; clear hg_ hnew_; (first | rw [← Ny213.out] at ho12 | (simp only [Int.reduceToNat] at ho12; rw [← Ny213.out] at ho12)); have HO215 := Aside0.mk (Kd.R_lower (Kd.R_newB ho12 (g := gb212) (o := .cells #[.int .i64 a1_0, .int .i64 a1_1, .int .i64 a1_2, .int .i64 a1_3] 33 (0, 0)) (zk0 BK212)) (below_size (zh0 HB))); replace BK211 := zb0 BK211 hb; replace BK212 := zb0 BK212 hb; replace HB := zhs HB hb; clear hb ho12; obtain ⟨Ao13, co13, eo13⟩ := Kd.R_slice HO215.out; subst eo13) | ((with_reducible refine gate_callee (f := 55) rfl ?_); refine goesL_ (some 12) rfl rfl Try.func55 (by kernel_rfl) rfl #[.agg #[.slice A0_0 l0_0.length c0_0], .slice Ao13 y213.length co13] rfl (by (try simp only [zq1, zq2, zq3]); first | done | rfl | (simp only [List.length_drop, List.length_take]; rfl)) ?_; (with_reducible refine (impl_areOn.calls k _ _ l0_0 _ _ y213 true _ ?side1 ?side2 ?side3 ?side4 A3.out).mono ?_); (case side1 => exact Kd.C_below HR0_0.out (zh0 HB)); (case side2 => exact HC0_0.out); (case side3 => repeat (first | exact (Kd.R_reads' HO215.out).2.2 | (with_reducible refine Kd.C_alloc ?_ _) | (with_reducible refine Kd.C_drewN ?_ _) | (with_reducible refine Kd.C_drew ?_))); (case side4 => exact (Kd.R_reads' HO215.out).2.1); rintro e w14 ⟨rfl, hb⟩; refine ⟨_, rfl, ?_⟩; replace HO215 := zrb HO215 hb; replace BK211 := zb0 BK211 hb; replace BK212 := zb0 BK212 hb; replace HB := zhs HB hb; (try clear hb); have hcz15_0 := zc0 BK211 0 rfl; have hfz15_0 := blk_frozen BK211.out 0; have hcz16_0 := zc0 BK212 0 rfl; have hcz16_1 := zc0 BK212 1 rfl; have hcz16_2 := zc0 BK212 2 rfl; have hcz16_3 := zc0 BK212 3 rfl; have hfz16_0 := blk_frozen BK212.out 0; have hfz16_1 := blk_frozen BK212.out 1; have hfz16_2 := blk_frozen BK212.out 2; have hfz16_3 := blk_frozen BK212.out 3) | ((with_reducible refine gate_callee (f := 75) rfl ?_); refine goesL_ (some 17) rfl rfl Try.func75 (by kernel_rfl) rfl #[.agg #[.slice A0_0 l0_0.length c0_0], .agg #[.int .i64 a1_0, .int .i64 a1_1, .int .i64 a1_2, .int .i64 a1_3]] rfl (by (try simp only [zq1, zq2, zq3]); first | done | rfl | (simp only [List.length_drop, List.length_take]; rfl)) ?_; (with_reducible refine (impl_Memory_frames.calls _ _ l0_0 a1_0 a1_1 a1_2 a1_3 t217 t220 t223 _ ?side1 ?side2 A5.out).mono ?_); (case side1 => exact Kd.C_below HR0_0.out (zh0 HB)); (case side2 => exact HC0_0.out); rintro e w17 ⟨v218, v221, rfl, ho0, ho1, hb⟩; refine ⟨_, rfl, ?_⟩; have HO219 := Aside0.mk (Kd.R_lower ho0 (below_size (zh0 HB))); have HO222 := Aside0.mk (Kd.R_lower (Kd.R_newB (Kd.R_new' ho1 (Kd.R_lt (zr0 HO215))) (g := gb212) (o := .cells #[.int .i64 a1_0, .int .i64 a1_1, .int .i64 a1_2, .int .i64 a1_3] 33 (0, 0)) (zk0 BK212)) (below_size (zh0 HB))); replace HO215 := Aside0.mk (Kd.R_elder' (zr0 HO215) (Kd.R_base ho1) hb); replace BK211 := zb0 BK211 hb; replace BK212 := zb0 BK212 hb; replace HB := zhs HB hb; (try clear hb); (try clear ho0); (try clear ho1)))
  go_ret2
  exact ⟨_, by first | rfl | (simp <;> rfl) | (simp [*] <;> rfl), (by first | exact zr0 HO219 | exact Kd.R_mono (zr0 HO219) (fun _ _ => trivial)), by repeat (first | exact zh0 HB | refine below_set ?_ GE211.out | refine below_set ?_ GE212.out)⟩
 ·replace c4 := Bool.eq_false_iff.mpr c4
  subst c4
  have H1 : (some (([] : List Int), false)) = some (r1, r2) := by rw [if_neg (show ¬ (false = true) by decide)] at H; exact H
  clear H
  have H := H1
  clear H1
  simp only [Option.some.injEq, Prod.mk.injEq] at H
  obtain ⟨rfl, rfl⟩ := H
  go_enter Try.func36, Try.ntmps36
  go_wp2_with (first | ((with_reducible refine gate_dst (N := 2) rfl ?_); refine box_event ?hg (N := 2) ?hd (cs := #[.slice A0_0 l0_0.length c0_0]) (t := 31) ?hr ?_; (case hd => rfl); (case hg => rfl); (case hr => first | (go_simp; done) | (go_simp; rfl)); intro gb211 hg w18 hbox hb; have BK211 := Aside0.mk (hbox); have GW211 := zge HB hg; have GE211 := zge HB hg; replace HB := zhs HB hb; clear hb hbox hg) | ((with_reducible refine gate_dst (N := 3) rfl ?_); refine box_event ?hg (N := 3) ?hd (cs := #[.int .i64 a1_0, .int .i64 a1_1, .int .i64 a1_2, .int .i64 a1_3]) (t := 33) ?hr ?_; (case hd => rfl); (case hg => rfl); (case hr => first | (go_simp; done) | (go_simp; rfl)); intro gb212 hg w19 hbox hb; have BK212 := Aside0.mk (hbox); have GW212 := zge HB hg; have GE212 := zge HB hg; have NB211_212 := znl BK211 hg; have NB212_211 := znr BK211 hg; replace BK211 := zb0 BK211 hb; replace HB := zhs HB hb; clear hb hbox hg; have hnb20 := NB211_212.out; have hnc20 := NB212_211.out; have hcz21_0 := zc0 BK211 0 rfl; have hfz21_0 := blk_frozen BK211.out 0; have hcz22_0 := zc0 BK212 0 rfl; have hcz22_1 := zc0 BK212 1 rfl; have hcz22_2 := zc0 BK212 2 rfl; have hcz22_3 := zc0 BK212 3 rfl; have hfz22_0 := blk_frozen BK212.out 0; have hfz22_1 := blk_frozen BK212.out 1; have hfz22_2 := blk_frozen BK212.out 2; have hfz22_3 := blk_frozen BK212.out 3) | ((with_reducible refine gate_dst (N := 11) rfl ?_); refine Kd.R_lit k33 _ 33 ?hg (N := 11) ?hd (xs := ([(⟨a1_0, a1_1, a1_2, a1_3⟩ : S33)] : List (S33))) (inner := [.int .i64 a1_0, .int .i64 a1_1, .int .i64 a1_2, .int .i64 a1_3]) (ok := fun _ => True) (okp := fun _ => True) ?hr ?hp (fun _ hk => hk) trivial (Below.refl _ _) (Nat.le_refl _) (by simp) ?_; (case hd => rfl); (case hg => rfl); (case hr => first | (go_simp; done) | (go_simp; rfl)); (case hp => exact (Reps.c4 (show Kd.M k33 _ _ _ (⟨a1_0, a1_1, a1_2, a1_3⟩ : S33) [.int .i64 a1_0, .int .i64 a1_1, .int .i64 a1_2, .int .i64 a1_3] from (k33_mkM _ _ _ (⟨a1_0, a1_1, a1_2, a1_3⟩ : S33) )) (Reps.none _ _))); intro v214 w23 ho24 hb hg_ hnew_; clear hg_ hnew_; (first | rw [← Ny213.out] at ho24 | (simp only [Int.reduceToNat] at ho24; rw [← Ny213.out] at ho24)); have HO215 := Aside0.mk (Kd.R_lower (Kd.R_newB ho24 (g := gb212) (o := .cells #[.int .i64 a1_0, .int .i64 a1_1, .int .i64 a1_2, .int .i64 a1_3] 33 (0, 0)) (zk0 BK212)) (below_size (zh0 HB))); replace BK211 := zb0 BK211 hb; replace BK212 := zb0 BK212 hb; replace HB := zhs HB hb; clear hb ho24; obtain ⟨Ao25, co25, eo25⟩ := Kd.R_slice HO215.out; subst eo25) | ((with_reducible refine gate_callee (f := 55) rfl ?_); refine goesL_ (some 12) rfl rfl Try.func55 (by kernel_rfl) rfl #[.agg #[.slice A0_0 l0_0.length c0_0], .slice Ao25 y213.length co25] rfl (by (try simp only [zq1, zq2, zq3]); first | done | rfl | (simp only [List.length_drop, List.length_take]; rfl)) ?_; (with_reducible refine (impl_areOn.calls k _ _ l0_0 _ _ y213 false _ ?side1 ?side2 ?side3 ?side4 A3.out).mono ?_); (case side1 => exact Kd.C_below HR0_0.out (zh0 HB)); (case side2 => exact HC0_0.out); (case side3 => repeat (first | exact (Kd.R_reads' HO215.out).2.2 | (with_reducible refine Kd.C_alloc ?_ _) | (with_reducible refine Kd.C_drewN ?_ _) | (with_reducible refine Kd.C_drew ?_))); (case side4 => exact (Kd.R_reads' HO215.out).2.1); rintro e w26 ⟨rfl, hb⟩; refine ⟨_, rfl, ?_⟩; replace HO215 := zrb HO215 hb; replace BK211 := zb0 BK211 hb; replace BK212 := zb0 BK212 hb; replace HB := zhs HB hb; (try clear hb)))
  go_ret2
  exact ⟨_, by first | rfl | (simp <;> rfl) | (simp [*] <;> rfl), by first | exact Kd.R_nil _ _ _ _ _ | exact Kd.N_nil _ _ _ _ _ | exact Kd.V_nil _ _ _ _ _ | exact Kd.Q_nil _ _ _ _ _ | exact Kd.S_nil _ _ _ _ _, by repeat (first | exact zh0 HB | refine below_set ?_ GE211.out | refine below_set ?_ GE212.out)⟩

open Go.Proofs.Ytldkbeccpheckaa.Cp
/-! ### laws_heldByteS: function 39 -/
def laws_heldByteS.l0 : Nat → List Int → Int → Int → Option (Int)
 | 0, _, _, _ => none
 | k + 1, x0, x1, x5 => if x5 < (x0.length : Int) then (if 0 ≤ x5 then (if (rd x0 x5) = ((x1) % 256) then (laws_heldByteS.l0 k x0 (wrap64 (x1 + 1)) (wrap64 (x5 + 1))) else (some (-1))) else (none)) else (some x1)
def laws_heldByteS.f (k : Nat) (l0 : List Int) (a1 : Int) : Option (Int) := laws_heldByteS.l0 k l0 a1 0
theorem laws_heldByteS.mono_l : ∀ k, (∀ y0 y1 y2, LeO (laws_heldByteS.l0 k y0 y1 y2) (laws_heldByteS.l0 (k + 1) y0 y1 y2))
 | 0 => fun _ _ _ r h => by simp [laws_heldByteS.l0] at h
 | k + 1 => by
  have ih0 := laws_heldByteS.mono_l k
  ·intro y0 y1 y2
   unfold laws_heldByteS.l0
   repeat' first
   | (with_reducible exact ih0 _ _ _)
   | (with_reducible exact LeO.refl _)
   | (with_reducible exact LeO.none _)
   | (with_reducible refine LeO.ite ?_ ?_)
   | (with_reducible refine LeO.bind ?_ (fun _ => ?_))
   | exact ih0 _ _ _
   | exact LeO.none _
   | refine LeO.ite ?_ ?_
   | refine LeO.bind ?_ (fun _ => ?_)
theorem laws_heldByteS.mono : ∀ a0 a1 k, LeO (laws_heldByteS.f k a0 a1) (laws_heldByteS.f (k + 1) a0 a1) := by
 intro a0 a1 k
 have ih0 := laws_heldByteS.mono_l k
 unfold laws_heldByteS.f
 repeat' first
   | (with_reducible exact ih0 _ _ _)
   | (with_reducible exact LeO.refl _)
   | (with_reducible exact LeO.none _)
   | (with_reducible refine LeO.ite ?_ ?_)
   | (with_reducible refine LeO.bind ?_ (fun _ => ?_))
   | exact ih0 _ _ _
   | exact LeO.none _
   | refine LeO.ite ?_ ?_
   | refine LeO.bind ?_ (fun _ => ?_)
set_option maxHeartbeats 8000000 in
set_option maxRecDepth 100000 in
theorem laws_heldByteS.calls (k : Nat) (A0 : Option Addr) (c0 : Nat) (l0 : List Int) (a1 : Int) (r : Int) (w : World) (hr0 : Kd.C (Kd.int .u8) w A0 l0.length l0) (hc0 : l0.length ≤ c0) (h : laws_heldByteS.f k l0 a1 = some r) :
  Calls Try.prog 39 #[.slice A0 l0.length c0, .int .i64 a1] w fun e w' => e = .returned (.int .i64 r) ∧ Drawn0 w w' := by
 have HR0 := Aside0.mk hr0
 have HC0 := Aside0.mk hc0
 clear hr0 hc0
 have H : (laws_heldByteS.l0 k l0 a1 0) = some r := h
 clear h
 have H' := Aside0.mk H
 clear H
 go_enter Try.func39, Try.ntmps39
 go_wp2
 go_loopg [1, 5] k (fun kq v1 v5 w' => ∃ (x1_1 : Int) (x5_1 : Int), v1 = .int .i64 x1_1 ∧ v5 = .int .i64 x5_1 ∧ Aside0 (laws_heldByteS.l0 kq l0 x1_1 x5_1 = some r) ∧ Aside0 (kq ≤ k) ∧ Drawn0 w w')
 case atStart => exact ⟨(a1), (0), (by first | rfl | (simp; done) | (simp [*]; done)), (by first | rfl | (simp; done) | (simp [*]; done)), H', ⟨Nat.le_refl _⟩, by repeat (first | exact Drawn0.refl _ | apply Drawn0.step)⟩
 case round =>
  clear H'
  try clear p2
  obtain ⟨x1_1, x5_1, rfl, rfl, HA, HK1, ⟨m1, rfl⟩⟩ := hrel
  cases gk with
  | zero => exact absurd HA.out (by simp [laws_heldByteS.l0])
  | succ k1 =>
   have H := HA.out
   clear HA
   simp only [laws_heldByteS.l0] at H
   by_cases c3 : x5_1 < (l0.length : Int)
   ·rw [if_pos c3] at H
    have c3b0 : decide (x5_1 < (l0.length : Int)) = true := decide_eq_true c3
    clear c3
    by_cases c4 : 0 ≤ x5_1
    ·rw [if_pos c4] at H
     have c4b0 : decide (0 ≤ x5_1) = true := decide_eq_true c4
     clear c4
     by_cases c5 : (rd l0 x5_1) = ((x1_1) % 256)
     ·rw [if_pos c5] at H
      have c5b0 : ((rd l0 x5_1) == ((x1_1) % 256)) = true := beq_iff_eq.mpr c5
      have c5b1 : ((rd l0 x5_1) != ((x1_1) % 256)) = false := bne_eq_false_iff_eq.mpr c5
      clear c5
      have H' := Aside0.mk H
      clear H
      have p224 : 0 ≤ (x5_1 : Int) := of_decide_eq_true (by first | (with_reducible assumption) | assumption)
      have q224 : x5_1 < (l0.length : Int) := of_decide_eq_true (by first | (with_reducible assumption) | assumption)
      obtain ⟨ad224, e224, hx224_0⟩ := Kd.at_int HR0.out x5_1 p224 q224
      cases e224
      replace p224 := eq_true p224
      replace q224 := eq_true q224
      go_wp2
      go_roundg k1
      case measure => have := HK1.out; omega
      case rel => exact ⟨(wrap64 (x1_1 + 1)), (wrap64 (x5_1 + 1)), (by first | rfl | (simp; done) | (simp [*]; done)), (by first | rfl | (simp; done) | (simp [*]; done)), H', ⟨by have := HK1.out; omega⟩, by repeat (first | exact Drawn0.refl _ | apply Drawn0.step)⟩
     ·rw [if_neg c5] at H
      have c5b0 : ((rd l0 x5_1) == ((x1_1) % 256)) = false := beq_eq_false_iff_ne.mpr c5
      have c5b1 : ((rd l0 x5_1) != ((x1_1) % 256)) = true := bne_iff_ne.mpr c5
      obtain rfl := Option.some.inj H
      have p224 : 0 ≤ (x5_1 : Int) := of_decide_eq_true (by first | (with_reducible assumption) | assumption)
      have q224 : x5_1 < (l0.length : Int) := of_decide_eq_true (by first | (with_reducible assumption) | assumption)
      obtain ⟨ad224, e224, hx224_0⟩ := Kd.at_int HR0.out x5_1 p224 q224
      cases e224
      replace p224 := eq_true p224
      replace q224 := eq_true q224
      go_wp2
      go_ret
      exact ⟨by first | rfl | (simp; done) | (simp [*]; done), by repeat (first | exact Drawn0.refl _ | apply Drawn0.step)⟩
    ·rw [if_neg c4] at H
     exact absurd H (by simp)
   ·rw [if_neg c3] at H
    have c3b0 : decide (x5_1 < (l0.length : Int)) = false := decide_eq_false c3
    clear c3
    obtain rfl := Option.some.inj H
    go_wp2
    go_ret
    exact ⟨by first | rfl | (simp; done) | (simp [*]; done), by repeat (first | exact Drawn0.refl _ | apply Drawn0.step)⟩

/-! ### laws_FnExactTagsOf: function 8 (by hand) -/
def laws_FnExactTagsOf.f (k : Nat) (l0_0 : List (List Int)) (a1_0 : Int) (a1_1 : Int) (a1_2 : Int) (a1_3 : Int) : Option Bool := (laws_szMemory.f k l0_0 1048576).bind fun x1 => if x1 < 0 then some true else (laws_toMemory.f k l0_0).bind fun x3 => (laws_toWindow.f a1_0 a1_1 a1_2 a1_3).bind fun y_x6 => (spec_TagsOf.f k x3 (y_x6.1) (y_x6.2.1) (y_x6.2.2.1) (y_x6.2.2.2)).bind fun y_x11 => (impl_TagsOf.f k x3 (y_x6.1) (y_x6.2.1) (y_x6.2.2.1) (y_x6.2.2.2)).bind fun y_x17 => (laws_eqByteS.f k (y_x17.1) (y_x11.1)).bind fun x21 => (laws_eqMemory.f k x3 x3).bind fun x24 => (laws_markMemory.f k x3 1).bind fun x26 => (laws_markByteS.f k (y_x17.1) 1).bind fun y_x28 => (laws_heldByteS.f k (y_x28.2) 1).bind fun x31 => if x21 = true ∧ x24 = true ∧ y_x17.2 = y_x11.2 ∧ ¬ x26 < 0 ∧ ¬ x31 < 0 ∧ x31 = y_x28.1 then some true else none
theorem laws_FnExactTagsOf.mono : ∀ l0_0 a1_0 a1_1 a1_2 a1_3 k, LeO (laws_FnExactTagsOf.f k l0_0 a1_0 a1_1 a1_2 a1_3) (laws_FnExactTagsOf.f (k + 1) l0_0 a1_0 a1_1 a1_2 a1_3) := by
  intro l0_0 a1_0 a1_1 a1_2 a1_3 k
  unfold laws_FnExactTagsOf.f
  exact LeO.bind (by apply laws_szMemory.mono) (fun _ => LeO.ite (LeO.refl _) (LeO.bind (by apply laws_toMemory.mono) (fun _ => LeO.bind (LeO.refl _) (fun _ => LeO.bind (by apply spec_TagsOf.mono) (fun _ => LeO.bind (by apply impl_TagsOf.mono) (fun _ => LeO.bind (by apply laws_eqByteS.mono) (fun _ => LeO.bind (by apply laws_eqMemory.mono) (fun _ => LeO.bind (by apply laws_markMemory.mono) (fun _ => LeO.bind (by apply laws_markByteS.mono) (fun _ => LeO.bind (by apply laws_heldByteS.mono) (fun _ => LeO.refl _)))))))))))
set_option maxHeartbeats 4000000 in
set_option maxRecDepth 100000 in
theorem laws_FnExactTagsOf.calls (k : Nat) (A0_0 : Option Addr) (c0_0 : Nat) (l0_0 : List (List Int)) (a1_0 : Int) (a1_1 : Int) (a1_2 : Int) (a1_3 : Int) (r : Bool) (w : World) (hr0_0 : Kd.C (Kd.slice 5 (Kd.int .u8)) w A0_0 l0_0.length l0_0) (hc0_0 : l0_0.length ≤ c0_0) (h : laws_FnExactTagsOf.f k l0_0 a1_0 a1_1 a1_2 a1_3 = some r) :
    Calls Try.prog 8 #[.agg #[.slice A0_0 l0_0.length c0_0], .agg #[.int .i64 a1_0, .int .i64 a1_1, .int .i64 a1_2, .int .i64 a1_3]] w fun e w' => e = .returned (.bool r) ∧ Below w.heap.size w w' := by
  have HR0_0 := Lib.hid hr0_0
  have HC0_0 := Lib.hid hc0_0
  clear hr0_0 hc0_0
  obtain ⟨W0, hW⟩ : ∃ W, W = ((w.alloc (.cells #[.slice A0_0 l0_0.length c0_0] 24)).alloc (.cells #[.int .i64 a1_0, .int .i64 a1_1, .int .i64 a1_2, .int .i64 a1_3] 26)) := ⟨_, rfl⟩
  have HI : Hid (Lv.Inv w W0 [Lv.boxF (w.heap.size + 1) #[.int .i64 a1_0, .int .i64 a1_1, .int .i64 a1_2, .int .i64 a1_3] 26, Lv.boxF (w.heap.size) #[.slice A0_0 l0_0.length c0_0] 24]) := by
    subst hW
    have := (((Lv.Inv.refl w).box #[.slice A0_0 l0_0.length c0_0] 24).box #[.int .i64 a1_0, .int .i64 a1_1, .int .i64 a1_2, .int .i64 a1_3] 26)
    exact Lib.hid (by simpa using this)
  unfold laws_FnExactTagsOf.f at h
  obtain ⟨x1, A2, h⟩ := Option.bind_eq_some_iff.mp h
  try dsimp only at h
  have HA2 := Lib.hid A2
  clear A2
  have HH := Lib.hid h
  clear h
  go_enter Try.func8, Try.ntmps8
  go_upto_region 1 with (fail)
  rw [← hW]
  clear hW
  go_upto_region 2 with (fail)
  refine Fl.startL [.take 0, .take 1, .one 2, .take 3] (by decide) HI.out ?_
  refine Fl.take (some 16) (v := .agg #[.slice A0_0 l0_0.length c0_0]) rfl rfl (Fl.ld 1 rfl (by rfl) _ _ rfl rfl Try.underlying24 rfl (by kernel_rfl)) ?_
  simp only [Act.put, Fl.z1, Fl.z2, Fl.z3]
  refine Fl.take (some 17) (v := .int .i64 1048576) rfl rfl (Or.inl ⟨by rfl, fun _ _ => by rfl⟩) ?_
  simp only [Act.put, Fl.z1, Fl.z2, Fl.z3]
  refine Fl.call (some 18) Try.func12 (by kernel_rfl) rfl #[.agg #[.slice A0_0 l0_0.length c0_0], .int .i64 1048576] rfl rfl rfl (by rfl) rfl (fun E W hE hi => ?_)
  refine (laws_szMemory.calls k _ _ l0_0 1048576 x1 W (Kd.C_below HR0_0.out hi.bel) HC0_0.out HA2.out).mono ?_
  rintro e W' ⟨rfl, hb⟩
  refine Fl.keep hi hb ?_
  clear hi hb hE
  simp only [Act.put, Fl.z1, Fl.z2, Fl.z3]
  refine Fl.take (some 5) (v := .int .i64 x1) rfl rfl (Or.inl ⟨by rfl, fun _ _ => by rfl⟩) ?_
  simp only [Act.put, Fl.z1, Fl.z2, Fl.z3]
  refine Fl.stop (fun W hi => ?_)
  replace HI := Lib.hid hi
  clear hi
  try clear hn_
  have h := HH.out
  clear HH
  by_cases hn : x1 < 0
  · rw [if_pos hn] at h
    obtain rfl := Option.some.inj h
    clear h
    have hn_ := decide_eq_true hn
    go_wp2
    go_ret
    exact ⟨rfl, HI.out.bel⟩
  rw [if_neg hn] at h
  have hn_ := decide_eq_false hn
  clear hn
  obtain ⟨x3, A4, h⟩ := Option.bind_eq_some_iff.mp h
  try dsimp only at h
  have HA4 := Lib.hid A4
  clear A4
  obtain ⟨⟨x6, x7, x8, x9⟩, A10, h⟩ := Option.bind_eq_some_iff.mp h
  try dsimp only at h
  have HA10 := Lib.hid A10
  clear A10
  obtain ⟨⟨x11, x12⟩, A13, h⟩ := Option.bind_eq_some_iff.mp h
  try dsimp only at h
  have HA13 := Lib.hid A13
  clear A13
  obtain ⟨⟨x17, x18⟩, A19, h⟩ := Option.bind_eq_some_iff.mp h
  try dsimp only at h
  have HA19 := Lib.hid A19
  clear A19
  obtain ⟨x21, A22, h⟩ := Option.bind_eq_some_iff.mp h
  try dsimp only at h
  have HA22 := Lib.hid A22
  clear A22
  obtain ⟨x24, A25, h⟩ := Option.bind_eq_some_iff.mp h
  try dsimp only at h
  have HA25 := Lib.hid A25
  clear A25
  obtain ⟨x26, A27, h⟩ := Option.bind_eq_some_iff.mp h
  try dsimp only at h
  have HA27 := Lib.hid A27
  clear A27
  obtain ⟨⟨x28, x29⟩, A30, h⟩ := Option.bind_eq_some_iff.mp h
  try dsimp only at h
  have HA30 := Lib.hid A30
  clear A30
  obtain ⟨x31, A32, h⟩ := Option.bind_eq_some_iff.mp h
  try dsimp only at h
  have HA32 := Lib.hid A32
  clear A32
  obtain ⟨hc, rfl⟩ := Lv.of_if h
  clear h
  obtain ⟨rfl, rfl, rfl, hnx26, hnx31, rfl⟩ := hc
  have HNx26 := Lib.hid hnx26
  clear hnx26
  have HNx31 := Lib.hid hnx31
  clear hnx31
  go_upto_region 5 with (fail)
  refine Fl.start [([],[]),([0],[0]),([],[]),([2,1],[2]),([1,3,3],[1,3]),([4],[4]),([5],[5]),([5],[5]),([6,4,0,1,2,3,4,5,6],[6]),([7,8,0,1,2,3,4,5,6,7,8],[7])] [] 11 [.take 0, .take 2, .one 1, .one 3, .one 4, .take 5, .take 6, .take 7, .take 8, .take 9] [] (by kernel_rfl) (by kernel_rfl) (by decide) (by decide) (by kernel_rfl) (by kernel_rfl) Fl.mk0 HI.out ?_
  refine Fl.take (some 22) (v := .agg #[.slice A0_0 l0_0.length c0_0]) rfl rfl (Fl.ld 1 rfl (by rfl) _ _ rfl rfl Try.underlying24 rfl (by kernel_rfl)) ?_
  simp only [Act.put, Fl.z1, Fl.z2, Fl.z3]
  refine Fl.take (some 24) (v := .agg #[.int .i64 a1_0, .int .i64 a1_1, .int .i64 a1_2, .int .i64 a1_3]) rfl rfl (Fl.ld 0 rfl (by rfl) _ _ rfl rfl Try.underlying26 rfl (by kernel_rfl)) ?_
  simp only [Act.put, Fl.z1, Fl.z2, Fl.z3]
  refine Fl.call (some 23) Try.func14 (by kernel_rfl) rfl #[.agg #[.slice A0_0 l0_0.length c0_0]] rfl rfl rfl (by rfl) rfl (fun E W hE hi => ?_)
  refine (laws_toMemory.calls k _ _ l0_0 x3 W (Kd.C_below HR0_0.out hi.bel) HC0_0.out HA4.out).mono ?_
  rintro e W' ⟨v, rfl, hr, hb⟩
  obtain ⟨Aq5, cq5, rfl⟩ := Kd.S_slice hr
  refine Fl.addS hi (Kd.S_mono hr (fun _ _ => trivial)) hb ?_
  clear hr
  clear hi hb hE
  simp only [Act.put, Fl.z1, Fl.z2, Fl.z3]
  refine Fl.call (some 25) Try.func15 (by kernel_rfl) rfl #[.agg #[.int .i64 a1_0, .int .i64 a1_1, .int .i64 a1_2, .int .i64 a1_3]] rfl rfl rfl (by rfl) rfl (fun E W hE hi => ?_)
  refine (laws_toWindow.calls a1_0 a1_1 a1_2 a1_3 x6 x7 x8 x9 W HA10.out).mono ?_
  rintro e W' ⟨rfl, hb⟩
  refine Fl.keep hi hb ?_
  clear hi hb hE
  simp only [Act.put, Fl.z1, Fl.z2, Fl.z3]
  refine Fl.call (some 26) Try.func35 (by kernel_rfl) rfl #[.agg #[.slice Aq5 x3.length cq5], .agg #[.int .i64 x6, .int .i64 x7, .int .i64 x8, .int .i64 x9]] rfl rfl rfl (by rfl) rfl (fun E W hE hi => ?_)
  refine (spec_TagsOf.calls k _ _ x3 x6 x7 x8 x9 x11 x18 W (hi.cS 0 rfl) (hi.lS 0 rfl) HA13.out).mono ?_
  rintro e W' ⟨v, rfl, hr, hb⟩
  obtain ⟨Aq14, cq14, rfl⟩ := Kd.R_slice hr
  refine Fl.addR hi (Kd.R_mono hr (fun _ _ => trivial)) hb ?_
  clear hr
  clear hi hb hE
  simp only [Act.put, Fl.z1, Fl.z2, Fl.z3]
  refine Fl.take (some 21) (v := .tuple #[.slice Aq14 x11.length cq14, .bool x18]) rfl rfl (Or.inl ⟨by rfl, fun _ _ => by rfl⟩) ?_
  simp only [Act.put, Fl.z1, Fl.z2, Fl.z3]
  refine Fl.take (some 27) (v := .slice Aq14 x11.length cq14) rfl rfl (Or.inl ⟨by rfl, fun _ _ => by rfl⟩) ?_
  simp only [Act.put, Fl.z1, Fl.z2, Fl.z3]
  refine Fl.take (some 28) (v := .bool x18) rfl rfl (Or.inl ⟨by rfl, fun _ _ => by rfl⟩) ?_
  simp only [Act.put, Fl.z1, Fl.z2, Fl.z3]
  refine Fl.take (some 6) (v := .slice Aq14 x11.length cq14) rfl rfl (Or.inl ⟨by rfl, fun _ _ => by rfl⟩) ?_
  simp only [Act.put, Fl.z1, Fl.z2, Fl.z3]
  refine Fl.take (some 7) (v := .bool x18) rfl rfl (Or.inl ⟨by rfl, fun _ _ => by rfl⟩) ?_
  simp only [Act.put, Fl.z1, Fl.z2, Fl.z3]
  refine Fl.fin0 ?_
  refine Fl.stopN (fun W hi => ?_)
  replace HI := Lib.hid hi
  clear hi
  try clear hn_
  go_upto_region 6 with (fail)
  refine Fl.startL [.take 0, .one 1, .one 2, .one 3] (by decide) HI.out ?_
  refine Fl.take (some 29) (v := .agg #[.slice A0_0 l0_0.length c0_0]) rfl rfl (Fl.ld 3 rfl (by rfl) _ _ rfl rfl Try.underlying24 rfl (by kernel_rfl)) ?_
  simp only [Act.put, Fl.z1, Fl.z2, Fl.z3]
  refine Fl.call (some 30) Try.func14 (by kernel_rfl) rfl #[.agg #[.slice A0_0 l0_0.length c0_0]] rfl rfl rfl (by rfl) rfl (fun E W hE hi => ?_)
  refine (laws_toMemory.calls k _ _ l0_0 x3 W (Kd.C_below HR0_0.out hi.bel) HC0_0.out HA4.out).mono ?_
  rintro e W' ⟨v, rfl, hr, hb⟩
  obtain ⟨Aq15, cq15, rfl⟩ := Kd.S_slice hr
  refine Fl.addS hi (Kd.S_mono hr (fun _ _ => trivial)) hb ?_
  clear hr
  clear hi hb hE
  simp only [Act.put, Fl.z1, Fl.z2, Fl.z3]
  refine Fl.var (N := 8) (cs := #[.slice none 0 0]) (t := 31) ⟨_, rfl, rfl, fun _ => rfl, fun e w => by go_simp⟩ (fun b16 => ?_)
  simp only [Act.put, Fl.z1, Fl.z2, Fl.z3]
  refine Fl.store 0 #[.slice Aq15 x3.length cq15] rfl rfl rfl rfl _ _ _ rfl rfl rfl (by rfl) rfl (by kernel_rfl) (by simp [Value.oneCell']) ?_
  refine Fl.stop (fun W hi => ?_)
  replace HI := Lib.hid hi
  clear hi
  try clear hn_
  go_upto_region 7 with (fail)
  refine Fl.start [([],[]),([],[]),([1],[1]),([0,2,2],[0,2]),([3],[3]),([4],[4]),([4],[4]),([5,3,0,1,2,3,4,5],[5]),([6,7,0,1,2,3,4,5,6,7],[6])] [] 10 [.take 0, .take 1, .one 2, .one 3, .take 4, .take 5, .take 6, .take 7, .take 8] [] (by kernel_rfl) (by kernel_rfl) (by decide) (by decide) (by kernel_rfl) (by kernel_rfl) Fl.mk0 HI.out ?_
  refine Fl.take (some 32) (v := .agg #[.slice Aq15 x3.length cq15]) rfl rfl (Fl.ld 0 rfl (by rfl) _ _ rfl rfl Try.underlying31 rfl (by kernel_rfl)) ?_
  simp only [Act.put, Fl.z1, Fl.z2, Fl.z3]
  refine Fl.take (some 33) (v := .agg #[.int .i64 a1_0, .int .i64 a1_1, .int .i64 a1_2, .int .i64 a1_3]) rfl rfl (Fl.ld 4 rfl (by rfl) _ _ rfl rfl Try.underlying26 rfl (by kernel_rfl)) ?_
  simp only [Act.put, Fl.z1, Fl.z2, Fl.z3]
  refine Fl.call (some 34) Try.func15 (by kernel_rfl) rfl #[.agg #[.int .i64 a1_0, .int .i64 a1_1, .int .i64 a1_2, .int .i64 a1_3]] rfl rfl rfl (by rfl) rfl (fun E W hE hi => ?_)
  refine (laws_toWindow.calls a1_0 a1_1 a1_2 a1_3 x6 x7 x8 x9 W HA10.out).mono ?_
  rintro e W' ⟨rfl, hb⟩
  refine Fl.keep hi hb ?_
  clear hi hb hE
  simp only [Act.put, Fl.z1, Fl.z2, Fl.z3]
  refine Fl.call (some 35) Try.func36 (by kernel_rfl) rfl #[.agg #[.slice Aq15 x3.length cq15], .agg #[.int .i64 x6, .int .i64 x7, .int .i64 x8, .int .i64 x9]] rfl rfl rfl (by rfl) rfl (fun E W hE hi => ?_)
  refine (impl_TagsOf.calls k _ _ x3 x6 x7 x8 x9 x17 x18 W ((hE _ (Fl.inv_drop hi)).cS 1 rfl) ((hE _ (Fl.inv_drop hi)).lS 1 rfl) HA19.out).mono ?_
  rintro e W' ⟨v, rfl, hr, hb⟩
  obtain ⟨Aq20, cq20, rfl⟩ := Kd.R_slice hr
  refine Fl.addR hi (Kd.R_mono hr (fun _ _ => trivial)) hb ?_
  clear hr
  clear hi hb hE
  simp only [Act.put, Fl.z1, Fl.z2, Fl.z3]
  refine Fl.take (some 31) (v := .tuple #[.slice Aq20 x17.length cq20, .bool x18]) rfl rfl (Or.inl ⟨by rfl, fun _ _ => by rfl⟩) ?_
  simp only [Act.put, Fl.z1, Fl.z2, Fl.z3]
  refine Fl.take (some 36) (v := .slice Aq20 x17.length cq20) rfl rfl (Or.inl ⟨by rfl, fun _ _ => by rfl⟩) ?_
  simp only [Act.put, Fl.z1, Fl.z2, Fl.z3]
  refine Fl.take (some 37) (v := .bool x18) rfl rfl (Or.inl ⟨by rfl, fun _ _ => by rfl⟩) ?_
  simp only [Act.put, Fl.z1, Fl.z2, Fl.z3]
  refine Fl.take (some 9) (v := .slice Aq20 x17.length cq20) rfl rfl (Or.inl ⟨by rfl, fun _ _ => by rfl⟩) ?_
  simp only [Act.put, Fl.z1, Fl.z2, Fl.z3]
  refine Fl.take (some 10) (v := .bool x18) rfl rfl (Or.inl ⟨by rfl, fun _ _ => by rfl⟩) ?_
  simp only [Act.put, Fl.z1, Fl.z2, Fl.z3]
  refine Fl.fin0 ?_
  refine Fl.stopN (fun W hi => ?_)
  replace HI := Lib.hid hi
  clear hi
  try clear hn_
  go_upto_region 8 with (fail)
  refine Fl.startL [.take 0, .take 1, .one 2, .take 3, .take 4, .take 5, .take 6, .take 7, .take 8] (by decide) HI.out ?_
  refine Fl.take (some 38) (v := .slice Aq20 x17.length cq20) rfl rfl (Or.inl ⟨by rfl, fun _ _ => by rfl⟩) ?_
  simp only [Act.put, Fl.z1, Fl.z2, Fl.z3]
  refine Fl.take (some 39) (v := .slice Aq14 x11.length cq14) rfl rfl (Or.inl ⟨by rfl, fun _ _ => by rfl⟩) ?_
  simp only [Act.put, Fl.z1, Fl.z2, Fl.z3]
  refine Fl.call (some 40) Try.func37 (by kernel_rfl) rfl #[.slice Aq20 x17.length cq20, .slice Aq14 x11.length cq14] rfl rfl rfl (by rfl) rfl (fun E W hE hi => ?_)
  refine (laws_eqByteS.calls k _ _ x17 _ _ x11 true W ((hE _ (Fl.inv_drop hi)).cR 0 rfl) ((hE _ (Fl.inv_drop hi)).lR 0 rfl) ((hE _ (Fl.inv_drop hi)).cR 3 rfl) ((hE _ (Fl.inv_drop hi)).lR 3 rfl) HA22.out).mono ?_
  rintro e W' ⟨rfl, hb⟩
  refine Fl.keep hi hb.below ?_
  clear hi hb hE
  simp only [Act.put, Fl.z1, Fl.z2, Fl.z3]
  refine Fl.take (some 41) (v := .bool false) rfl rfl (Or.inl ⟨by rfl, fun _ _ => by rfl⟩) ?_
  simp only [Act.put, Fl.z1, Fl.z2, Fl.z3]
  refine Fl.take (some 42) (v := .bool false) rfl rfl (Or.inl ⟨by rfl, fun _ _ => by rfl⟩) ?_
  simp only [Act.put, Fl.z1, Fl.z2, Fl.z3]
  refine Fl.take (some 43) (v := .bool x18) rfl rfl (Or.inl ⟨by rfl, fun _ _ => by rfl⟩) ?_
  simp only [Act.put, Fl.z1, Fl.z2, Fl.z3]
  refine Fl.take (some 44) (v := .bool x18) rfl rfl (Or.inl ⟨by rfl, fun _ _ => by rfl⟩) ?_
  simp only [Act.put, Fl.z1, Fl.z2, Fl.z3]
  refine Fl.take (some 45) (v := .bool false) rfl rfl (Or.inl ⟨by rfl, fun _ _ => by go_simp⟩) ?_
  simp only [Act.put, Fl.z1, Fl.z2, Fl.z3]
  refine Fl.take (some 46) (v := .bool false) rfl rfl (Or.inl ⟨by rfl, fun _ _ => by rfl⟩) ?_
  simp only [Act.put, Fl.z1, Fl.z2, Fl.z3]
  refine Fl.stop (fun W hi => ?_)
  replace HI := Lib.hid hi
  clear hi
  try clear hn_
  go_upto_region 10 with (fail)
  refine Fl.start [([],[]),([],[]),([1],[1]),([0,2,2],[0,2]),([3],[3])] [] 6 [.take 0, .take 1, .one 2, .one 3, .take 4] [] (by kernel_rfl) (by kernel_rfl) (by decide) (by decide) (by kernel_rfl) (by kernel_rfl) Fl.mk0 HI.out ?_
  refine Fl.take (some 47) (v := .agg #[.slice Aq15 x3.length cq15]) rfl rfl (Fl.ld 1 rfl (by rfl) _ _ rfl rfl Try.underlying31 rfl (by kernel_rfl)) ?_
  simp only [Act.put, Fl.z1, Fl.z2, Fl.z3]
  refine Fl.take (some 48) (v := .agg #[.slice A0_0 l0_0.length c0_0]) rfl rfl (Fl.ld 6 rfl (by rfl) _ _ rfl rfl Try.underlying24 rfl (by kernel_rfl)) ?_
  simp only [Act.put, Fl.z1, Fl.z2, Fl.z3]
  refine Fl.call (some 49) Try.func14 (by kernel_rfl) rfl #[.agg #[.slice A0_0 l0_0.length c0_0]] rfl rfl rfl (by rfl) rfl (fun E W hE hi => ?_)
  refine (laws_toMemory.calls k _ _ l0_0 x3 W (Kd.C_below HR0_0.out hi.bel) HC0_0.out HA4.out).mono ?_
  rintro e W' ⟨v, rfl, hr, hb⟩
  obtain ⟨Aq23, cq23, rfl⟩ := Kd.S_slice hr
  refine Fl.addS hi (Kd.S_mono hr (fun _ _ => trivial)) hb ?_
  clear hr
  clear hi hb hE
  simp only [Act.put, Fl.z1, Fl.z2, Fl.z3]
  refine Fl.call (some 50) Try.func18 (by kernel_rfl) rfl #[.agg #[.slice Aq15 x3.length cq15], .agg #[.slice Aq23 x3.length cq23]] rfl rfl rfl (by rfl) rfl (fun E W hE hi => ?_)
  refine (laws_eqMemory.calls k _ _ x3 _ _ x3 true W ((hE _ (Fl.inv_drop hi)).cS 2 rfl) ((hE _ (Fl.inv_drop hi)).lS 2 rfl) (hi.cS 0 rfl) (hi.lS 0 rfl) HA25.out).mono ?_
  rintro e W' ⟨rfl, hb⟩
  refine Fl.keep hi hb ?_
  clear hi hb hE
  simp only [Act.put, Fl.z1, Fl.z2, Fl.z3]
  refine Fl.take (some 51) (v := .bool false) rfl rfl (Or.inl ⟨by rfl, fun _ _ => by rfl⟩) ?_
  simp only [Act.put, Fl.z1, Fl.z2, Fl.z3]
  refine Fl.fin0 ?_
  refine Fl.stopN (fun W hi => ?_)
  replace HI := Lib.hid hi
  clear hi
  try clear hn_
  go_upto_region 13 with (fail)
  refine Fl.startW [.one 0, .take 1, .one 2, .take 3] (by decide) HI.out ?_
  refine Fl.ldF (some 52) 2 rfl rfl rfl (by rfl) _ _ rfl rfl Try.underlying31 rfl (by kernel_rfl) ?_
  simp only [Act.put, Fl.z1, Fl.z2, Fl.z3]
  refine Fl.take (some 53) (v := .int .i64 1) rfl rfl (Or.inl ⟨by rfl, fun _ _ => by rfl⟩) ?_
  simp only [Act.put, Fl.z1, Fl.z2, Fl.z3]
  refine Fl.call (some 54) Try.func30 (by kernel_rfl) rfl #[.agg #[.slice Aq15 x3.length cq15], .int .i64 1] rfl rfl rfl (by rfl) rfl (fun E W hE hi => ?_)
  refine Fl.markS 3 rfl hi (fun S hS => laws_markMemory.calls k S _ _ _ _ _ _ hi.bel hS HA27.out) ?_
  clear hi hE
  simp only [Act.put, Fl.z1, Fl.z2, Fl.z3]
  refine Fl.take (some 11) (v := .int .i64 x26) rfl rfl (Or.inl ⟨by rfl, fun _ _ => by rfl⟩) ?_
  simp only [Act.put, Fl.z1, Fl.z2, Fl.z3]
  refine Fl.stopW (fun W hi => ?_)
  replace HI := Lib.hid hi
  clear hi
  try clear hn_
  go_upto_region 14 with (fail)
  refine Fl.startL [.take 0, .take 1, .take 2, .take 3, .take 4, .one 5, .take 6, .take 7, .take 8, .take 9, .take 10, .take 11, .take 12] (by decide) HI.out ?_
  refine Fl.take (some 55) (v := .int .i64 x26) rfl rfl (Or.inl ⟨by rfl, fun _ _ => by rfl⟩) ?_
  simp only [Act.put, Fl.z1, Fl.z2, Fl.z3]
  refine Fl.take (some 56) (v := .bool false) rfl rfl (Or.inl ⟨by rfl, fun _ _ => by have h_ := decide_eq_false HNx26.out; go_simp⟩) ?_
  simp only [Act.put, Fl.z1, Fl.z2, Fl.z3]
  refine Fl.take (some 57) (v := .bool false) rfl rfl (Or.inl ⟨by rfl, fun _ _ => by rfl⟩) ?_
  simp only [Act.put, Fl.z1, Fl.z2, Fl.z3]
  refine Fl.take (some 58) (v := .slice Aq20 x17.length cq20) rfl rfl (Or.inl ⟨by rfl, fun _ _ => by rfl⟩) ?_
  simp only [Act.put, Fl.z1, Fl.z2, Fl.z3]
  refine Fl.take (some 59) (v := .slice Aq14 x11.length cq14) rfl rfl (Or.inl ⟨by rfl, fun _ _ => by rfl⟩) ?_
  simp only [Act.put, Fl.z1, Fl.z2, Fl.z3]
  refine Fl.call (some 60) Try.func37 (by kernel_rfl) rfl #[.slice Aq20 x17.length cq20, .slice Aq14 x11.length cq14] rfl rfl rfl (by rfl) rfl (fun E W hE hi => ?_)
  refine (laws_eqByteS.calls k _ _ x17 _ _ x11 true W ((hE _ (Fl.inv_drop hi)).cR 1 rfl) ((hE _ (Fl.inv_drop hi)).lR 1 rfl) ((hE _ (Fl.inv_drop hi)).cR 4 rfl) ((hE _ (Fl.inv_drop hi)).lR 4 rfl) HA22.out).mono ?_
  rintro e W' ⟨rfl, hb⟩
  refine Fl.keep hi hb.below ?_
  clear hi hb hE
  simp only [Act.put, Fl.z1, Fl.z2, Fl.z3]
  refine Fl.take (some 61) (v := .bool false) rfl rfl (Or.inl ⟨by rfl, fun _ _ => by rfl⟩) ?_
  simp only [Act.put, Fl.z1, Fl.z2, Fl.z3]
  refine Fl.take (some 62) (v := .bool false) rfl rfl (Or.inl ⟨by rfl, fun _ _ => by rfl⟩) ?_
  simp only [Act.put, Fl.z1, Fl.z2, Fl.z3]
  refine Fl.take (some 63) (v := .bool false) rfl rfl (Or.inl ⟨by rfl, fun _ _ => by rfl⟩) ?_
  simp only [Act.put, Fl.z1, Fl.z2, Fl.z3]
  refine Fl.take (some 64) (v := .bool x18) rfl rfl (Or.inl ⟨by rfl, fun _ _ => by rfl⟩) ?_
  simp only [Act.put, Fl.z1, Fl.z2, Fl.z3]
  refine Fl.take (some 65) (v := .bool x18) rfl rfl (Or.inl ⟨by rfl, fun _ _ => by rfl⟩) ?_
  simp only [Act.put, Fl.z1, Fl.z2, Fl.z3]
  refine Fl.take (some 66) (v := .bool false) rfl rfl (Or.inl ⟨by rfl, fun _ _ => by go_simp⟩) ?_
  simp only [Act.put, Fl.z1, Fl.z2, Fl.z3]
  refine Fl.take (some 67) (v := .bool false) rfl rfl (Or.inl ⟨by rfl, fun _ _ => by rfl⟩) ?_
  simp only [Act.put, Fl.z1, Fl.z2, Fl.z3]
  refine Fl.stop (fun W hi => ?_)
  replace HI := Lib.hid hi
  clear hi
  try clear hn_
  go_upto_region 17 with (fail)
  refine Fl.startW [.take 0, .take 1, .one 2, .take 3] (by decide) HI.out ?_
  refine Fl.take (some 68) (v := .slice Aq20 x17.length cq20) rfl rfl (Or.inl ⟨by rfl, fun _ _ => by rfl⟩) ?_
  simp only [Act.put, Fl.z1, Fl.z2, Fl.z3]
  refine Fl.take (some 69) (v := .int .i64 1) rfl rfl (Or.inl ⟨by rfl, fun _ _ => by rfl⟩) ?_
  simp only [Act.put, Fl.z1, Fl.z2, Fl.z3]
  refine Fl.call (some 70) Try.func38 (by kernel_rfl) rfl #[.slice Aq20 x17.length cq20, .int .i64 1] rfl rfl rfl (by rfl) rfl (fun E W hE hi => ?_)
  refine Fl.markR 1 rfl hi rfl (fun S hS => laws_markByteS.calls k S _ _ _ _ _ _ _ hi.bel hS HA30.out) ?_
  clear hi hE
  simp only [Act.put, Fl.z1, Fl.z2, Fl.z3]
  refine Fl.take (some 12) (v := .int .i64 x31) rfl rfl (Or.inl ⟨by rfl, fun _ _ => by rfl⟩) ?_
  simp only [Act.put, Fl.z1, Fl.z2, Fl.z3]
  refine Fl.stopW (fun W hi => ?_)
  replace HI := Lib.hid hi
  clear hi
  try clear hn_
  go_upto_region 19 with (fail)
  refine Fl.startL [.take 0, .take 1, .one 2, .take 3] (by decide) HI.out ?_
  refine Fl.take (some 71) (v := .slice Aq20 x17.length cq20) rfl rfl (Or.inl ⟨by rfl, fun _ _ => by rfl⟩) ?_
  simp only [Act.put, Fl.z1, Fl.z2, Fl.z3]
  refine Fl.take (some 72) (v := .int .i64 1) rfl rfl (Or.inl ⟨by rfl, fun _ _ => by rfl⟩) ?_
  simp only [Act.put, Fl.z1, Fl.z2, Fl.z3]
  refine Fl.call (some 73) Try.func39 (by kernel_rfl) rfl #[.slice Aq20 x17.length cq20, .int .i64 1] rfl rfl rfl (by rfl) rfl (fun E W hE hi => ?_)
  have hl_ := ((hE _ (Fl.inv_drop hi)).reads 1 rfl).1
  have hc_ := laws_heldByteS.calls k _ _ x29 1 x31 W ((hE _ (Fl.inv_drop hi)).reads 1 rfl).2.2 (hl_ ▸ ((hE _ (Fl.inv_drop hi)).reads 1 rfl).2.1) HA32.out
  rw [← hl_] at hc_
  refine hc_.mono ?_
  clear hc_ hl_
  rintro e W' ⟨rfl, hb⟩
  refine Fl.keep hi hb.below ?_
  clear hi hb hE
  simp only [Act.put, Fl.z1, Fl.z2, Fl.z3]
  refine Fl.take (some 13) (v := .int .i64 x31) rfl rfl (Or.inl ⟨by rfl, fun _ _ => by rfl⟩) ?_
  simp only [Act.put, Fl.z1, Fl.z2, Fl.z3]
  refine Fl.stop (fun W hi => ?_)
  replace HI := Lib.hid hi
  clear hi
  try clear hn_
  have hn_ := decide_eq_false HNx31.out
  go_upto_region 24 with (fail)
  refine Fl.start [([],[]),([0],[0]),([],[]),([2,1],[2]),([1,3,3],[1,3]),([4],[4]),([5],[5]),([5],[5]),([6,4,0,1,2,3,4,5,6],[6]),([7,8,0,1,2,3,4,5,6,7,8],[7])] [] 11 [.take 0, .take 2, .one 1, .one 3, .one 4, .take 5, .take 6, .take 7, .take 8, .take 9] [] (by kernel_rfl) (by kernel_rfl) (by decide) (by decide) (by kernel_rfl) (by kernel_rfl) Fl.mk0 HI.out ?_
  refine Fl.take (some 80) (v := .agg #[.slice A0_0 l0_0.length c0_0]) rfl rfl (Fl.ld 7 rfl (by rfl) _ _ rfl rfl Try.underlying24 rfl (by kernel_rfl)) ?_
  simp only [Act.put, Fl.z1, Fl.z2, Fl.z3]
  refine Fl.take (some 82) (v := .agg #[.int .i64 a1_0, .int .i64 a1_1, .int .i64 a1_2, .int .i64 a1_3]) rfl rfl (Fl.ld 6 rfl (by rfl) _ _ rfl rfl Try.underlying26 rfl (by kernel_rfl)) ?_
  simp only [Act.put, Fl.z1, Fl.z2, Fl.z3]
  refine Fl.call (some 81) Try.func14 (by kernel_rfl) rfl #[.agg #[.slice A0_0 l0_0.length c0_0]] rfl rfl rfl (by rfl) rfl (fun E W hE hi => ?_)
  refine (laws_toMemory.calls k _ _ l0_0 x3 W (Kd.C_below HR0_0.out hi.bel) HC0_0.out HA4.out).mono ?_
  rintro e W' ⟨v, rfl, hr, hb⟩
  obtain ⟨Aq33, cq33, rfl⟩ := Kd.S_slice hr
  refine Fl.addS hi (Kd.S_mono hr (fun _ _ => trivial)) hb ?_
  clear hr
  clear hi hb hE
  simp only [Act.put, Fl.z1, Fl.z2, Fl.z3]
  refine Fl.call (some 83) Try.func15 (by kernel_rfl) rfl #[.agg #[.int .i64 a1_0, .int .i64 a1_1, .int .i64 a1_2, .int .i64 a1_3]] rfl rfl rfl (by rfl) rfl (fun E W hE hi => ?_)
  refine (laws_toWindow.calls a1_0 a1_1 a1_2 a1_3 x6 x7 x8 x9 W HA10.out).mono ?_
  rintro e W' ⟨rfl, hb⟩
  refine Fl.keep hi hb ?_
  clear hi hb hE
  simp only [Act.put, Fl.z1, Fl.z2, Fl.z3]
  refine Fl.call (some 84) Try.func36 (by kernel_rfl) rfl #[.agg #[.slice Aq33 x3.length cq33], .agg #[.int .i64 x6, .int .i64 x7, .int .i64 x8, .int .i64 x9]] rfl rfl rfl (by rfl) rfl (fun E W hE hi => ?_)
  refine (impl_TagsOf.calls k _ _ x3 x6 x7 x8 x9 x17 x18 W (hi.cS 0 rfl) (hi.lS 0 rfl) HA19.out).mono ?_
  rintro e W' ⟨v, rfl, hr, hb⟩
  obtain ⟨Aq34, cq34, rfl⟩ := Kd.R_slice hr
  refine Fl.addR hi (Kd.R_mono hr (fun _ _ => trivial)) hb ?_
  clear hr
  clear hi hb hE
  simp only [Act.put, Fl.z1, Fl.z2, Fl.z3]
  refine Fl.take (some 79) (v := .tuple #[.slice Aq34 x17.length cq34, .bool x18]) rfl rfl (Or.inl ⟨by rfl, fun _ _ => by rfl⟩) ?_
  simp only [Act.put, Fl.z1, Fl.z2, Fl.z3]
  refine Fl.take (some 85) (v := .slice Aq34 x17.length cq34) rfl rfl (Or.inl ⟨by rfl, fun _ _ => by rfl⟩) ?_
  simp only [Act.put, Fl.z1, Fl.z2, Fl.z3]
  refine Fl.take (some 86) (v := .bool x18) rfl rfl (Or.inl ⟨by rfl, fun _ _ => by rfl⟩) ?_
  simp only [Act.put, Fl.z1, Fl.z2, Fl.z3]
  refine Fl.take (some 14) (v := .slice Aq34 x17.length cq34) rfl rfl (Or.inl ⟨by rfl, fun _ _ => by rfl⟩) ?_
  simp only [Act.put, Fl.z1, Fl.z2, Fl.z3]
  refine Fl.take (some 15) (v := .bool x18) rfl rfl (Or.inl ⟨by rfl, fun _ _ => by rfl⟩) ?_
  simp only [Act.put, Fl.z1, Fl.z2, Fl.z3]
  refine Fl.fin0 ?_
  refine Fl.stopN (fun W hi => ?_)
  replace HI := Lib.hid hi
  clear hi
  try clear hn_
  go_upto_region 25 with (fail)
  refine Fl.startL [.take 0, .take 1, .one 2, .take 3, .take 4, .take 5, .take 6, .take 7, .take 8] (by decide) HI.out ?_
  refine Fl.take (some 87) (v := .slice Aq34 x17.length cq34) rfl rfl (Or.inl ⟨by rfl, fun _ _ => by rfl⟩) ?_
  simp only [Act.put, Fl.z1, Fl.z2, Fl.z3]
  refine Fl.take (some 88) (v := .slice Aq14 x11.length cq14) rfl rfl (Or.inl ⟨by rfl, fun _ _ => by rfl⟩) ?_
  simp only [Act.put, Fl.z1, Fl.z2, Fl.z3]
  refine Fl.call (some 89) Try.func37 (by kernel_rfl) rfl #[.slice Aq34 x17.length cq34, .slice Aq14 x11.length cq14] rfl rfl rfl (by rfl) rfl (fun E W hE hi => ?_)
  refine (laws_eqByteS.calls k _ _ x17 _ _ x11 true W ((hE _ (Fl.inv_drop hi)).cR 0 rfl) ((hE _ (Fl.inv_drop hi)).lR 0 rfl) ((hE _ (Fl.inv_drop hi)).cR 6 rfl) ((hE _ (Fl.inv_drop hi)).lR 6 rfl) HA22.out).mono ?_
  rintro e W' ⟨rfl, hb⟩
  refine Fl.keep hi hb.below ?_
  clear hi hb hE
  simp only [Act.put, Fl.z1, Fl.z2, Fl.z3]
  refine Fl.take (some 90) (v := .bool false) rfl rfl (Or.inl ⟨by rfl, fun _ _ => by rfl⟩) ?_
  simp only [Act.put, Fl.z1, Fl.z2, Fl.z3]
  refine Fl.take (some 91) (v := .bool false) rfl rfl (Or.inl ⟨by rfl, fun _ _ => by rfl⟩) ?_
  simp only [Act.put, Fl.z1, Fl.z2, Fl.z3]
  refine Fl.take (some 92) (v := .bool x18) rfl rfl (Or.inl ⟨by rfl, fun _ _ => by rfl⟩) ?_
  simp only [Act.put, Fl.z1, Fl.z2, Fl.z3]
  refine Fl.take (some 93) (v := .bool x18) rfl rfl (Or.inl ⟨by rfl, fun _ _ => by rfl⟩) ?_
  simp only [Act.put, Fl.z1, Fl.z2, Fl.z3]
  refine Fl.take (some 94) (v := .bool false) rfl rfl (Or.inl ⟨by rfl, fun _ _ => by go_simp⟩) ?_
  simp only [Act.put, Fl.z1, Fl.z2, Fl.z3]
  refine Fl.take (some 95) (v := .bool false) rfl rfl (Or.inl ⟨by rfl, fun _ _ => by rfl⟩) ?_
  simp only [Act.put, Fl.z1, Fl.z2, Fl.z3]
  refine Fl.stop (fun W hi => ?_)
  replace HI := Lib.hid hi
  clear hi
  try clear hn_
  go_upto_region 28 with (fail)
  refine Fl.startL [.take 0, .take 1, .one 2, .take 3] (by decide) HI.out ?_
  refine Fl.take (some 96) (v := .slice Aq20 x17.length cq20) rfl rfl (Or.inl ⟨by rfl, fun _ _ => by rfl⟩) ?_
  simp only [Act.put, Fl.z1, Fl.z2, Fl.z3]
  refine Fl.take (some 97) (v := .int .i64 1) rfl rfl (Or.inl ⟨by rfl, fun _ _ => by rfl⟩) ?_
  simp only [Act.put, Fl.z1, Fl.z2, Fl.z3]
  refine Fl.call (some 98) Try.func39 (by kernel_rfl) rfl #[.slice Aq20 x17.length cq20, .int .i64 1] rfl rfl rfl (by rfl) rfl (fun E W hE hi => ?_)
  have hl_ := ((hE _ (Fl.inv_drop hi)).reads 3 rfl).1
  have hc_ := laws_heldByteS.calls k _ _ x29 1 x31 W ((hE _ (Fl.inv_drop hi)).reads 3 rfl).2.2 (hl_ ▸ ((hE _ (Fl.inv_drop hi)).reads 3 rfl).2.1) HA32.out
  rw [← hl_] at hc_
  refine hc_.mono ?_
  clear hc_ hl_
  rintro e W' ⟨rfl, hb⟩
  refine Fl.keep hi hb.below ?_
  clear hi hb hE
  simp only [Act.put, Fl.z1, Fl.z2, Fl.z3]
  refine Fl.take (some 13) (v := .int .i64 x31) rfl rfl (Or.inl ⟨by rfl, fun _ _ => by rfl⟩) ?_
  simp only [Act.put, Fl.z1, Fl.z2, Fl.z3]
  refine Fl.stop (fun W hi => ?_)
  replace HI := Lib.hid hi
  clear hi
  try clear hn_
  have hn_ := decide_eq_false HNx31.out
  go_wp2
  go_ret
  exact ⟨rfl, HI.out.bel⟩

end Go.Proofs.Ytldkbeccpheckaa.PFnExactTagsOf
