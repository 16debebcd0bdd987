/- What is proved here: entries (a key and a window), as cells and as rows; steps of a chain that write a part of a variable, or an element of a row of the call's own. No condition beyond those that each theorem states. Written by this session. -/
import Derived.Test.YtkifenbcepicjaaKe
namespace Go.Proofs.Ytkifenbcepicjaa.Ky
open Go.RowKit Go.Proofs.YtkifenbcepicjaaW.PrintWords Go.Proofs.Ytkifenbcepicjaa.Lv
set_option linter.unusedVariables false
set_option linter.unusedSimpArgs false
/-- An entry: its key, its window. -/
structure En where
  key : List Int
  a : Int
  s : Int
  l : Int
  c : Int
  deriving DecidableEq
def wc (x : En) : Array Value := #[.int .i64 x.a, .int .i64 x.s, .int .i64 x.l, .int .i64 x.c]
def ec (x : En) : Array Value := bs x.key ++ wc x
def ke : Kd En := Kd.iso (Kd.pair (Kd.arr 16 (Kd.int .u8) (by decide)) (Kd.pair (Kd.int .i64) (Kd.pair (Kd.int .i64) (Kd.pair (Kd.int .i64) (Kd.int .i64))))) (fun x => (x.key, x.a, x.s, x.l, x.c))
theorem ke_sz : ke.sz = 20 := rfl
theorem ke_E : ke.E = [] := rfl
theorem bs_list (l : List Int) : (bs l).toList = l.map (Value.int .u8) := rfl
theorem ec_list (x : En) : (ec x).toList = x.key.map (Value.int .u8) ++ [.int .i64 x.a, .int .i64 x.s, .int .i64 x.l, .int .i64 x.c] := by
  unfold ec wc
  rw [Array.toList_append, bs_list]
theorem ec_size {x : En} (h : Key x.key) : (ec x).size = 20 := by
  unfold ec wc
  rw [Array.size_append, bs_size, h]
  rfl
theorem reps_u8 : ∀ {xs : List Int} {cs : List Value}, Reps (fun (x : Int) (cs : List Value) => cs = [.int .u8 x]) 1 xs cs → cs = xs.map (Value.int .u8) := fun h => by
  have := Kd.reps_encs (enc := Value.int .u8) h
  rw [this]
  rfl
theorem ke_open {w : World} {x : En} {cs : List Value} (h : ke.K w x cs) : Key x.key ∧ cs = (ec x).toList := by
  obtain ⟨_, _, rfl, ⟨h1, h2⟩, _, _, rfl, rfl, _, _, rfl, rfl, _, _, rfl, rfl, rfl⟩ := h
  refine ⟨h1, ?_⟩
  rw [ec_list, reps_u8 h2]
  rfl
theorem ke_openM {w : World} {base : Nat} {ok : Nat → Prop} {x : En} {cs : List Value} (h : ke.M w base ok x cs) : Key x.key ∧ cs = (ec x).toList := ke_open (ke.K_of_M h)
theorem ke_mkM {x : En} (h : Key x.key) (w : World) (base : Nat) (ok : Nat → Prop) : ke.M w base ok x (ec x).toList := by
  rw [ec_list]
  refine ⟨_, _, rfl, ⟨h, ?_⟩, [.int .i64 x.a], [.int .i64 x.s, .int .i64 x.l, .int .i64 x.c], rfl, rfl, [.int .i64 x.s], [.int .i64 x.l, .int .i64 x.c], rfl, rfl, [.int .i64 x.l], [.int .i64 x.c], rfl, rfl, rfl⟩
  exact Kd.reps_scalar (enc := Value.int .u8) x.key
theorem ke_mk {x : En} (h : Key x.key) (w : World) : ke.K w x (ec x).toList := ke.K_of_M (ke_mkM h w 0 (fun _ => True))
theorem ec_one (x : En) : (ec x).all (·.oneCell') = true := by
  refine Array.all_eq_true.2 fun i hi => ?_
  have hm : (ec x)[i] ∈ (ec x).toList := by simp
  rw [ec_list] at hm
  rcases List.mem_append.1 hm with hm | hm
  · obtain ⟨y, _, e⟩ := List.mem_map.1 hm
    rw [← e]
    rfl
  · simp at hm
    rcases hm with e | e | e | e <;> rw [e] <;> rfl
theorem ec_inj {x y : En} (hx : Key x.key) (hy : Key y.key) (h : ec x = ec y) : x = y := by
  have h1 := congrArg Array.toList h
  rw [ec_list, ec_list] at h1
  obtain ⟨h2, h3⟩ := List.append_inj h1 (by rw [List.length_map, List.length_map, hx, hy])
  have h4 := (List.map_inj_right (fun x y e => by injection e)).1 h2
  obtain ⟨k, a, s, l, c⟩ := x
  obtain ⟨k', a', s', l', c'⟩ := y
  simp at h3 h4
  obtain ⟨rfl, rfl, rfl, rfl⟩ := h3
  subst h4
  rfl
theorem spot_none {w : World} {b o : Nat} {s : Option Nat} {v : Value} (h0 : w.cell? ⟨b, o, s⟩ = some v) : s = none := by
  cases s with
  | none => rfl
  | some s =>
    exfalso
    unfold World.cell? at h0
    dsimp only at h0
    split at h0 <;> simp at h0
/-- What lies in a row of entries. -/
theorem row_entry {w : World} {A : Option Addr} {n : Nat} {xs : List En} (h : ke.C w A n xs) (hp : 0 < n) : ∃ b o, A = some ⟨b, o, none⟩ ∧ ∀ i x, xs[i]? = some x → Key x.key ∧ w.rangeAt b (o + i * 20) (ec x).toList := by
  obtain ⟨h1, _, h2⟩ := h
  obtain ⟨ad, rfl, h3⟩ := h2 hp
  have hcell : ∀ i x, xs[i]? = some x → Key x.key ∧ ∀ j u, (ec x).toList[j]? = some u → w.cell? (ad.add (i * 20 + j)) = some u := fun i x hi => by
    obtain ⟨cs, _, hk, hc⟩ := h3 i x hi
    obtain ⟨k1, rfl⟩ := ke_open hk
    exact ⟨k1, fun j u hu => hc j u hu⟩
  obtain ⟨b, o, s⟩ := ad
  obtain ⟨x, hx⟩ : ∃ x, xs[0]? = some x := ⟨_, List.getElem?_eq_getElem (by omega)⟩
  obtain ⟨kx, hcx⟩ := hcell 0 x hx
  obtain ⟨u, hu⟩ : ∃ u, (ec x).toList[0]? = some u := ⟨_, List.getElem?_eq_getElem (by rw [Array.length_toList, ec_size kx]; decide)⟩
  obtain rfl := spot_none (show w.cell? ⟨b, o, s⟩ = some u from hcx 0 u hu)
  refine ⟨b, o, rfl, fun i x hi => ?_⟩
  obtain ⟨k1, k2⟩ := hcell i x hi
  refine ⟨k1, fun j v hj => ?_⟩
  have := k2 j v hj
  rwa [Go.Addr.add_mid, ← Nat.add_assoc] at this
theorem range_below {w w1 : World} {b o : Nat} {cs : List Value} (h : w.rangeAt b o cs) (hb : Below w.heap.size w w1) : w1.rangeAt b o cs := fun j v hj => pw_cell_below hb (h j v hj)
theorem range_win {w : World} {b o : Nat} {x : En} (hk : Key x.key) (h : w.rangeAt b o (ec x).toList) : w.rangeAt b (o + 16) (wc x).toList := fun j v hj => by
  have := h (16 + j) v (by rw [ec_list, List.getElem?_append_right (by rw [List.length_map, hk]; omega), List.length_map, hk, show 16 + j - 16 = j from by omega]; exact hj)
  rwa [← Nat.add_assoc] at this
theorem range_ekey {w : World} {b o : Nat} {x : En} (hk : Key x.key) (h : w.rangeAt b o (ec x).toList) : w.rangeAt b o (bs x.key).toList := fun j v hj => by
  refine h j v ?_
  rw [ec_list, List.getElem?_append_left (by
    have := (List.getElem?_eq_some_iff.1 hj).1
    rw [bs_list] at this
    exact this)]
  exact hj
/-- The entry ahead of place i. -/
def prev (t : List En) (i : Nat) : Option En := if i = 0 then none else t[i - 1]?
/-- Does an entry come behind the one ahead of it? -/
def lessP : Option En → En → Bool
  | none, _ => true
  | some p, x => lessF p.key x.key
theorem prev_succ {t : List En} {i : Nat} {x : En} (h : t[i]? = some x) : prev t (i + 1) = some x := by
  unfold prev
  rw [if_neg (by omega)]
  exact h
theorem hE : Try.prog.underlying 66 = some (.struct #[]) ∨ True := .inr trivial
theorem hEi : (Try.prog.info? 66).map (·.size) = some 20 := by kernel_rfl
theorem hEl : (Try.prog.info? 71).map (·.size) = some 20 := by kernel_rfl
theorem hEk {x : En} (h : Key x.key) : (Try.prog.info? 66).map (·.size) = some (ec x).size := by rw [ec_size h]; exact hEi
theorem hElk {x : En} (h : Key x.key) : (Try.prog.info? 71).map (·.size) = some (ec x).size := by rw [ec_size h]; exact hEl
theorem ec_key {x : En} (h : Key x.key) : ((ec x).toList.drop 0).take (bs x.key).size = (bs x.key).toList := by
  rw [ec_list, List.drop_zero, bs_size, bs_list]
  exact List.take_left' (by rw [List.length_map])
theorem ec_win {x : En} (h : Key x.key) : ((ec x).toList.drop 16).take (wc x).size = (wc x).toList := by
  rw [ec_list, List.drop_left' (by rw [List.length_map, h])]
  rfl
def En0 : En := ⟨List.replicate 16 0, 0, 0, 0, 0⟩
theorem key_0 : Key En0.key := rfl
theorem ec_zero : (#[.int .u8 0, .int .u8 0, .int .u8 0, .int .u8 0, .int .u8 0, .int .u8 0, .int .u8 0, .int .u8 0, .int .u8 0, .int .u8 0, .int .u8 0, .int .u8 0, .int .u8 0, .int .u8 0, .int .u8 0, .int .u8 0, .int .i64 0, .int .i64 0, .int .i64 0, .int .i64 0] : Array Value) = ec En0 := rfl
theorem put_key (x y : En) (hx : Key x.key) (hy : Key y.key) : ∀ k, k < (ec y).size → (ec ⟨x.key, y.a, y.s, y.l, y.c⟩)[k]? = if 0 ≤ k ∧ k < 0 + (bs x.key).size then (bs x.key)[k - 0]? else (ec y)[k]? := by
  intro k _
  have h1 : (bs x.key).size = 16 := by rw [bs_size, hx]
  have h2 : (bs y.key).size = 16 := by rw [bs_size, hy]
  unfold ec
  rw [Array.getElem?_append, Array.getElem?_append, h1, h2]
  by_cases h : k < 16
  · rw [if_pos h, if_pos ⟨by omega, by omega⟩, Nat.sub_zero]
  · rw [if_neg h, if_neg (by omega), if_neg h]
    rfl
theorem put_win (x y : En) (hy : Key y.key) : ∀ k, k < (ec y).size → (ec ⟨y.key, x.a, x.s, x.l, x.c⟩)[k]? = if 16 ≤ k ∧ k < 16 + (wc x).size then (wc x)[k - 16]? else (ec y)[k]? := by
  intro k hk
  have h2 : (bs y.key).size = 16 := by rw [bs_size, hy]
  have h3 : (wc x).size = 4 := rfl
  rw [ec_size hy] at hk
  unfold ec
  rw [Array.getElem?_append, Array.getElem?_append, h2, h3]
  by_cases h : k < 16
  · rw [if_pos h, if_neg (by omega), if_pos h]
  · rw [if_neg h, if_pos ⟨by omega, by omega⟩]
    rfl
theorem hEinfo : (Try.prog.info? 66).map (fun i => (i.zero, i.size, i.bytes)) = some (some (.agg (ec En0)), ke.sz, 48) := by kernel_rfl
theorem fill_length {l : List En} {i n : Nat} (h : i ≤ n ∧ n ≤ l.length) : (l.take i ++ List.replicate (n - i) En0).length = n := by simp; omega
theorem fill_set {l : List En} {i n : Nat} {x : En} (h : i < n ∧ n ≤ l.length) (hx : l[i]? = some x) : (l.take i ++ List.replicate (n - i) En0).set i x = l.take (i + 1) ++ List.replicate (n - (i + 1)) En0 := by
  rw [List.set_append_right _ _ (by simp; omega), show i - (l.take i).length = 0 from by simp; omega, show n - i = (n - (i + 1)) + 1 from by omega, List.replicate_succ, List.set_cons_zero, List.take_add_one, hx]
  simp
theorem wc_one (x : En) : (wc x).all (·.oneCell') = true := by simp [wc, Value.oneCell']
end Go.Proofs.Ytkifenbcepicjaa.Ky
namespace Go.Proofs.Ytkifenbcepicjaa.Fl
open Go.RowKit Go.Proofs.YtkifenbcepicjaaW.PrintWords Go.Proofs.YtkifenbcepicjaaW.PrintLast Go.Proofs.Ytkifenbcepicjaa.Lv Go.Proofs.Ytkifenbcepicjaa.Rg
section
variable {P : Program} {ops : Array Oper} {Q : Exit → Act → World → Prop} {w0 : World} {Ps : List Fact} {Fin : List Fact → Act → Prop}
/-- A store into an element of a row of the call's own. -/
theorem storeRow {i : Nat} {r : List St} {F F' : List Fact} {a : Act} {o : Oper} {α : Type} {d : Kd α} {e : Nat} (j : Nat) {g n cap : Nat} {xs : List α} (m : Nat) (x' : α) (cs' : Array Value) (hj : F[j]? = some (rowF d e w0.heap.size (.slice (some ⟨g, 0, none⟩) n cap) xs))
    (hF : F' = F.set j (rowF d e w0.heap.size (.slice (some ⟨g, 0, none⟩) n cap) (xs.set m x'))) (ho : ops[i]? = some o) (hd : o.dst = none) (ty : TypeId) (x y : Operand) (hop : o.op = .store ty x y)
    (hx : a.eval x = .pointer (some ⟨g, m * d.sz, none⟩)) (hy : a.eval y = .agg cs') (hw : Region.wanted o (yielded ops a.tmps) = true) (hm : m < n) (hM : ∀ (W : World), d.M W w0.heap.size (fun _ => False) x' cs'.toList) (hi : (P.info? ty).map (·.size) = some cs'.size) (h1 : cs'.all (·.oneCell') = true)
    (z : α) (h : CW P ops Q w0 Ps Fin r F' a) : CW P ops Q w0 Ps Fin (.one i :: r) F a := by
  intro E W hE hinv
  have hlt : j < F.length := (List.getElem?_eq_some_iff.1 hj).1
  have hj2 : (F ++ E)[j]? = some (rowF d e w0.heap.size (.slice (some ⟨g, 0, none⟩) n cap) xs) := by rw [List.getElem?_append_left hlt]; exact hj
  obtain ⟨S, k1, k2, k3⟩ := hinv.write j hj2
  have hR : Kd.R d e W w0.heap.size S (.slice (some ⟨g, 0, none⟩) n cap) xs := k2.now
  have hsz : cs'.toList.length = d.sz := d.K_len (d.K_of_M (hM W))
  obtain ⟨c, hcl, _, hcc, hfr⟩ := Kd.R_elem hR z (m : Int) (by omega) (by omega)
  have hSg : S g := hR.1 g rfl
  have hseg := Kd.R_seg hR (m : Int) (by omega) (by omega) (seg := cs'.toList) (j := 0) hcl hcc (by omega) (x' := x') (okp := fun _ => False) (by rw [List.take_zero, List.nil_append, Nat.zero_add, List.drop_eq_nil_of_le (by omega), List.append_nil]; exact hM W) (fun _ hk => hk.elim)
  rw [Int.toNat_natCast, Nat.add_zero] at hseg
  rw [Int.toNat_natCast] at hcc hfr
  unfold wpOp
  simp only [ho, hw, if_true]
  refine .inl (wp_store_mid ty x y hop g (m * d.sz) cs' hx hy (fun k hk => ?_) hi h1 ?_)
  · refine ⟨?_, hfr k⟩
    have hk2 : k < c.length := by rw [hcl, ← hsz, Array.length_toList]; exact hk
    rw [hcc k c[k] (List.getElem?_eq_getElem hk2)]
    rfl
  · rw [hd]
    refine ⟨F', ?_, h⟩
    rw [hF, ← List.set_append_left _ _ hlt]
    have hg := k1 g hSg
    exact k3 _ _ (pw_below_grown hinv.bel (some g) hinv.bel.size hseg.2 (fun k hk => by injection hk with hk; subst hk; exact hg.1)) (Kept.of_grown hseg.2 (Kept.refl W S) (fun k hk => by injection hk with hk; subst hk; exact .inl hSg)) (foot_row hseg.1)
/-- A load of a part of a variable. -/
theorem ldFP {i : Nat} {r : List St} {F : List Fact} {a : Act} {o : Oper} (N : Option Tmp) (j off : Nat) {g : Nat} {cs : Array Value} {t : TypeId} {d : TypeDesc} (sub : Array Value) (hj : F[j]? = some (boxF g cs t)) (hi2 : ops[i]? = some o) (hN : o.dst = N) (hw : Region.wanted o (yielded ops a.tmps) = true) (ty : TypeId) (x : Operand) (ho : o.op = .load ty x)
    (hx : a.eval x = .pointer (some ⟨g, off, none⟩)) (hs : (cs.toList.drop off).take sub.size = sub.toList) (hu : P.underlying ty = some d) (hd : d.isRow = true) (hi : (P.info? ty).map (·.size) = some sub.size) (h : CW P ops Q w0 Ps Fin r F (a.put N (.agg sub))) : CW P ops Q w0 Ps Fin (.one i :: r) F a := by
  subst hN
  intro E W hE hinv
  have hlt : j < F.length := (List.getElem?_eq_some_iff.1 hj).1
  have := yieldsIf_load_mid (P := P) (ops := ops) (S := fun W => Inv w0 W (F ++ E)) hw ty x ho g off hx sub.toList d (fun W hW k v hk => hW.cell j (by rw [List.getElem?_append_left hlt]; exact hj) (off + k) (by
    rw [← hs] at hk
    rw [List.getElem?_take] at hk
    split at hk
    · rw [List.getElem?_drop] at hk
      simpa using hk
    · cases hk)) hu hd (by simpa using hi)
  exact this.wpOp hi2 hinv ⟨F, hinv, h⟩
/-- A store into a part of a variable. -/
theorem storeP {i : Nat} {r : List St} {F F' : List Fact} {a : Act} {o : Oper} (j off : Nat) {g : Nat} {cs : Array Value} {t : TypeId} (sub cs' : Array Value) (hj : F[j]? = some (boxF g cs t)) (hF : F' = F.set j (boxF g cs' t)) (ho : ops[i]? = some o) (hd : o.dst = none) (ty : TypeId) (x y : Operand) (hop : o.op = .store ty x y)
    (hx : a.eval x = .pointer (some ⟨g, off, none⟩)) (hy : a.eval y = .agg sub) (hw : Region.wanted o (yielded ops a.tmps) = true) (hfit : off + sub.size ≤ cs.size) (hs : cs'.size = cs.size) (hc : ∀ k, k < cs.size → cs'[k]? = if off ≤ k ∧ k < off + sub.size then sub[k - off]? else cs[k]?)
    (hi : (P.info? ty).map (·.size) = some sub.size) (h1 : sub.all (·.oneCell') = true) (h : CW P ops Q w0 Ps Fin r F' a) : CW P ops Q w0 Ps Fin (.one i :: r) F a := by
  intro E W hE hinv
  have hlt : j < F.length := (List.getElem?_eq_some_iff.1 hj).1
  have hj2 : (F ++ E)[j]? = some (boxF g cs t) := by rw [List.getElem?_append_left hlt]; exact hj
  obtain ⟨S, k1, k2, k3⟩ := hinv.write j hj2
  obtain ⟨hSg, hblk⟩ := k2.now
  obtain ⟨c, hc1, hc2, hc3⟩ := Ky.bsets sub.toList off W cs hblk
  obtain rfl : c = cs' := by
    apply Array.ext_getElem?
    intro k
    by_cases hk : k < cs.size
    · rw [hc3 k hk, hc k hk, Array.length_toList]
      split
      · rw [Array.getElem?_toList]
      · rfl
    · rw [Array.getElem?_eq_none (by omega), Array.getElem?_eq_none (by omega)]
  have hk : Kept W (W.setCells g off sub.toList) S := ⟨by rw [size_setCells]; exact Nat.le_refl _, fun k hk hn => by
    by_cases hkg : k = g
    · subst hkg; exact absurd hSg hn
    · exact World.heap_setCells_other W g off sub.toList hk hkg⟩
  unfold wpOp
  simp only [ho, hw, if_true]
  refine .inl (wp_store_mid ty x y hop g off sub hx hy (fun k hk => ?_) hi h1 ?_)
  · rw [blk_cell hblk (off + k)]
    exact ⟨by rw [Array.getElem?_eq_getElem (by omega)]; rfl, blk_frozen hblk (off + k)⟩
  · rw [hd]
    refine ⟨F', ?_, h⟩
    rw [hF, ← List.set_append_left _ _ hlt]
    have hg := k1 g hSg
    exact k3 _ _ (Ky.below_sets hinv.bel hg.1 _ _) hk (foot_box hSg hc1)
end
end Go.Proofs.Ytkifenbcepicjaa.Fl
