/- What the rows of this seat share: the laid variable, slices that came in. The row of the law AsgSound. -/
import Derived.Test.YteokoaggkpjdeaaDoorRows
import Derived.Test.YteokoaggkpjdeaaDoorGe
import Derived.ProofKit
import Derived.LaidMore
import Derived.Stop.Joined
import Derived.Deep.Matrix
import Derived.SizedLaws
import Derived.RowKitVeiled
import Derived.Test.YteokoaggkpjdeaaDoorGhAsgSound
namespace Go.Proofs.YteokoaggkpjdeaaDoor
open Go.ChangeShapes Go.WideShapes Go.ChangeAt Go.RowKit

theorem ownK : ownKnob Tryd.prog.godebug = none := by kernel_rfl
theorem laidOutK : laidOutB Tryd.prog = true := by kernel_rfl
theorem gSame : Tryd.prog.globalNamed "skolem/skolemlaw02.same" = some 0 := by kernel_rfl
theorem tSame : (Tryd.prog.globals[0]?).map (·.type) = some 38 := by kernel_rfl
theorem cellsI : Tryd.prog.cellsOf 3 = 1 := by kernel_rfl
theorem cellsL : Tryd.prog.cellsOf 22 = 1 := by kernel_rfl
theorem bytesI : Tryd.prog.bytesOf 3 = 8 := by kernel_rfl
theorem bytesL : Tryd.prog.bytesOf 22 = 24 := by kernel_rfl

abbrev laidS {H : Type} : List (String × DataW H) := [("skolem/skolemlaw02.same", Rows.laid_skolem_skolemlaw02_same)]

theorem door_met (os : Os) (args : Array Value) : laidMetH Tryd.prog laidS ((World.doorLaid Tryd.prog 600 os).forCall (fun _ _ => 0) ⟨#[], args, []⟩).memory :=
  laidMetH_of_parts3 (fuel := 8) (laidMet_of_run' 8 (by kernel_rfl) (by kernel_rfl)) (by kernel_rfl) (by kernel_rfl)

theorem same_of_laid {W : World} (h : laidMetH Tryd.prog laidS W) : HasSame W := by
  obtain ⟨g, t, cs, fuel, p, hg, ht, hv, hd⟩ := h.funcs (List.mem_singleton.2 rfl)
  obtain rfl := Option.some.inj (gSame.symm.trans hg)
  obtain rfl := Option.some.inj (tSame.symm.trans ht)
  obtain ⟨v, hcs, -, -⟩ := Go.RowKit.func_of_trod Tryd.underlying38 hd
  rw [hcs] at hd
  have hd' : DataW.trod (funcToken Tryd.prog) Tryd.prog W 0 (fun _ => true) true fuel 38 [v] = some (.held [115, 107, 111, 108, 101, 109, 47, 115, 107, 111, 108, 101, 109, 114, 101, 102, 48, 49, 46, 83, 97, 109, 101], p) := hd
  obtain rfl := Go.func_of_trod (f0 := 49) Tryd.underlying38 (by kernel_rfl) hd'
  have := World.var?_cell hg hv 0
  rw [Array.eq_one_of_toList hcs] at this
  unfold HasSame
  simpa using this

theorem I64_wf {n : Int} (h : (Lit.int .i64 n).wf = true) : I64 n := by
  have : -9223372036854775808 ≤ n ∧ n ≤ 9223372036854775807 := by simpa [Lit.wf, IntKind.min, IntKind.max, IntKind.bits, IntKind.signed] using h
  exact this

/-- A slice of integers that came in. -/
theorem open_RI {H : Type} {enc : TypeId × Value → H} {W : World} {base : Nat} {held : Bool} {fuel : Nat} {a : Option Addr} {len cap : Nat} {x : DataW H × List MemPlace}
    (h : DataW.trod enc Tryd.prog W base (fun _ => true) held fuel 22 (Value.slice a len cap).cells.toList = some x) :
    ∃ xs, RI W (.slice a len cap) xs ∧ All64 xs ∧ xs.length = len ∧ ((x.1 = .nil ∧ len = 0 ∧ cap = 0) ∨ ∃ e s, x.1 = .slice e s ∧ len ≤ e.length + s.length) := by
  rcases open_ints Tryd.underlying22 Tryd.underlying3 cellsI h with ⟨hcs, hx⟩ | ⟨a', len', cap', zs, hcs, _, hl, hm, hz, hx, hcell, hwz⟩
  · simp [Value.cells] at hcs
    obtain ⟨rfl, rfl, rfl⟩ := hcs
    exact ⟨[], RI.none W, fun y hy => (by cases hy), rfl, .inl ⟨by rw [hx], rfl, rfl⟩⟩
  · simp [Value.cells] at hcs
    obtain ⟨rfl, rfl, rfl⟩ := hcs
    simp only [if_true] at hz
    have hlz : (zs.take len).length = len := by rw [List.length_take]; omega
    unfold maxLen at hm
    refine ⟨zs.take len, ⟨some a', cap, by rw [hlz], by omega, by omega, fun j hj => ?_⟩, fun y hy => I64_wf (hwz y (List.mem_of_mem_take hy)), hlz, .inr ⟨_, _, by rw [hx], by simp [lits]; omega⟩⟩
    rw [List.length_map, hlz] at hj
    refine ⟨a', rfl, ?_⟩
    rw [hcell j (by omega)]
    simp [show j < zs.length by omega]

theorem weightsAll_mem {H : Type} {P : Program} {e : TypeId} : ∀ {l : List (DataW H)} {d : DataW H}, d ∈ l → ∀ n ∈ d.weights P e, n ∈ DataW.weightsAll P e l
  | d' :: r, d, hd, n, hn => by
    simp only [DataW.weightsAll, List.mem_append]
    rcases List.mem_cons.1 hd with rfl | h
    · exact Or.inl hn
    · exact Or.inr (weightsAll_mem h n hn)
theorem sized_inner {H : Type} {P : Program} {ts : List TypeId} {ds : List (DataW H)} (h : (DataW.weightsEach P ts ds).all (· ≤ reachBytes) = true) {j : Nat} {t e q : TypeId} {elems spare e' sp' : List (DataW H)}
    (ht : ts[j]? = some t) (hd : ds[j]? = some (.slice elems spare)) (hu : P.underlying t = some (.slice e)) (hu2 : P.underlying e = some (.slice q)) (hx : DataW.slice e' sp' ∈ elems) : (e'.length + sp'.length) * P.bytesOf q ≤ reachBytes := by
  refine of_decide_eq_true (List.all_eq_true.1 h _ (DataW.weights_mem_each ht hd _ ?_))
  simp only [DataW.weights, hu, List.mem_cons, List.mem_append]
  exact Or.inr (Or.inl (weightsAll_mem hx _ (by simp [DataW.weights, hu2])))

/-- A slice of slices that came in; its data (for the reach). -/
theorem open_RLL {H : Type} {enc : TypeId × Value → H} {W : World} {base : Nat} {held : Bool} {fuel : Nat} {a : Option Addr} {len cap : Nat} {x : DataW H × List MemPlace}
    (h : DataW.trod enc Tryd.prog W base (fun _ => true) held fuel 23 (Value.slice a len cap).cells.toList = some x) :
    ∃ f, RLL W (.slice a len cap) f ∧ All64L f ∧ f.length = len ∧ (a = none → cap = 0) ∧
      (f = [] ∨ ∃ e s, x.1 = .slice e s ∧ f.length ≤ e.length + s.length ∧ ∀ c ∈ f, c.length = 0 ∨ ∃ e' s', DataW.slice e' s' ∈ e ∧ c.length ≤ e'.length + s'.length) := by
  rcases Go.Deep.open_int_rows Tryd.underlying23 Tryd.underlying22 Tryd.underlying3 cellsL cellsI h with ⟨hcs, hx⟩ | ⟨a', len', cap', A, L, C, Z, hcs, _, hl, hm, hx, hr⟩
  · simp [Value.cells] at hcs
    obtain ⟨rfl, rfl, rfl⟩ := hcs
    exact ⟨[], RLL.none W, fun y hy => (by cases hy), rfl, fun _ => rfl, .inl rfl⟩
  · simp [Value.cells] at hcs
    obtain ⟨rfl, rfl, rfl⟩ := hcs
    unfold maxLen at hm hr
    let f : List (List Int) := List.ofFn fun r : Fin len => (Z r.1).take (L r.1)
    have hfl : f.length = len := by simp [f]
    have hfg : ∀ j (hj : j < f.length), f[j] = (Z j).take (L j) := fun j hj => by simp [f]
    have hfk : ∀ j (hj : j < f.length), f[j].length = L j := fun j hj => by
      rw [hfg j hj, List.length_take]
      have := hr j (by omega); omega
    let vs : List Value := List.ofFn fun r : Fin len => Value.slice (A r.1) (L r.1) (C r.1)
    have hvl : vs.length = len := by simp [vs]
    have hvg : ∀ j (hj : j < vs.length), vs[j] = Value.slice (A j) (L j) (C j) := fun j hj => by simp [vs]
    refine ⟨f, ⟨some a', cap, vs, by rw [hvl], by omega, by omega, fun j hj => ⟨a', rfl, ?_⟩, by omega, fun j hj hj' => ?_⟩, fun c hc => ?_, hfl, fun h => (by cases h), .inr ⟨_, _, by rw [hx], by simp; omega, fun c hc => ?_⟩⟩
    · rw [hvg j hj]; exact (hr j (by omega)).1
    · obtain ⟨h1, h2, h3, h4, h5, h6, h7⟩ := hr j (by omega)
      refine ⟨A j, C j, by rw [hvg j hj, hfk j hj'], by rw [hfk j hj']; exact h2, by rw [hfk j hj']; omega, fun i hi => ?_⟩
      rw [List.length_map, hfk j hj'] at hi
      cases hA : A j with
      | none => have := h6 hA; omega
      | some a'' =>
        refine ⟨a'', rfl, ?_⟩
        rw [(h7 a'' hA).2 i (by omega), List.getElem_map]
        have : f[j][i]'(by rw [hfk j hj']; exact hi) = (Z j).getD i 0 := by
          simp only [hfg j hj', List.getElem_take]
          simp [show i < (Z j).length by omega]
        rw [this]
    · obtain ⟨j, hj, rfl⟩ := List.mem_iff_getElem.1 hc
      intro y hy
      rw [hfg j hj] at hy
      exact I64_wf ((hr j (by omega)).2.2.2.2.1 y (List.mem_of_mem_take hy))
    · obtain ⟨j, hj, rfl⟩ := List.mem_iff_getElem.1 hc
      rw [hfk j hj]
      obtain ⟨h1, h2, h3, h4, h5, h6, h7⟩ := hr j (by omega)
      cases hA : A j with
      | none => left; have := h6 hA; omega
      | some a'' =>
        right
        refine ⟨_, _, List.mem_map.2 ⟨j, List.mem_range.2 (by omega), by rw [hA]; rfl⟩, by simp [lits]; omega⟩

theorem total_le {l : List (List Int)} {M : Nat} (h : ∀ c ∈ l, c.length ≤ M) : total l ≤ l.length * M := by
  unfold total lens
  rw [List.take_length]
  induction l with
  | nil => simp
  | cons c l ih =>
    have h1 := h c (by simp)
    have h2 := ih fun c hc => h c (by simp [hc])
    rw [List.map_cons, List.sum_cons, List.length_cons, Nat.add_mul]
    omega

end Go.Proofs.YteokoaggkpjdeaaDoor
namespace Go.Proofs.YteokoaggkpjdeaaDoor
open Go.ChangeShapes Go.WideShapes Go.ChangeAt Go.RowKit

set_option maxRecDepth 100000 in
theorem asgSound_lifted (os : Os) (started : os.Started) (H : Type) (enc : TypeId × Value → H) :
    ReturnsInHanded {} Tryd.checked os 10 .any (fun w args => (Rows.asgSoundSpec.pre enc Tryd.prog Tryd.f10 [] false w args ∧ laidMetH Tryd.prog laidS w) ∧ sizedMet enc Tryd.prog Tryd.f10 (OpenSpec.ofChange Rows.asgSoundSpec) false w args)
      (Rows.asgSoundSpec.post enc Tryd.prog Tryd.f10 false true false false) := by
  refine returnsInHanded_of_change_and (C := Tryd.checked) (X := fun w _ => laidMetH Tryd.prog laidS w) (fun _ _ _ hh h => h.of_heap hh) ownK started (by kernel_rfl) Tryd.func10
    (ChangeSpec.witness_shaped (enc := enc) (C := Tryd.checked) (os := os) (X := fun w _ => laidMetH Tryd.prog laidS w) false (World.doorLaid Tryd.prog 600 os) #[.slice none 0 0, .slice none 0 0] 8 rfl (World.shaped_of_RefB (by kernel_rfl) (by kernel_rfl)) (by kernel_rfl) (by kernel_rfl) (by kernel_rfl) (door_met os _)) ?_
  intro W base args ds gs before hval0 hW _ hsz0 hL _
  have hsz : (DataW.weightsEach Tryd.prog (Tryd.f10.params.toList ++ Rows.asgSoundSpec.plain.varTypes Tryd.prog) (ds ++ gs)).all (· ≤ reachBytes) = true := hsz0
  clear hsz0
  have hval : ∀ (j : Nat) t v, Tryd.f10.params[j]? = some t → args[j]? = some v → Value.okWide Tryd.prog W .any base t v := hval0
  have hW' := hW
  obtain ⟨p, q, hA0, hV, rfl, hfz, hnd⟩ := hW
  have hA : DataW.TrodAll enc Tryd.prog W 0 (fun _ => true) true Tryd.f10.params.toList args.toList ds p := hA0
  rw [Tryd.params10] at hA hval hsz
  obtain ⟨v0, v1, d0, d1, p0, p1, rfl, rfl, rfl, h0, h1⟩ := trodAll_two hA
  obtain ⟨rfl, rfl⟩ := trodVars_none hV
  obtain ⟨a0, len0, cap0, rfl⟩ := okWide_slice Tryd.underlying23 (hval 0 23 v0 rfl rfl)
  have h0k := h0
  obtain ⟨fuel0, hf0⟩ := h0
  obtain ⟨x0, r0, e0, l0, n0, hx0⟩ := open_RLL hf0
  obtain ⟨a1, len1, cap1, rfl⟩ := okWide_slice Tryd.underlying22 (hval 1 22 v1 rfl rfl)
  have h1k := h1
  obtain ⟨fuel1, hf1⟩ := h1
  obtain ⟨x1, r1, e1, l1, hx1⟩ := open_RI hf1
  clear hA0 hval0
  simp only [List.append_nil] at hW'
  have hlt : ∀ x ∈ p0 ++ p1, x.block < W.heap.size := fun x hx => by simpa using hW'.lt x hx
  have hre : reachBytes = 140737488351232 := rfl
  have b0 : x0.length ≤ 5864062014634 ∧ ∀ c ∈ x0, c.length ≤ 17592186043904 := by
    rcases hx0 with rfl | ⟨e, s, he, hle, hin⟩
    · exact ⟨by simp, fun c hc => by cases hc⟩
    · have he' : d0 = .slice e s := he
      refine ⟨?_, fun c hc => ?_⟩
      · have := sized_slice hsz (j := 0) (t := 23) rfl (by rw [he']; rfl) Tryd.underlying23
        rw [bytesL, hre] at this
        omega
      · rcases hin c hc with h | ⟨e', s', hm, h⟩
        · omega
        · have := sized_inner hsz (j := 0) (t := 23) rfl (by rw [he']; rfl) Tryd.underlying23 Tryd.underlying22 hm
          rw [bytesI, hre] at this
          omega
  have nn0 : ∀ c, Value.slice a0 len0 cap0 = .slice none 0 c → c = 0 := fun c hc => by injection hc with e1 _ e3; rw [← e3]; exact n0 e1
  have b1 : x1.length ≤ 17592186043904 := by
    rcases hx1 with ⟨-, h, -⟩ | ⟨e, s, he, hle⟩
    · omega
    · have he' : d1 = .slice e s := he
      have := sized_slice hsz (j := 1) (t := 22) rfl (by rw [he']; rfl) Tryd.underlying22
      rw [bytesI, hre] at this
      omega
  have hG := same_of_laid hL
  refine (sound_law x0 x1 _ _ W e0 e1 r0 r1 nn0 b0.1 b0.2 b1 hG).mono fun e W' ⟨he, hE⟩ => ?_
  subst he
  have hargs : DataW.TrodAll enc Tryd.prog W' 0 (fun b => decide (b < W.heap.size)) true [23, 22] [Value.slice a0 len0 cap0, Value.slice a1 len1 cap1] [d0, d1] (p0 ++ p1) := by
    exact trodAll_mk2 (Below.trod laidOutK (by kernel_rfl) (of_decide_eq_true (by kernel_rfl)) h0k hE (fun x hx => hlt x (List.mem_append_left _ (hx)))) (Below.trod laidOutK (by kernel_rfl) (of_decide_eq_true (by kernel_rfl)) h1k hE (fun x hx => hlt x (List.mem_append_right _ hx)))
  exact ⟨_, rfl, _, _, _, [], p0 ++ p1, [], hW', trodAll_mk1 (shut_bool Tryd.underlying4 true), hargs, rfl, hE.frame _, fun h => by cases h⟩

theorem asgSound_holds : Rows.AsgSoundSaid :=
  OpenClaim.holds_of_wide 10 Tryd.f10 rfl rfl rfl rfl rfl rfl rfl ⟨rfl, rfl, rfl, rfl, rfl⟩ rfl rfl rfl rfl rfl (by kernel_rfl) Tryd.func10 (by kernel_rfl)
    (of_decide_eq_true (by kernel_rfl)) (by unfold Func.isWrapper; first | (rw [if_pos (by decide +kernel)]; kernel_rfl) | (rw [if_neg (by decide +kernel)]; exact ⟨rfl, rfl⟩))
    (fun os started H enc _ => asgSound_lifted os started H enc)
#print axioms asgSound_holds

end Go.Proofs.YteokoaggkpjdeaaDoor
