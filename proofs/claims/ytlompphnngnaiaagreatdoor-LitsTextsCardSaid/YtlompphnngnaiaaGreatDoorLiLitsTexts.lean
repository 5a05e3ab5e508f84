/- What the rows of this seat share: the laid variables, slices that came in, the row with the world's shape. The row of the law LitsTexts. -/
import Derived.Test.YtlompphnngnaiaaGreatDoorRows
import Derived.Test.YtlompphnngnaiaaGreatDoorLb
import Derived.ProofKit
import Derived.LaidMore
import Derived.Lay
import Derived.LaidSub
import Derived.MakeChecks
import Derived.HandedShaped
import Derived.Shelf.Vars
import Derived.Stop.Joined
import Derived.Deep.Matrix
import Derived.SizedLaws
import Derived.RowKitVeiled
import Derived.Test.YtlompphnngnaiaaGreatDoorLeLitsTexts
namespace Go.Proofs.YtlompphnngnaiaaGreatDoor
open Go.ChangeShapes Go.WideShapes Go.ChangeAt Go.RowKit

theorem ownK : ownKnob Tryz.prog.godebug = none := by kernel_rfl
theorem laidOutK : laidOutB Tryz.prog = true := by kernel_rfl
theorem gSame : Tryz.prog.globalNamed "skolem/skolemlaw01.same" = some 0 := by kernel_rfl
theorem tSame : (Tryz.prog.globals[0]?).map (·.type) = some 29 := by kernel_rfl
theorem gSyn : Tryz.prog.globalNamed "strconv.ErrSyntax" = some 1 := by kernel_rfl
theorem tSyn : (Tryz.prog.globals[1]?).map (·.type) = some 58 := by kernel_rfl
theorem gRng : Tryz.prog.globalNamed "strconv.ErrRange" = some 2 := by kernel_rfl
theorem tRng : (Tryz.prog.globals[2]?).map (·.type) = some 58 := by kernel_rfl
theorem gTab : Tryz.prog.globalNamed "internal/strconv.uint64pow10" = some 3 := by kernel_rfl
theorem tTab : (Tryz.prog.globals[3]?).map (·.type) = some 156 := by kernel_rfl
theorem cellsU : Tryz.prog.cellsOf 73 = 1 := by kernel_rfl
theorem cellsT : Tryz.prog.cellsOf 156 = 20 := by kernel_rfl
theorem cellsI : Tryz.prog.cellsOf 3 = 1 := by kernel_rfl
theorem cellsL : Tryz.prog.cellsOf 22 = 1 := by kernel_rfl
theorem bytesI : Tryz.prog.bytesOf 3 = 8 := by kernel_rfl
theorem bytesL : Tryz.prog.bytesOf 22 = 24 := by kernel_rfl

abbrev laidS {H : Type} : List (String × DataW H) := [("math/bits.deBruijn32tab", Rows.laid_math_bits_deBruijn32tab), ("math/bits.deBruijn64tab", Rows.laid_math_bits_deBruijn64tab), ("internal/strconv.uint64pow10", Rows.laid_internal_strconv_uint64pow10), ("unicode/utf8.acceptRanges", Rows.laid_unicode_utf8_acceptRanges), ("strconv.ErrRange", Rows.laid_strconv_ErrRange), ("strconv.ErrSyntax", Rows.laid_strconv_ErrSyntax), ("skolem/skolemlaw01.same", Rows.laid_skolem_skolemlaw01_same)]
abbrev laidA : List (String × DataW Unit) := laidS ++ [("unicode/utf8.first", Rows.laid_unicode_utf8_first)]

/-- The witness's world: what the door leaves, and the pinned table laid. -/
noncomputable def witW (os : Os) : World := (World.doorLaid Tryz.prog 600 os).layVars Tryz.prog [("unicode/utf8.first", Rows.laid_unicode_utf8_first)]
theorem witW_os (os : Os) : (witW os).os = os := (World.layVars_os _ _ _).trans rfl
theorem wit_shaped (os : Os) (args : Array Value) : ((witW os).forCall (fun _ _ => 0) ⟨#[], args, []⟩).Shaped Tryz.prog := World.shaped_of_ZipB (by kernel_rfl) (by kernel_rfl)
theorem door_met (os : Os) (args : Array Value) : laidMetH Tryz.prog laidA ((witW os).forCall (fun _ _ => 0) ⟨#[], args, []⟩).memory :=
  laidMetH_of_parts3 (fuel := 8)
    (laidMet_layVars (w0 := World.doorLaid Tryz.prog 600 os) ["unicode/utf8.first"] [7, 8, 3, 6, 2, 14, 1, 15] (by simp [World.memory, World.forCall, Input.heap, witW]; rfl) (by kernel_rfl) (by kernel_rfl)
      (LaidIn.of_run _ 8 (by kernel_rfl) (by kernel_rfl) (by kernel_rfl) (by kernel_rfl)))
    (by kernel_rfl) (by kernel_rfl)

theorem same_of_laid {W : World} (h : laidMetH Tryz.prog laidA W) : HasSame W := by
  obtain ⟨g, t, cs, fuel, p, hg, ht, hv, hd⟩ := h.funcs (n := "skolem/skolemlaw01.same") (by simp [Rows.laid_skolem_skolemlaw01_same]; rfl)
  obtain rfl := Option.some.inj (gSame.symm.trans hg)
  obtain rfl := Option.some.inj (tSame.symm.trans ht)
  obtain ⟨v, hcs, -, -⟩ := Go.RowKit.func_of_trod Tryz.underlying29 hd
  rw [hcs] at hd
  have hd' : DataW.trod (funcToken Tryz.prog) Tryz.prog W 0 (fun _ => true) true fuel 29 [v] = some (.held [115, 107, 111, 108, 101, 109, 47, 115, 107, 111, 108, 101, 109, 114, 101, 102, 48, 49, 46, 83, 97, 109, 101], p) := hd
  obtain rfl := Go.func_of_trod (f0 := 86) Tryz.underlying29 (by kernel_rfl) hd'
  have := World.var?_cell hg hv 0
  rw [Array.eq_one_of_toList hcs] at this
  unfold HasSame
  simpa using this

/-- One listed variable that is no handle. -/
theorem laid_of {W : World} (h : laidMetH Tryz.prog laidA W) (n : String) (d : DataW Unit) (hf : (laidA.filter fun x => x.1 == n) = [(n, d)]) (hn : d.handleName?.isNone = true) : laidMet Tryz.prog [(n, d)] W := by
  have h1 := h.filter fun x => x.1 == n
  rw [hf, MakeChecks.laidMetH_plain _ _ _ (by simpa using hn)] at h1
  exact h1
theorem iface_of_laid {W : World} {n : String} {nm : String} {d : DataW Unit} {g : Nat} (h : laidMet Tryz.prog [(n, .iface nm d)] W) (hg : Tryz.prog.globalNamed n = some g) (ht : (Tryz.prog.globals[g]?).map (·.type) = some 58) :
    ∃ te pe, W.cell? ⟨g, 0, none⟩ = some (.iface te pe) := by
  obtain ⟨ps, ⟨g', t', cs, fuel, p, q, hg', ht', hvar, hd, _, _⟩, _⟩ := h
  obtain rfl := Option.some.inj (hg.symm.trans hg')
  obtain rfl := Option.some.inj (ht.symm.trans ht')
  obtain ⟨f', u, v, hcs, -, -⟩ := iface_of_trod Tryz.underlying58 hd
  have := World.var?_cell hg hvar 0
  rw [Array.eq_one_of_toList hcs] at this
  exact ⟨u, v, by simpa using this⟩
theorem LW_of {W : World} (h : laidMetH Tryz.prog laidA W) (hsh : W.ShapedOpen Tryz.prog) : LW W :=
  ⟨same_of_laid h,
   Lib.tabIs_of_head gTab tTab Tryz.underlying156 Tryz.underlying73 cellsU cellsT (laid_of h "internal/strconv.uint64pow10" (Lib.tabData .u64 Lib.pow10Tab) (by kernel_rfl) (by kernel_rfl)),
   iface_of_laid (nm := "*errors.errorString") (d := .ptr (.agg [.lit (.string [105, 110, 118, 97, 108, 105, 100, 32, 115, 121, 110, 116, 97, 120])])) (laid_of h "strconv.ErrSyntax" _ (by kernel_rfl) (by kernel_rfl)) gSyn tSyn,
   iface_of_laid (nm := "*errors.errorString") (d := .ptr (.agg [.lit (.string [118, 97, 108, 117, 101, 32, 111, 117, 116, 32, 111, 102, 32, 114, 97, 110, 103, 101])])) (laid_of h "strconv.ErrRange" _ (by kernel_rfl) (by kernel_rfl)) gRng tRng,
   Go.Proofs.cell_of_shapedOpen_int (zero := #[.int .i64 0]) hsh (of_decide_eq_true (by kernel_rfl)) (by kernel_rfl) rfl (by kernel_rfl) (by kernel_rfl) Tryz.underlying3⟩

/-- The row's wrap: a condition beside it, and the world's shape. -/
theorem returnsInHanded_of_change_and_shaped {H : Type} {enc : TypeId × Value → H} {a : Assume} {C : Checked} {os : Os} {f : FuncId} {fn : Func} {s : ChangeSpec} {conds : List PathCond} {apart fresh handsOn again : Bool} {X : World → Array Value → Prop}
    (hX : ∀ (w w' : World) (args : Array Value), w.heap = w'.heap → X w args → X w' args)
    (own : ownKnob C.prog.godebug = none) (started : os.Started) (noInit : C.prog.inits.idxOf? f = none) (hfn : C.prog.funcs[f]? = some fn)
    (witness : ∃ (w : World) (tape : Tape) (i : Input), w.os = os ∧ (w.forCall tape i).Shaped C.prog ∧ i.vars = [] ∧ Input.okWide C.prog (w.forCall tape i) .any w.heap.size f i ∧
      ((s.pre enc C.prog fn conds apart (w.forCall tape i).memory i.args ∧ X (w.forCall tape i).memory i.args) ∧ sizedMet enc C.prog fn (OpenSpec.ofChange s) apart (w.forCall tape i).memory i.args) ∧ a.holds C.prog (lone (Frame.enter C.prog f i.args .normal) [] (w.forCall tape i)))
    (contract : ∀ (W : World) (base : Nat) (args : Array Value) (ds gs : List (DataW H)) (before : List MemPlace),
      (∀ (j : Nat) t v, fn.params[j]? = some t → args[j]? = some v → Value.okWide C.prog W .any base t v) →
      DataW.Whole enc C.prog fn.params.toList s.vars apart W args.toList ds gs before →
      conds.all (PathCond.test C.prog ⟨fn.params.toList, ds, s.plain.varTypes C.prog, gs⟩) = true →
      (DataW.weightsEach C.prog (fn.params.toList ++ s.plain.varTypes C.prog) (ds ++ gs)).all (· ≤ reachBytes) = true → (X W args ∧ W.ShapedOpen C.prog) →
      a.holds C.prog (lone (Frame.enter C.prog f args .normal) [] W) →
      Calls C.prog f args W fun e W' => ∃ v, e = .returned v ∧ s.post enc C.prog fn apart fresh handsOn again W args v W') :
    ReturnsInHanded a C os f .any (fun w args => (s.pre enc C.prog fn conds apart w args ∧ X w args) ∧ sizedMet enc C.prog fn (OpenSpec.ofChange s) apart w args) (s.post enc C.prog fn apart fresh handsOn again) := by
  refine returnsInHanded_of_calls own started noInit witness ?_
  intro w tape i _ hsh _ hok hpre hholds
  obtain ⟨_, _, _, fn', hfn', _, _, _, _, hval⟩ := hok
  have e : fn' = fn := Option.some.inj (hfn'.symm.trans hfn)
  subst e
  obtain ⟨⟨⟨ds, gs, before, hw, hc⟩, hx⟩, hz⟩ := hpre
  have hw' := DataW.Whole.of_heap (w' := w.forCall tape i) (by rfl) hw
  refine (contract (w.forCall tape i) w.heap.size i.args ds gs before hval hw' hc (hz.weights hw) ⟨hX _ _ _ (by rfl) hx, hsh⟩ hholds).mono fun e W' ⟨v, he, hp⟩ => ?_
  subst he
  exact ChangeSpec.post_blind hp

theorem I64_wf {n : Int} (h : (Lit.int .i64 n).wf = true) : I64 n := by
  have : -9223372036854775808 ≤ n ∧ n ≤ 9223372036854775807 := by simpa [Lit.wf, IntKind.min, IntKind.max, IntKind.bits, IntKind.signed] using h
  exact this

/-- A slice of integers that came in. -/
theorem open_RI {H : Type} {enc : TypeId × Value → H} {W : World} {base : Nat} {held : Bool} {fuel : Nat} {a : Option Addr} {len cap : Nat} {x : DataW H × List MemPlace}
    (h : DataW.trod enc Tryz.prog W base (fun _ => true) held fuel 22 (Value.slice a len cap).cells.toList = some x) :
    ∃ xs, RI W (.slice a len cap) xs ∧ All64 xs ∧ xs.length = len ∧ ((x.1 = .nil ∧ len = 0 ∧ cap = 0) ∨ ∃ e s, x.1 = .slice e s ∧ len ≤ e.length + s.length) := by
  rcases open_ints Tryz.underlying22 Tryz.underlying3 cellsI h with ⟨hcs, hx⟩ | ⟨a', len', cap', zs, hcs, _, hl, hm, hz, hx, hcell, hwz⟩
  · simp [Value.cells] at hcs
    obtain ⟨rfl, rfl, rfl⟩ := hcs
    exact ⟨[], RI.none W, fun y hy => (by cases hy), rfl, .inl ⟨by rw [hx], rfl, rfl⟩⟩
  · simp [Value.cells] at hcs
    obtain ⟨rfl, rfl, rfl⟩ := hcs
    simp only [if_true] at hz
    have hlz : (zs.take len).length = len := by rw [List.length_take]; omega
    unfold maxLen at hm
    refine ⟨zs.take len, ⟨some a', cap, by rw [hlz], by omega, by omega, fun j hj => ?_⟩, fun y hy => I64_wf (hwz y (List.mem_of_mem_take hy)), hlz, .inr ⟨_, _, by rw [hx], by simp [lits]; omega⟩⟩
    rw [List.length_map, hlz] at hj
    refine ⟨a', rfl, ?_⟩
    rw [hcell j (by omega)]
    simp [show j < zs.length by omega]

theorem weightsAll_mem {H : Type} {P : Program} {e : TypeId} : ∀ {l : List (DataW H)} {d : DataW H}, d ∈ l → ∀ n ∈ d.weights P e, n ∈ DataW.weightsAll P e l
  | d' :: r, d, hd, n, hn => by
    simp only [DataW.weightsAll, List.mem_append]
    rcases List.mem_cons.1 hd with rfl | h
    · exact Or.inl hn
    · exact Or.inr (weightsAll_mem h n hn)
theorem sized_inner {H : Type} {P : Program} {ts : List TypeId} {ds : List (DataW H)} (h : (DataW.weightsEach P ts ds).all (· ≤ reachBytes) = true) {j : Nat} {t e q : TypeId} {elems spare e' sp' : List (DataW H)}
    (ht : ts[j]? = some t) (hd : ds[j]? = some (.slice elems spare)) (hu : P.underlying t = some (.slice e)) (hu2 : P.underlying e = some (.slice q)) (hx : DataW.slice e' sp' ∈ elems) : (e'.length + sp'.length) * P.bytesOf q ≤ reachBytes := by
  refine of_decide_eq_true (List.all_eq_true.1 h _ (DataW.weights_mem_each ht hd _ ?_))
  simp only [DataW.weights, hu, List.mem_cons, List.mem_append]
  exact Or.inr (Or.inl (weightsAll_mem hx _ (by simp [DataW.weights, hu2])))

/-- A slice of slices that came in; its data (for the reach). -/
theorem open_RLL {H : Type} {enc : TypeId × Value → H} {W : World} {base : Nat} {held : Bool} {fuel : Nat} {a : Option Addr} {len cap : Nat} {x : DataW H × List MemPlace}
    (h : DataW.trod enc Tryz.prog W base (fun _ => true) held fuel 33 (Value.slice a len cap).cells.toList = some x) :
    ∃ f, RLL W (.slice a len cap) f ∧ All64L f ∧ f.length = len ∧ (a = none → cap = 0) ∧
      (f = [] ∨ ∃ e s, x.1 = .slice e s ∧ f.length ≤ e.length + s.length ∧ ∀ c ∈ f, c.length = 0 ∨ ∃ e' s', DataW.slice e' s' ∈ e ∧ c.length ≤ e'.length + s'.length) := by
  rcases Go.Deep.open_int_rows Tryz.underlying33 Tryz.underlying22 Tryz.underlying3 cellsL cellsI h with ⟨hcs, hx⟩ | ⟨a', len', cap', A, L, C, Z, hcs, _, hl, hm, hx, hr⟩
  · simp [Value.cells] at hcs
    obtain ⟨rfl, rfl, rfl⟩ := hcs
    exact ⟨[], RLL.none W, fun y hy => (by cases hy), rfl, fun _ => rfl, .inl rfl⟩
  · simp [Value.cells] at hcs
    obtain ⟨rfl, rfl, rfl⟩ := hcs
    unfold maxLen at hm hr
    let f : List (List Int) := List.ofFn fun r : Fin len => (Z r.1).take (L r.1)
    have hfl : f.length = len := by simp [f]
    have hfg : ∀ j (hj : j < f.length), f[j] = (Z j).take (L j) := fun j hj => by simp [f]
    have hfk : ∀ j (hj : j < f.length), f[j].length = L j := fun j hj => by
      rw [hfg j hj, List.length_take]
      have := hr j (by omega); omega
    let vs : List Value := List.ofFn fun r : Fin len => Value.slice (A r.1) (L r.1) (C r.1)
    have hvl : vs.length = len := by simp [vs]
    have hvg : ∀ j (hj : j < vs.length), vs[j] = Value.slice (A j) (L j) (C j) := fun j hj => by simp [vs]
    refine ⟨f, ⟨some a', cap, vs, by rw [hvl], by omega, by omega, fun j hj => ⟨a', rfl, ?_⟩, by omega, fun j hj hj' => ?_⟩, fun c hc => ?_, hfl, fun h => (by cases h), .inr ⟨_, _, by rw [hx], by simp; omega, fun c hc => ?_⟩⟩
    · rw [hvg j hj]; exact (hr j (by omega)).1
    · obtain ⟨h1, h2, h3, h4, h5, h6, h7⟩ := hr j (by omega)
      refine ⟨A j, C j, by rw [hvg j hj, hfk j hj'], by rw [hfk j hj']; exact h2, by rw [hfk j hj']; omega, fun i hi => ?_⟩
      rw [List.length_map, hfk j hj'] at hi
      cases hA : A j with
      | none => have := h6 hA; omega
      | some a'' =>
        refine ⟨a'', rfl, ?_⟩
        rw [(h7 a'' hA).2 i (by omega), List.getElem_map]
        have : f[j][i]'(by rw [hfk j hj']; exact hi) = (Z j).getD i 0 := by
          simp only [hfg j hj', List.getElem_take]
          simp [show i < (Z j).length by omega]
        rw [this]
    · obtain ⟨j, hj, rfl⟩ := List.mem_iff_getElem.1 hc
      intro y hy
      rw [hfg j hj] at hy
      exact I64_wf ((hr j (by omega)).2.2.2.2.1 y (List.mem_of_mem_take hy))
    · obtain ⟨j, hj, rfl⟩ := List.mem_iff_getElem.1 hc
      rw [hfk j hj]
      obtain ⟨h1, h2, h3, h4, h5, h6, h7⟩ := hr j (by omega)
      cases hA : A j with
      | none => left; have := h6 hA; omega
      | some a'' =>
        right
        refine ⟨_, _, List.mem_map.2 ⟨j, List.mem_range.2 (by omega), by rw [hA]; rfl⟩, by simp [lits]; omega⟩

theorem total_le {l : List (List Int)} {M : Nat} (h : ∀ c ∈ l, c.length ≤ M) : total l ≤ l.length * M := by
  unfold total lens
  rw [List.take_length]
  induction l with
  | nil => simp
  | cons c l ih =>
    have h1 := h c (by simp)
    have h2 := ih fun c hc => h c (by simp [hc])
    rw [List.map_cons, List.sum_cons, List.length_cons, Nat.add_mul]
    omega

end Go.Proofs.YtlompphnngnaiaaGreatDoor
namespace Go.Proofs.YtlompphnngnaiaaGreatDoor
open Go.ChangeShapes Go.WideShapes Go.ChangeAt Go.RowKit

set_option maxRecDepth 100000 in
theorem litsTexts_lifted (os : Os) (started : os.Started) (H : Type) (enc : TypeId × Value → H) :
    ReturnsInHanded {} Tryz.checked os 3 .any (fun w args => (Rows.litsTextsSpec.pre enc Tryz.prog Tryz.f3 [] false w args ∧ laidMetH Tryz.prog laidA w) ∧ sizedMet enc Tryz.prog Tryz.f3 (OpenSpec.ofChange Rows.litsTextsSpec) false w args)
      (Rows.litsTextsSpec.post enc Tryz.prog Tryz.f3 false true false false) := by
  refine returnsInHanded_of_change_and_shaped (C := Tryz.checked) (X := fun w _ => laidMetH Tryz.prog laidA w) (fun _ _ _ hh h => h.of_heap hh) ownK started (by kernel_rfl) Tryz.func3
    (ChangeSpec.witness_shaped (enc := enc) (C := Tryz.checked) (os := os) (X := fun w _ => laidMetH Tryz.prog laidA w) false (witW os) #[.slice none 0 0, .string ⟨#[]⟩] 8 (witW_os os) (wit_shaped os _) (by kernel_rfl) (by kernel_rfl) (by kernel_rfl) (door_met os _)) ?_
  intro W base args ds gs before hval0 hW _ hsz0 ⟨hL, hsh⟩ _
  have hsz : (DataW.weightsEach Tryz.prog (Tryz.f3.params.toList ++ Rows.litsTextsSpec.plain.varTypes Tryz.prog) (ds ++ gs)).all (· ≤ reachBytes) = true := hsz0
  clear hsz0
  have hval : ∀ (j : Nat) t v, Tryz.f3.params[j]? = some t → args[j]? = some v → Value.okWide Tryz.prog W .any base t v := hval0
  have hW' := hW
  obtain ⟨p, q, hA0, hV, rfl, hfz, hnd⟩ := hW
  have hA : DataW.TrodAll enc Tryz.prog W 0 (fun _ => true) true Tryz.f3.params.toList args.toList ds p := hA0
  rw [Tryz.params3] at hA hval hsz
  obtain ⟨v0, v1, d0, d1, p0, p1, rfl, rfl, rfl, h0, h1⟩ := trodAll_two hA
  obtain ⟨rfl, rfl⟩ := trodVars_none hV
  obtain ⟨a0, len0, cap0, rfl⟩ := okWide_slice Tryz.underlying22 (hval 0 22 v0 rfl rfl)
  have h0k := h0
  obtain ⟨fuel0, hf0⟩ := h0
  obtain ⟨x0, r0, e0, l0, hx0⟩ := open_RI hf0
  have h1k := h1
  obtain ⟨x1, rfl, -, -, w1⟩ := Go.ChangeMaps.open_string Tryz.underlying9 (hval 1 9 v1 rfl rfl) h1
  clear hA0 hval0
  simp only [List.append_nil] at hW'
  have hlt : ∀ x ∈ p0 ++ p1, x.block < W.heap.size := fun x hx => by simpa using hW'.lt x hx
  have hre : reachBytes = 140737488351232 := rfl
  have b0 : x0.length ≤ 17592186043904 := by
    rcases hx0 with ⟨-, h, -⟩ | ⟨e, s, he, hle⟩
    · omega
    · have he' : d0 = .slice e s := he
      have := sized_slice hsz (j := 0) (t := 22) rfl (by rw [he']; rfl) Tryz.underlying22
      rw [bytesI, hre] at this
      omega
  have hG := LW_of hL hsh
  refine (texts_law x0 x1 _ W e0 r0 hG).mono fun e W' ⟨he, hE⟩ => ?_
  subst he
  have hargs : DataW.TrodAll enc Tryz.prog W' 0 (fun b => decide (b < W.heap.size)) true [22, 9] [Value.slice a0 len0 cap0, Value.string x1] [d0, d1] (p0 ++ p1) := by
    exact trodAll_mk2 (Below.trod laidOutK (by kernel_rfl) (of_decide_eq_true (by kernel_rfl)) h0k hE (fun x hx => hlt x (List.mem_append_left _ (hx)))) (Below.trod laidOutK (by kernel_rfl) (of_decide_eq_true (by kernel_rfl)) h1k hE (fun x hx => hlt x (List.mem_append_right _ hx)))
  exact ⟨_, rfl, _, _, _, [], p0 ++ p1, [], hW', trodAll_mk1 (shut_bool Tryz.underlying4 true), hargs, rfl, hE.frame _, fun h => by cases h⟩

theorem litsTexts_holds : Rows.LitsTextsSaid :=
  OpenClaim.holds_of_wide 3 Tryz.f3 rfl rfl rfl rfl rfl rfl rfl ⟨rfl, rfl, rfl, rfl, rfl⟩ rfl rfl rfl rfl rfl (by kernel_rfl) Tryz.func3 (by kernel_rfl)
    (of_decide_eq_true (by kernel_rfl)) (by unfold Func.isWrapper; first | (rw [if_pos (by decide +kernel)]; kernel_rfl) | (rw [if_neg (by decide +kernel)]; exact ⟨rfl, rfl⟩))
    (fun os started H enc _ => litsTexts_lifted os started H enc)
#print axioms litsTexts_holds

end Go.Proofs.YtlompphnngnaiaaGreatDoor
