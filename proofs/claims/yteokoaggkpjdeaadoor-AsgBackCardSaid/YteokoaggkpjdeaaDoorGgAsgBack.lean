/- The reference's functions as printed: what they come to, for the walks. Common part. Walk of the examples of the chapter (awake). -/
import Derived.Test.YteokoaggkpjdeaaDoorPAsgPointsx
import Derived.Test.YteokoaggkpjdeaaDoorGe
namespace Go.Proofs.YteokoaggkpjdeaaDoor
open Go.RowKit Go.Proofs.YteokoaggkpjdeaaDoorW.PrintWords

/-- From some number on, a function of a number gives v. -/
def Evn {α : Type} (g : Nat → Option α) (v : α) : Prop := ∃ K, ∀ k, K ≤ k → g k = some v
section
variable {α β : Type}
theorem Evn.ret (v : α) : Evn (fun _ => some v) v := ⟨0, fun _ _ => rfl⟩
theorem Evn.of_eq {g : Nat → Option α} {v : α} (h : ∀ k, g k = some v) : Evn g v := ⟨0, fun k _ => h k⟩
theorem Evn.succ {g g' : Nat → Option α} {v : α} (h : ∀ k, g (k + 1) = g' k) (e : Evn g' v) : Evn g v := by
  obtain ⟨K, hK⟩ := e
  refine ⟨K + 1, fun k hk => ?_⟩
  obtain ⟨m, rfl⟩ : ∃ m, k = m + 1 := ⟨k - 1, by omega⟩
  rw [h, hK m (by omega)]
theorem Evn.bind {g : Nat → Option α} {h : Nat → α → Option β} {a : α} {b : β} (e : Evn g a) (e' : Evn (fun k => h k a) b) : Evn (fun k => (g k).bind (h k)) b := by
  obtain ⟨K, hK⟩ := e
  obtain ⟨L, hL⟩ := e'
  refine ⟨K + L, fun k hk => ?_⟩
  dsimp only
  rw [hK k (by omega)]
  exact hL k (by omega)
theorem Evn.pos {c : Prop} [Decidable c] {g h : Nat → Option α} {v : α} (hc : c) (e : Evn g v) : Evn (fun k => if c then g k else h k) v := by
  obtain ⟨K, hK⟩ := e
  exact ⟨K, fun k hk => by dsimp only; rw [if_pos hc]; exact hK k hk⟩
theorem Evn.neg {c : Prop} [Decidable c] {g h : Nat → Option α} {v : α} (hc : ¬ c) (e : Evn h v) : Evn (fun k => if c then g k else h k) v := by
  obtain ⟨K, hK⟩ := e
  exact ⟨K, fun k hk => by dsimp only; rw [if_neg hc]; exact hK k hk⟩
theorem Evn.to {g : Nat → Option α} {v w : α} (e : Evn g v) (h : v = w) : Evn g w := h ▸ e
end

theorem wrap64_nat {i : Nat} (h : (i : Int) + 1 ≤ 9223372036854775807) : wrap64 ((i : Int) + 1) = ((i + 1 : Nat) : Int) := by
  unfold wrap64; omega

theorem dec_cons {α : Type} [DecidableEq α] {x y : α} {xs ys : List α} (h : x = y) : decide (xs = ys) = decide (x :: xs = y :: ys) := by
  subst h
  rw [decide_eq_decide]
  exact ⟨fun h => by rw [h], fun h => by injection h⟩
theorem dec_cons_ne {α : Type} [DecidableEq α] {x y : α} {xs ys : List α} (h : ¬ x = y) : false = decide (x :: xs = y :: ys) := by
  symm
  rw [decide_eq_false_iff_not]
  intro e
  injection e with e _
  exact h e

theorem rd_nat (xs : List Int) (i : Nat) (hi : i < xs.length) : rd xs (i : Int) = xs[i] := by simp [rd, hi]

/-- A row of integers, as the printed words read it. -/
theorem RI.kd {w : World} {v : Value} {xs : List Int} (h : RI w v xs) : ∃ A c, v = .slice A xs.length c ∧ xs.length ≤ c ∧ Kd.C (Kd.int .i64) w A xs.length xs := by
  obtain ⟨A, c, rfl, h1, h2, h3⟩ := h
  refine ⟨A, c, rfl, h1, rfl, h2, fun h0 => ?_⟩
  obtain ⟨ad, rfl, -⟩ := h3.int 0 h0
  refine ⟨ad, rfl, fun j p hp => ?_⟩
  obtain ⟨hj, rfl⟩ := List.getElem?_eq_some_iff.1 hp
  obtain ⟨ad', had, hc⟩ := h3.int j hj
  cases had
  refine ⟨[.int .i64 xs[j]], rfl, rfl, fun i u hu => ?_⟩
  obtain ⟨hi, rfl⟩ := List.getElem?_eq_some_iff.1 hu
  have hi' : i < 1 := hi
  have : i = 0 := by omega
  subst this
  show w.cell? (ad.add (j * 1 + 0)) = _
  rw [Nat.mul_one, Nat.add_zero]; exact hc
theorem kd_RI {w : World} {A : Option Addr} {c : Nat} {xs : List Int} (h : Kd.C (Kd.int .i64) w A xs.length xs) (hc : xs.length ≤ c) : RI w (.slice A xs.length c) xs := by
  obtain ⟨-, h2, h3⟩ := h
  refine ⟨A, c, rfl, hc, h2, fun j hj => ?_⟩
  rw [List.length_map] at hj
  obtain ⟨ad, rfl, hh⟩ := h3 (by omega)
  obtain ⟨cs, h4, h5, h6⟩ := hh j xs[j] (List.getElem?_eq_getElem hj)
  have h5' : cs = [.int .i64 xs[j]] := h5
  have := h6 0 (.int .i64 xs[j]) (by rw [h5']; rfl)
  refine ⟨ad, rfl, ?_⟩
  rw [show (Kd.int .i64).sz = 1 from rfl, Nat.mul_one, Nat.add_zero] at this
  rw [List.getElem_map]; exact this
theorem RLL.kd {w : World} {v : Value} {f : List (List Int)} (h : RLL w v f) : ∃ A c, v = .slice A f.length c ∧ f.length ≤ c ∧ Kd.C (Kd.slice 3 (Kd.int .i64)) w A f.length f := by
  obtain ⟨A, c, vs, rfl, h1, h2, h3, h4, h5⟩ := h
  refine ⟨A, c, by rw [h4], by omega, rfl, by omega, fun h0 => ?_⟩
  obtain ⟨ad, rfl, -⟩ := h3 0 (by omega)
  refine ⟨ad, rfl, fun j p hp => ?_⟩
  obtain ⟨hj, rfl⟩ := List.getElem?_eq_some_iff.1 hp
  obtain ⟨ad', had, hc⟩ := h3 j (by omega)
  cases had
  obtain ⟨A', c', hv, hl, hC⟩ := (h5 j (by omega) hj).kd
  refine ⟨[vs[j]], rfl, ⟨A', c', by rw [hv], hl, hC⟩, fun i u hu => ?_⟩
  obtain ⟨hi, rfl⟩ := List.getElem?_eq_some_iff.1 hu
  have hi' : i < 1 := hi
  have : i = 0 := by omega
  subst this
  show w.cell? (ad.add (j * 1 + 0)) = _
  rw [Nat.mul_one, Nat.add_zero]; exact hc
theorem RI.max {w : World} {v : Value} {xs : List Int} (h : RI w v xs) : xs.length ≤ 9223372036854775807 := by obtain ⟨A, c, h1, h2, h3, h4⟩ := h; exact h3
theorem RLL.max {w : World} {v : Value} {f : List (List Int)} (h : RLL w v f) : f.length ≤ 9223372036854775807 ∧ ∀ j (hj : j < f.length), f[j].length ≤ 9223372036854775807 := by
  obtain ⟨A, c, vs, rfl, h1, h2, h3, h4, h5⟩ := h
  exact ⟨by omega, fun j hj => (h5 j (by omega) hj).max⟩
theorem drawn_ext {w w' : World} (h : Drawn0 w w') : Ext w w' := by
  obtain ⟨⟨n, rfl⟩⟩ := h
  exact Ext.drewN w n

namespace PAsgPoints

theorem Same_l0 (xs ys : List Int) (hl : xs.length = ys.length) (hb : xs.length ≤ 9223372036854775807) : ∀ n i, i + n = xs.length → Evn (fun k => skolemref01_Same.l0 k xs ys (i : Int)) (decide (xs.drop i = ys.drop i)) := by
  intro n
  induction n with
  | zero =>
    intro i hi
    refine Evn.succ (g' := fun _ => some true) (fun k => ?_) ((Evn.ret _).to ?_)
    · rw [skolemref01_Same.l0, if_neg (by omega)]
    · rw [List.drop_eq_nil_of_le (by omega), List.drop_eq_nil_of_le (by omega)]; rfl
  | succ n ih =>
    intro i hi
    refine Evn.succ (fun k => by rw [skolemref01_Same.l0]) ?_
    refine Evn.pos (by omega) (Evn.pos (by omega) (Evn.pos (by omega) ?_))
    rw [rd_nat xs i (by omega), rd_nat ys i (by omega), wrap64_nat (by omega), List.drop_eq_getElem_cons (show i < xs.length by omega), List.drop_eq_getElem_cons (show i < ys.length by omega)]
    by_cases h : xs[i] = ys[i]
    · exact Evn.pos h ((ih (i + 1) (by omega)).to (dec_cons h))
    · exact Evn.neg h ((Evn.ret _).to (dec_cons_ne h))
theorem Same_f (xs ys : List Int) (hb : xs.length ≤ 9223372036854775807) : Evn (fun k => skolemref01_Same.f k xs ys) (decide (xs = ys)) := by
  unfold skolemref01_Same.f
  by_cases hl : xs.length = ys.length
  · exact Evn.pos (by omega) ((Same_l0 xs ys hl hb xs.length 0 (by omega)).to (by simp))
  · exact Evn.neg (by omega) ((Evn.ret _).to (by simp; intro h; exact hl (by rw [h])))

theorem SameAll_l0 (xs ys : List (List Int)) (hl : xs.length = ys.length) (hb : xs.length ≤ 9223372036854775807) (hb' : ∀ j (hj : j < xs.length), xs[j].length ≤ 9223372036854775807) :
    ∀ n i, i + n = xs.length → Evn (fun k => skolemref01_SameAll.l0 k xs ys (i : Int)) (decide (xs.drop i = ys.drop i)) := by
  intro n
  induction n with
  | zero =>
    intro i hi
    refine Evn.succ (g' := fun _ => some true) (fun k => ?_) ((Evn.ret _).to ?_)
    · rw [skolemref01_SameAll.l0, if_neg (by omega)]
    · rw [List.drop_eq_nil_of_le (by omega), List.drop_eq_nil_of_le (by omega)]; rfl
  | succ n ih =>
    intro i hi
    refine Evn.succ (fun k => by rw [skolemref01_SameAll.l0]) ?_
    refine Evn.pos (by omega) (Evn.pos (by omega) (Evn.pos (by omega) ?_))
    have h1 : rd_L1 xs (i : Int) = xs[i] := by simp [rd_L1, show i < xs.length by omega]
    have h2 : rd_L1 ys (i : Int) = ys[i] := by simp [rd_L1, show i < ys.length by omega]
    rw [h1, h2, wrap64_nat (by omega), List.drop_eq_getElem_cons (show i < xs.length by omega), List.drop_eq_getElem_cons (show i < ys.length by omega)]
    refine Evn.bind (Same_f _ _ (hb' i (by omega))) ?_
    by_cases h : xs[i] = ys[i]
    · exact Evn.pos (by simpa using h) ((ih (i + 1) (by omega)).to (dec_cons h))
    · exact Evn.neg (by simpa using h) ((Evn.ret _).to (dec_cons_ne h))
theorem SameAll_f (xs ys : List (List Int)) (hb : xs.length ≤ 9223372036854775807) (hb' : ∀ j (hj : j < xs.length), xs[j].length ≤ 9223372036854775807) : Evn (fun k => skolemref01_SameAll.f k xs ys) (decide (xs = ys)) := by
  unfold skolemref01_SameAll.f
  by_cases hl : xs.length = ys.length
  · exact Evn.pos (by omega) ((SameAll_l0 xs ys hl hb hb' xs.length 0 (by omega)).to (by simp))
  · exact Evn.neg (by omega) ((Evn.ret _).to (by simp; intro h; exact hl (by rw [h])))

theorem Step_l0 (xs ys : List S55) (hl : xs.length = ys.length) (hb : xs.length ≤ 9223372036854775807) : ∀ n i, i + n = xs.length → Evn (fun k => api_Step.l0 k xs ys (xs.length : Int) (i : Int)) (decide ((xs.drop i).map (fun s => (s.f0, s.f1)) = (ys.drop i).map fun s => (s.f0, s.f1))) := by
  intro n
  induction n with
  | zero =>
    intro i hi
    refine Evn.succ (g' := fun _ => some true) (fun k => ?_) ((Evn.ret _).to ?_)
    · rw [api_Step.l0, if_neg (by omega)]
    · rw [List.drop_eq_nil_of_le (by omega), List.drop_eq_nil_of_le (by omega)]; rfl
  | succ n ih =>
    intro i hi
    refine Evn.succ (fun k => by rw [api_Step.l0]) ?_
    refine Evn.pos (by omega) (Evn.pos (by omega) (Evn.pos (by omega) (Evn.pos (by omega) ?_)))
    have h1 : rd_T55 xs (i : Int) = xs[i] := by simp [rd_T55, show i < xs.length by omega]
    have h2 : rd_T55 ys (i : Int) = ys[i] := by simp [rd_T55, show i < ys.length by omega]
    rw [h1, h2, wrap64_nat (by omega), List.drop_eq_getElem_cons (show i < xs.length by omega), List.drop_eq_getElem_cons (show i < ys.length by omega)]
    by_cases h : xs[i].f0 = ys[i].f0 ∧ xs[i].f1 = ys[i].f1
    · exact Evn.neg (by simp [h.1, h.2]) ((ih (i + 1) (by omega)).to (by rw [List.map_cons, List.map_cons]; exact dec_cons (by rw [h.1, h.2])))
    · refine Evn.pos ?_ ((Evn.ret _).to ?_)
      · by_cases h3 : xs[i].f0 = ys[i].f0
        · have h4 : ¬ xs[i].f1 = ys[i].f1 := fun e => h ⟨h3, e⟩
          simp [h3, h4]
        · simp [h3]
      · rw [List.map_cons, List.map_cons]
        symm
        rw [decide_eq_false_iff_not]
        intro e
        injection e with e1 _
        injection e1 with e1 e2
        exact h ⟨e1, e2⟩
theorem Step_f (xs ys : List S55) (hb : xs.length ≤ 9223372036854775807) : Evn (fun k => api_Step.f k xs ys) (decide (xs.map (fun s => (s.f0, s.f1)) = ys.map fun s => (s.f0, s.f1))) := by
  unfold api_Step.f
  by_cases hl : xs.length = ys.length
  · exact Evn.pos (by omega) ((Step_l0 xs ys hl hb xs.length 0 (by omega)).to (by simp))
  · refine Evn.neg (by omega) ((Evn.ret _).to ?_)
    symm
    rw [decide_eq_false_iff_not]
    intro h
    have := congrArg List.length h
    rw [List.length_map, List.length_map] at this
    exact hl this

end PAsgPoints

/-- skolemref01.Same. -/
theorem Same_any (xs ys : List Int) (v u : Value) (w : World) (hr : RI w v xs) (kr : RI w u ys) : Calls Tryd.prog 49 #[v, u] w fun e w' => e = .returned (.bool (decide (xs = ys))) ∧ Ext w w' := by
  obtain ⟨K, hK⟩ := PAsgPoints.Same_f xs ys hr.max
  obtain ⟨A, c, rfl, h1, h2⟩ := hr.kd
  obtain ⟨B, d, rfl, k1, k2⟩ := kr.kd
  refine (PAsgPoints.skolemref01_Same.calls K A c xs B d ys _ w h2 h1 k2 k1 (hK K (Nat.le_refl _))).mono ?_
  rintro e w' ⟨rfl, hd⟩
  exact ⟨rfl, drawn_ext hd⟩
theorem SameAll_any (xs ys : List (List Int)) (v u : Value) (w : World) (hr : RLL w v xs) (kr : RLL w u ys) : Calls Tryd.prog 15 #[v, u] w fun e w' => e = .returned (.bool (decide (xs = ys))) ∧ Ext w w' := by
  obtain ⟨K, hK⟩ := PAsgPoints.SameAll_f xs ys hr.max.1 hr.max.2
  obtain ⟨A, c, rfl, h1, h2⟩ := hr.kd
  obtain ⟨B, d, rfl, k1, k2⟩ := kr.kd
  refine (PAsgPoints.skolemref01_SameAll.calls K A c xs B d ys _ w h2 h1 k2 k1 (hK K (Nat.le_refl _))).mono ?_
  rintro e w' ⟨rfl, hd⟩
  exact ⟨rfl, drawn_ext hd⟩

theorem RSt.kd {w : World} {v : Value} {st : List (Int × Int)} (h : RSt w v st) : ∃ A c, v = .slice A (st.map fun p => (⟨p.1, p.2⟩ : PAsgPoints.S55)).length c ∧ (st.map fun p => (⟨p.1, p.2⟩ : PAsgPoints.S55)).length ≤ c ∧
    Kd.C PAsgPoints.k55 w A (st.map fun p => (⟨p.1, p.2⟩ : PAsgPoints.S55)).length (st.map fun p => (⟨p.1, p.2⟩ : PAsgPoints.S55)) := by
  obtain ⟨A, c, rfl, h1, h2, h3⟩ := h
  refine ⟨A, c, by rw [List.length_map], by rw [List.length_map]; exact h1, rfl, by rw [List.length_map]; exact h2, fun h0 => ?_⟩
  rw [List.length_map] at h0
  obtain ⟨ad, rfl, hc⟩ := h3 h0
  refine ⟨ad, rfl, fun j p hp => ?_⟩
  obtain ⟨hj, rfl⟩ := List.getElem?_eq_some_iff.1 hp
  rw [List.length_map] at hj
  obtain ⟨g1, g2⟩ := stepsV_get st j hj
  refine ⟨[.int .i64 st[j].1, .int .i64 st[j].2], rfl, ⟨[.int .i64 st[j].1], [.int .i64 st[j].2], rfl, by rw [List.getElem_map]; rfl, by rw [List.getElem_map]; rfl⟩, fun i u hu => ?_⟩
  show w.cell? (ad.add (j * 2 + i)) = _
  cases i with
  | zero => injection hu with hu; subst hu; exact hc _ _ g1
  | succ i =>
    cases i with
    | zero => injection hu with hu; subst hu; exact hc _ _ g2
    | succ i => cases hu

/-- slices.Equal over steps. -/
theorem Steps_any (xs ys : List (Int × Int)) (v u : Value) (w : World) (hr : RSt w v xs) (kr : RSt w u ys) : Calls Tryd.prog 38 #[v, u] w fun e w' => e = .returned (.bool (decide (xs = ys))) ∧ Ext w w' := by
  have hmx : (xs.map fun p => (⟨p.1, p.2⟩ : PAsgPoints.S55)).length ≤ 9223372036854775807 := by rw [List.length_map]; obtain ⟨A, c, h1, h2, h3, h4⟩ := hr; exact h3
  obtain ⟨K, hK⟩ := PAsgPoints.Step_f (xs.map fun p => (⟨p.1, p.2⟩ : PAsgPoints.S55)) (ys.map fun p => (⟨p.1, p.2⟩ : PAsgPoints.S55)) hmx
  obtain ⟨A, c, rfl, h1, h2⟩ := hr.kd
  obtain ⟨B, d, rfl, k1, k2⟩ := kr.kd
  refine (PAsgPoints.api_Step.calls K A c _ B d _ _ w h2 h1 k2 k1 (hK K (Nat.le_refl _))).mono ?_
  rintro e w' ⟨rfl, hd⟩
  refine ⟨ret_bool ?_, drawn_ext hd⟩
  rw [List.map_map, List.map_map, decide_eq_decide]
  have e1 : ∀ l : List (Int × Int), l.map ((fun s : PAsgPoints.S55 => (s.f0, s.f1)) ∘ fun p => (⟨p.1, p.2⟩ : PAsgPoints.S55)) = l := fun l => by
    induction l with
    | nil => rfl
    | cons p l ih => rw [List.map_cons, ih]; rfl
  rw [e1, e1]

end Go.Proofs.YteokoaggkpjdeaaDoor
namespace Go.Proofs.YteokoaggkpjdeaaDoor
open Go.RowKit

set_option maxRecDepth 100000 in
set_option maxHeartbeats 20000000 in
theorem awake_any (w : World) (hG : HasSame w) : Calls Tryd.prog 12 #[] w fun e w' => e = .returned (.bool true) ∧ Ext w w' := by
  have HG := Lib.hid hG
  clear hG
  go_enter Tryd.func12, Tryd.ntmps12
  go_upto_region 3 with (go_at_call 34
                         refine (unitsC [[1, 2], [-2], [-1, 3]] [] _ _ _ units1 _ _ _ (all64_of _ (by decide)) (all64L_of _ (by decide)) (RI.none _) (lit3 w [1, 2] [-2] [-1, 3] (by decide) (by decide) (by decide)) (fun _ => by decide)).mono ?_
                         rintro e w1 ⟨A1, d1, rfl, hst, hE⟩
                         have HS1 := Lib.hid hst
                         have HE1 := Lib.hid (((((Ext.alloc w _).trans (Ext.alloc _ _)).trans (Ext.alloc _ _)).trans (Ext.alloc _ _)).trans hE)
                         clear hst hE)
  go_upto_region 4 with (go_at_call 34
                         refine (unitsC [[1], [-1]] [] _ _ _ units2 _ _ _ (all64_of _ (by decide)) (all64L_of _ (by decide)) (RI.none _) (lit2 w1 [1] [-1] (by decide) (by decide)) (fun _ => by decide)).mono ?_
                         rintro e w2 ⟨A2, d2, rfl, hst, hE⟩
                         have HS2 := Lib.hid hst
                         have HE2 := Lib.hid ((((Ext.alloc w1 _).trans (Ext.alloc _ _)).trans (Ext.alloc _ _)).trans hE)
                         clear hst hE)
  go_upto_region 5 with (go_at_call 34
                         refine (unitsC [[1, 2]] [-1, -2] _ _ _ units3 _ _ _ (all64_of _ (by decide)) (all64L_of _ (by decide)) (by
                           have := lit0 ((w2.alloc (rowO [1, 2])).alloc (.cells #[slV w2.heap.size 2] 22)) [-1, -2] (by decide)
                           rw [show ((w2.alloc (rowO [1, 2])).alloc (.cells #[slV w2.heap.size 2] 22)).heap.size = w2.heap.size + 1 + 1 by simp] at this
                           exact this) ((lit1 w2 [1, 2] (by decide)).ext' (Ext.alloc _ _)) (fun _ => by decide)).mono ?_
                         rintro e w3 ⟨A3, d3, rfl, hst, hE⟩
                         have HE3 := Lib.hid ((((Ext.alloc w2 _).trans (Ext.alloc _ _)).trans (Ext.alloc _ _)).trans hE)
                         clear hst hE)
  go_upto_region 6 with (go_at_call 19
                         have hpt := Point_any [1, 2, 3] 6 (by decide) (by decide) _ _ (all64_of _ (by decide)) (lit0 w3 [1, 2, 3] (by decide))
                         rw [point1] at hpt
                         refine hpt.mono ?_
                         rintro e w4 ⟨v4, rfl, hown, hE⟩
                         have HP4 := Lib.hid (hown.reads)
                         have HE4 := Lib.hid ((Ext.alloc w3 _).trans hE)
                         clear hown hE hpt)
  go_upto_region 7 with (go_at_call 19
                         have hpt := Point_any [1, 2, 3] 8 (by decide) (by decide) _ _ (all64_of _ (by decide)) (lit0 w4 [1, 2, 3] (by decide))
                         rw [point2] at hpt
                         refine hpt.mono ?_
                         rintro e w5 ⟨v5, rfl, hown, hE⟩
                         have HE5 := Lib.hid ((Ext.alloc w4 _).trans hE)
                         clear hown hE hpt)
  go_upto_region 8 with (go_at_call 21
                         have hnu := Number_any [1, 2] [-1, 2] _ _ _ (all64_of _ (by decide)) (all64_of _ (by decide)) ((lit0 w5 [1, 2] (by decide)).ext (Ext.alloc _ _)) (by
                           have := lit0 (w5.alloc (rowO [1, 2])) [-1, 2] (by decide)
                           rw [show (w5.alloc (rowO [1, 2])).heap.size = w5.heap.size + 1 by simp] at this
                           exact this)
                         rw [number1] at hnu
                         refine hnu.mono ?_
                         rintro e w6 ⟨rfl, rfl⟩
                         clear hnu)
  have E5 : Ext w w5 := (((HE1.out.trans HE2.out).trans HE3.out).trans HE4.out).trans HE5.out
  have HW5 := Lib.hid E5
  have HW45 := Lib.hid HE5.out
  have HW15 := Lib.hid (((HE2.out.trans HE3.out).trans HE4.out).trans HE5.out)
  clear E5 HE1 HE2 HE3 HE4 HE5
  obtain ⟨w6, hw6⟩ : ∃ w6 : World, w6 = (w5.alloc (rowO [1, 2])).alloc (rowO [-1, 2]) := ⟨_, rfl⟩
  have HE6 : Hid (Ext w5 w6) := Lib.hid (hw6 ▸ (Ext.alloc w5 _).trans (Ext.alloc _ _))
  rw [← hw6]
  clear hw6
  go_upto_region 9 with (go_at_call 38
                         refine (Steps_any [(-2, 1), (1, 0), (3, 2)] [(-2, 1), (1, 0), (3, 2)] _ _ _ ((HS1.out.ext (HW15.out.trans HE6.out)).ext (Ext.alloc _ _)) ((Blk.new w6 _ _).RSt (by decide))).mono ?_
                         rintro e w7 ⟨rfl, hE⟩
                         have HE7 := Lib.hid (HE6.out.trans ((Ext.alloc w6 _).trans hE))
                         clear hE)
  have cg : w7.cell? ⟨0, 0, Option.none⟩ = some (.func (.func 49) #[] #[]) := HG.out.ext (HW5.out.trans HE7.out)
  go_upto_region 10 with (first
    | (refine wpList_callv (.tmp 96) #[.tmp 97, .tmp 98] _ rfl (by rfl) #[] rfl fv_same #[v4, slV w7.heap.size 3] (by simp only [List.map_toArray, List.map_cons, List.map_nil, List.append_toArray, List.cons_append, List.nil_append]; rfl) ?_
       refine (Same_any [-1, 2, 3] [-1, 2, 3] _ _ _ ((HP4.out.ext (HW45.out.trans HE7.out)).ext (Ext.alloc _ _)) (lit0 w7 [-1, 2, 3] (by decide))).mono ?_
       rintro e w8 ⟨rfl, hE⟩
       refine ⟨_, rfl, ?_⟩
       simp only [Act.put, List.setIfInBounds_toArray, List.set_cons_zero, List.set_cons_succ]
       have HE8 := Lib.hid (HE7.out.trans ((Ext.alloc w7 _).trans hE))
       clear hE cg)
    | (go_at_call 25
       refine (clauseN _).mono ?_
       rintro e w9 ⟨rfl, hE⟩
       have HE9 := Lib.hid hE
       clear hE)
    | (go_at_call 27
       refine (cubeN _).mono ?_
       rintro e w10 ⟨rfl, hE⟩
       have HE10 := Lib.hid hE
       clear hE)
    | (go_at_call 17
       refine (cnfN _).mono ?_
       rintro e w11 ⟨rfl, hE⟩
       have HE11 := Lib.hid hE
       clear hE))
  obtain ⟨w12, hw12⟩ : ∃ w12 : World, w12 = w11 := ⟨_, rfl⟩
  have HE12 : Hid (Ext w5 w12) := Lib.hid (hw12 ▸ (((HE8.out.trans HE9.out).trans HE10.out).trans HE11.out))
  rw [← hw12]
  clear hw12 HE8 HE9 HE10 HE11
  go_wp2_with (first
    | (go_at_call 23
       have hcc := Value_any [-2] 2 _ _ (all64_of _ (by decide)) (by unfold I64; decide) (lit0 w12 [-2] (by decide))
       rw [value1] at hcc
       refine hcc.mono ?_
       rintro e w13 ⟨rfl, hE⟩
       have HE13 := Lib.hid (HE12.out.trans ((Ext.alloc w12 _).trans hE))
       clear hE hcc)
    | (go_at_call 14
       have e1 : (w13.alloc (rowO [1])).heap.size = w13.heap.size + 1 := by simp
       have hl3 := lit3 (w13.alloc (rowO [1])) [1, 2] [-1, 3] [-1] (by decide) (by decide) (by decide)
       rw [e1] at hl3
       have hcc := Under_any [1] [[1, 2], [-1, 3], [-1]] _ _ _ (all64_of _ (by decide)) (all64L_of _ (by decide)) (((((lit0 w13 [1] (by decide)).ext (Ext.alloc _ _)).ext (Ext.alloc _ _)).ext (Ext.alloc _ _)).ext (Ext.alloc _ _)) hl3 (fun _ => by decide)
       rw [under1] at hcc
       refine hcc.mono ?_
       rintro e w14 ⟨v14, rfl, hown, hE⟩
       have HU14 := Lib.hid hown.reads
       have HE14 := Lib.hid (HE13.out.trans ((((((Ext.alloc w13 _).trans (Ext.alloc _ _)).trans (Ext.alloc _ _)).trans (Ext.alloc _ _)).trans (Ext.alloc _ _)).trans hE))
       clear hE hcc hown hl3 e1)
    | (go_at_call 15
       have hl2 : RLL ((w14.alloc (rowO [3])).alloc (.cells #[slV w14.heap.size 1, .slice Option.none 0 0] 22)) (slV (w14.heap.size + 1) 2) [[3], []] :=
         .two (Blk.new' (by simp)) ((lit0 w14 [3] (by decide)).ext (Ext.alloc _ _)) (RI.none _)
       refine (SameAll_any [[3], []] [[3], []] _ _ _ ((HU14.out.ext' (Ext.alloc _ _)).ext' (Ext.alloc _ _)) hl2).mono ?_
       rintro e w15 ⟨rfl, hE⟩
       have HE15 := Lib.hid (HE14.out.trans (((Ext.alloc w14 _).trans (Ext.alloc _ _)).trans hE))
       clear hE hl2))
  go_ret
  exact ⟨rfl, HW5.out.trans HE15.out⟩

end Go.Proofs.YteokoaggkpjdeaaDoor
