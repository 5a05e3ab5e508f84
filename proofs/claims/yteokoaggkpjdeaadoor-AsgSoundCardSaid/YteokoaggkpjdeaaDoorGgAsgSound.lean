/- The reference's functions as printed: what they come to, for the walks. Common part. What the functions of the reference, as printed, come to. Walk of the examples of the chapter (awake). -/
import Derived.Test.YteokoaggkpjdeaaDoorPAsgTwicex
import Derived.Test.YteokoaggkpjdeaaDoorGe
import Derived.IntWalk
import Derived.Test.YteokoaggkpjdeaaDoorGf
namespace Go.Proofs.YteokoaggkpjdeaaDoor
open Go.RowKit Go.Proofs.YteokoaggkpjdeaaDoorW.PrintWords

/-- From some number on, a function of a number gives v. -/
def Evn {α : Type} (g : Nat → Option α) (v : α) : Prop := ∃ K, ∀ k, K ≤ k → g k = some v
section
variable {α β : Type}
theorem Evn.ret (v : α) : Evn (fun _ => some v) v := ⟨0, fun _ _ => rfl⟩
theorem Evn.of_eq {g : Nat → Option α} {v : α} (h : ∀ k, g k = some v) : Evn g v := ⟨0, fun k _ => h k⟩
theorem Evn.succ {g g' : Nat → Option α} {v : α} (h : ∀ k, g (k + 1) = g' k) (e : Evn g' v) : Evn g v := by
  obtain ⟨K, hK⟩ := e
  refine ⟨K + 1, fun k hk => ?_⟩
  obtain ⟨m, rfl⟩ : ∃ m, k = m + 1 := ⟨k - 1, by omega⟩
  rw [h, hK m (by omega)]
theorem Evn.bind {g : Nat → Option α} {h : Nat → α → Option β} {a : α} {b : β} (e : Evn g a) (e' : Evn (fun k => h k a) b) : Evn (fun k => (g k).bind (h k)) b := by
  obtain ⟨K, hK⟩ := e
  obtain ⟨L, hL⟩ := e'
  refine ⟨K + L, fun k hk => ?_⟩
  dsimp only
  rw [hK k (by omega)]
  exact hL k (by omega)
theorem Evn.pos {c : Prop} [Decidable c] {g h : Nat → Option α} {v : α} (hc : c) (e : Evn g v) : Evn (fun k => if c then g k else h k) v := by
  obtain ⟨K, hK⟩ := e
  exact ⟨K, fun k hk => by dsimp only; rw [if_pos hc]; exact hK k hk⟩
theorem Evn.neg {c : Prop} [Decidable c] {g h : Nat → Option α} {v : α} (hc : ¬ c) (e : Evn h v) : Evn (fun k => if c then g k else h k) v := by
  obtain ⟨K, hK⟩ := e
  exact ⟨K, fun k hk => by dsimp only; rw [if_neg hc]; exact hK k hk⟩
theorem Evn.to {g : Nat → Option α} {v w : α} (e : Evn g v) (h : v = w) : Evn g w := h ▸ e
end

theorem wrap64_nat {i : Nat} (h : (i : Int) + 1 ≤ 9223372036854775807) : wrap64 ((i : Int) + 1) = ((i + 1 : Nat) : Int) := by
  unfold wrap64; omega

theorem dec_cons {α : Type} [DecidableEq α] {x y : α} {xs ys : List α} (h : x = y) : decide (xs = ys) = decide (x :: xs = y :: ys) := by
  subst h
  rw [decide_eq_decide]
  exact ⟨fun h => by rw [h], fun h => by injection h⟩
theorem dec_cons_ne {α : Type} [DecidableEq α] {x y : α} {xs ys : List α} (h : ¬ x = y) : false = decide (x :: xs = y :: ys) := by
  symm
  rw [decide_eq_false_iff_not]
  intro e
  injection e with e _
  exact h e

theorem rd_nat (xs : List Int) (i : Nat) (hi : i < xs.length) : rd xs (i : Int) = xs[i] := by simp [rd, hi]

/-- A row of integers, as the printed words read it. -/
theorem RI.kd {w : World} {v : Value} {xs : List Int} (h : RI w v xs) : ∃ A c, v = .slice A xs.length c ∧ xs.length ≤ c ∧ Kd.C (Kd.int .i64) w A xs.length xs := by
  obtain ⟨A, c, rfl, h1, h2, h3⟩ := h
  refine ⟨A, c, rfl, h1, rfl, h2, fun h0 => ?_⟩
  obtain ⟨ad, rfl, -⟩ := h3.int 0 h0
  refine ⟨ad, rfl, fun j p hp => ?_⟩
  obtain ⟨hj, rfl⟩ := List.getElem?_eq_some_iff.1 hp
  obtain ⟨ad', had, hc⟩ := h3.int j hj
  cases had
  refine ⟨[.int .i64 xs[j]], rfl, rfl, fun i u hu => ?_⟩
  obtain ⟨hi, rfl⟩ := List.getElem?_eq_some_iff.1 hu
  have hi' : i < 1 := hi
  have : i = 0 := by omega
  subst this
  show w.cell? (ad.add (j * 1 + 0)) = _
  rw [Nat.mul_one, Nat.add_zero]; exact hc
theorem kd_RI {w : World} {A : Option Addr} {c : Nat} {xs : List Int} (h : Kd.C (Kd.int .i64) w A xs.length xs) (hc : xs.length ≤ c) : RI w (.slice A xs.length c) xs := by
  obtain ⟨-, h2, h3⟩ := h
  refine ⟨A, c, rfl, hc, h2, fun j hj => ?_⟩
  rw [List.length_map] at hj
  obtain ⟨ad, rfl, hh⟩ := h3 (by omega)
  obtain ⟨cs, h4, h5, h6⟩ := hh j xs[j] (List.getElem?_eq_getElem hj)
  have h5' : cs = [.int .i64 xs[j]] := h5
  have := h6 0 (.int .i64 xs[j]) (by rw [h5']; rfl)
  refine ⟨ad, rfl, ?_⟩
  rw [show (Kd.int .i64).sz = 1 from rfl, Nat.mul_one, Nat.add_zero] at this
  rw [List.getElem_map]; exact this
theorem RLL.kd {w : World} {v : Value} {f : List (List Int)} (h : RLL w v f) : ∃ A c, v = .slice A f.length c ∧ f.length ≤ c ∧ Kd.C (Kd.slice 3 (Kd.int .i64)) w A f.length f := by
  obtain ⟨A, c, vs, rfl, h1, h2, h3, h4, h5⟩ := h
  refine ⟨A, c, by rw [h4], by omega, rfl, by omega, fun h0 => ?_⟩
  obtain ⟨ad, rfl, -⟩ := h3 0 (by omega)
  refine ⟨ad, rfl, fun j p hp => ?_⟩
  obtain ⟨hj, rfl⟩ := List.getElem?_eq_some_iff.1 hp
  obtain ⟨ad', had, hc⟩ := h3 j (by omega)
  cases had
  obtain ⟨A', c', hv, hl, hC⟩ := (h5 j (by omega) hj).kd
  refine ⟨[vs[j]], rfl, ⟨A', c', by rw [hv], hl, hC⟩, fun i u hu => ?_⟩
  obtain ⟨hi, rfl⟩ := List.getElem?_eq_some_iff.1 hu
  have hi' : i < 1 := hi
  have : i = 0 := by omega
  subst this
  show w.cell? (ad.add (j * 1 + 0)) = _
  rw [Nat.mul_one, Nat.add_zero]; exact hc
theorem RI.max {w : World} {v : Value} {xs : List Int} (h : RI w v xs) : xs.length ≤ 9223372036854775807 := by obtain ⟨A, c, h1, h2, h3, h4⟩ := h; exact h3
theorem RLL.max {w : World} {v : Value} {f : List (List Int)} (h : RLL w v f) : f.length ≤ 9223372036854775807 ∧ ∀ j (hj : j < f.length), f[j].length ≤ 9223372036854775807 := by
  obtain ⟨A, c, vs, rfl, h1, h2, h3, h4, h5⟩ := h
  exact ⟨by omega, fun j hj => (h5 j (by omega) hj).max⟩
theorem drawn_ext {w w' : World} (h : Drawn0 w w') : Ext w w' := by
  obtain ⟨⟨n, rfl⟩⟩ := h
  exact Ext.drewN w n

namespace PAsgTwice

theorem Same_l0 (xs ys : List Int) (hl : xs.length = ys.length) (hb : xs.length ≤ 9223372036854775807) : ∀ n i, i + n = xs.length → Evn (fun k => skolemref01_Same.l0 k xs ys (i : Int)) (decide (xs.drop i = ys.drop i)) := by
  intro n
  induction n with
  | zero =>
    intro i hi
    refine Evn.succ (g' := fun _ => some true) (fun k => ?_) ((Evn.ret _).to ?_)
    · rw [skolemref01_Same.l0, if_neg (by omega)]
    · rw [List.drop_eq_nil_of_le (by omega), List.drop_eq_nil_of_le (by omega)]; rfl
  | succ n ih =>
    intro i hi
    refine Evn.succ (fun k => by rw [skolemref01_Same.l0]) ?_
    refine Evn.pos (by omega) (Evn.pos (by omega) (Evn.pos (by omega) ?_))
    rw [rd_nat xs i (by omega), rd_nat ys i (by omega), wrap64_nat (by omega), List.drop_eq_getElem_cons (show i < xs.length by omega), List.drop_eq_getElem_cons (show i < ys.length by omega)]
    by_cases h : xs[i] = ys[i]
    · exact Evn.pos h ((ih (i + 1) (by omega)).to (dec_cons h))
    · exact Evn.neg h ((Evn.ret _).to (dec_cons_ne h))
theorem Same_f (xs ys : List Int) (hb : xs.length ≤ 9223372036854775807) : Evn (fun k => skolemref01_Same.f k xs ys) (decide (xs = ys)) := by
  unfold skolemref01_Same.f
  by_cases hl : xs.length = ys.length
  · exact Evn.pos (by omega) ((Same_l0 xs ys hl hb xs.length 0 (by omega)).to (by simp))
  · exact Evn.neg (by omega) ((Evn.ret _).to (by simp; intro h; exact hl (by rw [h])))

theorem SameAll_l0 (xs ys : List (List Int)) (hl : xs.length = ys.length) (hb : xs.length ≤ 9223372036854775807) (hb' : ∀ j (hj : j < xs.length), xs[j].length ≤ 9223372036854775807) :
    ∀ n i, i + n = xs.length → Evn (fun k => skolemref01_SameAll.l0 k xs ys (i : Int)) (decide (xs.drop i = ys.drop i)) := by
  intro n
  induction n with
  | zero =>
    intro i hi
    refine Evn.succ (g' := fun _ => some true) (fun k => ?_) ((Evn.ret _).to ?_)
    · rw [skolemref01_SameAll.l0, if_neg (by omega)]
    · rw [List.drop_eq_nil_of_le (by omega), List.drop_eq_nil_of_le (by omega)]; rfl
  | succ n ih =>
    intro i hi
    refine Evn.succ (fun k => by rw [skolemref01_SameAll.l0]) ?_
    refine Evn.pos (by omega) (Evn.pos (by omega) (Evn.pos (by omega) ?_))
    have h1 : rd_L1 xs (i : Int) = xs[i] := by simp [rd_L1, show i < xs.length by omega]
    have h2 : rd_L1 ys (i : Int) = ys[i] := by simp [rd_L1, show i < ys.length by omega]
    rw [h1, h2, wrap64_nat (by omega), List.drop_eq_getElem_cons (show i < xs.length by omega), List.drop_eq_getElem_cons (show i < ys.length by omega)]
    refine Evn.bind (Same_f _ _ (hb' i (by omega))) ?_
    by_cases h : xs[i] = ys[i]
    · exact Evn.pos (by simpa using h) ((ih (i + 1) (by omega)).to (dec_cons h))
    · exact Evn.neg (by simpa using h) ((Evn.ret _).to (dec_cons_ne h))
theorem SameAll_f (xs ys : List (List Int)) (hb : xs.length ≤ 9223372036854775807) (hb' : ∀ j (hj : j < xs.length), xs[j].length ≤ 9223372036854775807) : Evn (fun k => skolemref01_SameAll.f k xs ys) (decide (xs = ys)) := by
  unfold skolemref01_SameAll.f
  by_cases hl : xs.length = ys.length
  · exact Evn.pos (by omega) ((SameAll_l0 xs ys hl hb hb' xs.length 0 (by omega)).to (by simp))
  · exact Evn.neg (by omega) ((Evn.ret _).to (by simp; intro h; exact hl (by rw [h])))

theorem Step_l0 (xs ys : List S55) (hl : xs.length = ys.length) (hb : xs.length ≤ 9223372036854775807) : ∀ n i, i + n = xs.length → Evn (fun k => api_Step.l0 k xs ys (xs.length : Int) (i : Int)) (decide ((xs.drop i).map (fun s => (s.f0, s.f1)) = (ys.drop i).map fun s => (s.f0, s.f1))) := by
  intro n
  induction n with
  | zero =>
    intro i hi
    refine Evn.succ (g' := fun _ => some true) (fun k => ?_) ((Evn.ret _).to ?_)
    · rw [api_Step.l0, if_neg (by omega)]
    · rw [List.drop_eq_nil_of_le (by omega), List.drop_eq_nil_of_le (by omega)]; rfl
  | succ n ih =>
    intro i hi
    refine Evn.succ (fun k => by rw [api_Step.l0]) ?_
    refine Evn.pos (by omega) (Evn.pos (by omega) (Evn.pos (by omega) (Evn.pos (by omega) ?_)))
    have h1 : rd_T55 xs (i : Int) = xs[i] := by simp [rd_T55, show i < xs.length by omega]
    have h2 : rd_T55 ys (i : Int) = ys[i] := by simp [rd_T55, show i < ys.length by omega]
    rw [h1, h2, wrap64_nat (by omega), List.drop_eq_getElem_cons (show i < xs.length by omega), List.drop_eq_getElem_cons (show i < ys.length by omega)]
    by_cases h : xs[i].f0 = ys[i].f0 ∧ xs[i].f1 = ys[i].f1
    · exact Evn.neg (by simp [h.1, h.2]) ((ih (i + 1) (by omega)).to (by rw [List.map_cons, List.map_cons]; exact dec_cons (by rw [h.1, h.2])))
    · refine Evn.pos ?_ ((Evn.ret _).to ?_)
      · by_cases h3 : xs[i].f0 = ys[i].f0
        · have h4 : ¬ xs[i].f1 = ys[i].f1 := fun e => h ⟨h3, e⟩
          simp [h3, h4]
        · simp [h3]
      · rw [List.map_cons, List.map_cons]
        symm
        rw [decide_eq_false_iff_not]
        intro e
        injection e with e1 _
        injection e1 with e1 e2
        exact h ⟨e1, e2⟩
theorem Step_f (xs ys : List S55) (hb : xs.length ≤ 9223372036854775807) : Evn (fun k => api_Step.f k xs ys) (decide (xs.map (fun s => (s.f0, s.f1)) = ys.map fun s => (s.f0, s.f1))) := by
  unfold api_Step.f
  by_cases hl : xs.length = ys.length
  · exact Evn.pos (by omega) ((Step_l0 xs ys hl hb xs.length 0 (by omega)).to (by simp))
  · refine Evn.neg (by omega) ((Evn.ret _).to ?_)
    symm
    rw [decide_eq_false_iff_not]
    intro h
    have := congrArg List.length h
    rw [List.length_map, List.length_map] at this
    exact hl this

end PAsgTwice

/-- skolemref01.Same. -/
theorem Same_any (xs ys : List Int) (v u : Value) (w : World) (hr : RI w v xs) (kr : RI w u ys) : Calls Tryd.prog 49 #[v, u] w fun e w' => e = .returned (.bool (decide (xs = ys))) ∧ Ext w w' := by
  obtain ⟨K, hK⟩ := PAsgTwice.Same_f xs ys hr.max
  obtain ⟨A, c, rfl, h1, h2⟩ := hr.kd
  obtain ⟨B, d, rfl, k1, k2⟩ := kr.kd
  refine (PAsgTwice.skolemref01_Same.calls K A c xs B d ys _ w h2 h1 k2 k1 (hK K (Nat.le_refl _))).mono ?_
  rintro e w' ⟨rfl, hd⟩
  exact ⟨rfl, drawn_ext hd⟩
theorem SameAll_any (xs ys : List (List Int)) (v u : Value) (w : World) (hr : RLL w v xs) (kr : RLL w u ys) : Calls Tryd.prog 15 #[v, u] w fun e w' => e = .returned (.bool (decide (xs = ys))) ∧ Ext w w' := by
  obtain ⟨K, hK⟩ := PAsgTwice.SameAll_f xs ys hr.max.1 hr.max.2
  obtain ⟨A, c, rfl, h1, h2⟩ := hr.kd
  obtain ⟨B, d, rfl, k1, k2⟩ := kr.kd
  refine (PAsgTwice.skolemref01_SameAll.calls K A c xs B d ys _ w h2 h1 k2 k1 (hK K (Nat.le_refl _))).mono ?_
  rintro e w' ⟨rfl, hd⟩
  exact ⟨rfl, drawn_ext hd⟩

theorem RSt.kd {w : World} {v : Value} {st : List (Int × Int)} (h : RSt w v st) : ∃ A c, v = .slice A (st.map fun p => (⟨p.1, p.2⟩ : PAsgTwice.S55)).length c ∧ (st.map fun p => (⟨p.1, p.2⟩ : PAsgTwice.S55)).length ≤ c ∧
    Kd.C PAsgTwice.k55 w A (st.map fun p => (⟨p.1, p.2⟩ : PAsgTwice.S55)).length (st.map fun p => (⟨p.1, p.2⟩ : PAsgTwice.S55)) := by
  obtain ⟨A, c, rfl, h1, h2, h3⟩ := h
  refine ⟨A, c, by rw [List.length_map], by rw [List.length_map]; exact h1, rfl, by rw [List.length_map]; exact h2, fun h0 => ?_⟩
  rw [List.length_map] at h0
  obtain ⟨ad, rfl, hc⟩ := h3 h0
  refine ⟨ad, rfl, fun j p hp => ?_⟩
  obtain ⟨hj, rfl⟩ := List.getElem?_eq_some_iff.1 hp
  rw [List.length_map] at hj
  obtain ⟨g1, g2⟩ := stepsV_get st j hj
  refine ⟨[.int .i64 st[j].1, .int .i64 st[j].2], rfl, ⟨[.int .i64 st[j].1], [.int .i64 st[j].2], rfl, by rw [List.getElem_map]; rfl, by rw [List.getElem_map]; rfl⟩, fun i u hu => ?_⟩
  show w.cell? (ad.add (j * 2 + i)) = _
  cases i with
  | zero => injection hu with hu; subst hu; exact hc _ _ g1
  | succ i =>
    cases i with
    | zero => injection hu with hu; subst hu; exact hc _ _ g2
    | succ i => cases hu

/-- slices.Equal over steps. -/
theorem Steps_any (xs ys : List (Int × Int)) (v u : Value) (w : World) (hr : RSt w v xs) (kr : RSt w u ys) : Calls Tryd.prog 38 #[v, u] w fun e w' => e = .returned (.bool (decide (xs = ys))) ∧ Ext w w' := by
  have hmx : (xs.map fun p => (⟨p.1, p.2⟩ : PAsgTwice.S55)).length ≤ 9223372036854775807 := by rw [List.length_map]; obtain ⟨A, c, h1, h2, h3, h4⟩ := hr; exact h3
  obtain ⟨K, hK⟩ := PAsgTwice.Step_f (xs.map fun p => (⟨p.1, p.2⟩ : PAsgTwice.S55)) (ys.map fun p => (⟨p.1, p.2⟩ : PAsgTwice.S55)) hmx
  obtain ⟨A, c, rfl, h1, h2⟩ := hr.kd
  obtain ⟨B, d, rfl, k1, k2⟩ := kr.kd
  refine (PAsgTwice.api_Step.calls K A c _ B d _ _ w h2 h1 k2 k1 (hK K (Nat.le_refl _))).mono ?_
  rintro e w' ⟨rfl, hd⟩
  refine ⟨ret_bool ?_, drawn_ext hd⟩
  rw [List.map_map, List.map_map, decide_eq_decide]
  have e1 : ∀ l : List (Int × Int), l.map ((fun s : PAsgTwice.S55 => (s.f0, s.f1)) ∘ fun p => (⟨p.1, p.2⟩ : PAsgTwice.S55)) = l := fun l => by
    induction l with
    | nil => rfl
    | cons p l ih => rw [List.map_cons, ih]; rfl
  rw [e1, e1]

end Go.Proofs.YteokoaggkpjdeaaDoor
namespace Go.Proofs.YteokoaggkpjdeaaDoor.PAsgTwice
open Go.RowKit Go.Proofs.YteokoaggkpjdeaaDoorW.PrintWords

theorem wrap64_id {x : Int} (h0 : -9223372036854775808 ≤ x) (h1 : x ≤ 9223372036854775807) : wrap64 x = x := by unfold wrap64; omega

theorem size_f (x : Int) (h : I64 x) : skolemref01_size.f x = some ((x.natAbs : Nat) : Int) := by
  obtain ⟨h0, h1⟩ := h
  unfold skolemref01_size.f
  by_cases hx : x < 0
  · rw [if_pos hx, wrap64_id (x := x + 1) (by omega) (by omega), wrap64_id (by omega) (by omega), IntWalk.u64_in (-(x + 1)) ⟨by omega, by omega⟩, IntWalk.u64_in _ ⟨by omega, by omega⟩]
    congr 1; omega
  · rw [if_neg hx, IntWalk.u64_in _ ⟨by omega, by omega⟩]
    congr 1; omega
theorem literal_f (x : Int) (h : I64 x) : skolemref01_literal.f x = some (decide (varOf x ≠ 0)) := by
  unfold skolemref01_literal.f
  by_cases hx : x = 0
  · subst hx; rfl
  · rw [if_neg hx, size_f x h]
    show some _ = _
    congr 1
    rw [decide_eq_decide]
    unfold varOf
    split <;> omega
theorem Var_f (x : Int) (h : I64 x) : skolemref01_Var.f x = some (varOf x) := by
  unfold skolemref01_Var.f
  rw [literal_f x h]
  show (if decide (varOf x ≠ 0) = true then _ else _) = _
  by_cases hv : varOf x = 0
  · rw [if_neg (by simpa using hv), hv]
  · rw [if_pos (by simpa using hv), size_f x h]
    have := varOf_eq hv
    have := varOf_range x
    show some (wrap64 _) = _
    rw [wrap64_id (by omega) (by omega)]
    congr 1; omega

theorem May_l0 (xs : List Int) (h64 : All64 xs) (hb : xs.length ≤ 9223372036854775807) : ∀ n i, i + n = xs.length → Evn (fun k => skolemref01_May.l0 k xs (i : Int)) (mayFrom (if i = 0 then 0 else varOf (xs.getD (i - 1) 0)) (xs.drop i)) := by
  intro n
  induction n with
  | zero =>
    intro i hi
    refine Evn.succ (g' := fun _ => some true) (fun k => ?_) ((Evn.ret _).to ?_)
    · rw [skolemref01_May.l0, if_neg (by omega)]
    · rw [List.drop_eq_nil_of_le (by omega)]; rfl
  | succ n ih =>
    intro i hi
    have hil : i < xs.length := by omega
    have hm := h64 _ (List.getElem_mem hil)
    have hvr := varOf_range xs[i]
    refine Evn.succ (fun k => by rw [skolemref01_May.l0]) ?_
    refine Evn.pos (by omega) (Evn.pos (by omega) ?_)
    rw [rd_nat xs i hil, wrap64_nat (by omega), List.drop_eq_getElem_cons hil, mayFrom]
    refine Evn.bind (Evn.of_eq fun _ => literal_f _ hm) ?_
    have hnext := ih (i + 1) (by omega)
    rw [if_neg (by omega), show i + 1 - 1 = i by omega, show xs.getD i 0 = xs[i] by simp [hil]] at hnext
    by_cases hv : varOf xs[i] = 0
    · refine Evn.neg (by simpa using hv) ((Evn.ret _).to ?_)
      rw [if_pos]
      split
      · omega
      · have := varOf_range (xs.getD (i - 1) 0); omega
    · refine Evn.pos (by simpa using hv) ?_
      by_cases h0 : i = 0
      · subst h0
        refine Evn.neg (by omega) (hnext.to ?_)
        rw [if_neg (show ¬ varOf xs[0] ≤ (if (0 : Nat) = 0 then (0 : Int) else varOf (xs.getD (0 - 1) 0)) by rw [if_pos rfl]; omega)]
      · have hi1 : i - 1 < xs.length := by omega
        have e1 : wrap64 ((i : Int) - 1) = ((i - 1 : Nat) : Int) := by rw [wrap64_id (by omega) (by omega)]; omega
        have hm1 := h64 _ (List.getElem_mem hi1)
        rw [e1, rd_nat xs (i - 1) hi1, if_neg h0, show xs.getD (i - 1) 0 = xs[i - 1] by simp [hi1]]
        refine Evn.pos (by omega) (Evn.pos (by omega) (Evn.pos (by omega) ?_))
        refine Evn.bind (Evn.of_eq fun _ => Var_f _ hm1) (Evn.bind (Evn.of_eq fun _ => Var_f _ hm) ?_)
        by_cases hle : varOf xs[i] ≤ varOf xs[i - 1]
        · exact Evn.pos (by omega) ((Evn.ret _).to (by rw [if_pos hle]))
        · exact Evn.neg (by omega) (hnext.to (by rw [if_neg hle]))
theorem May_f (xs : List Int) (h64 : All64 xs) (hb : xs.length ≤ 9223372036854775807) : Evn (fun k => skolemref01_May.f k xs) (mayB xs) := by
  unfold skolemref01_May.f
  exact (May_l0 xs h64 hb xs.length 0 (by omega)).to (by rw [if_pos rfl]; rfl)
/-- A search from a place on. -/
def goG (g : Nat → Int) (a b : Int) : Nat → Nat → Bool → Int
  | 0, _, o => if o = true then 0 else b
  | r + 1, i, o => if g i = a then a else goG g a b r (i + 1) (o || g i == 0)
theorem goG_hit (g : Nat → Int) (a b : Int) : ∀ r i o, (∃ j, i ≤ j ∧ j < i + r ∧ g j = a) → goG g a b r i o = a
  | 0, i, o, ⟨j, h1, h2, _⟩ => by omega
  | r + 1, i, o, ⟨j, h1, h2, h3⟩ => by
    rw [goG]
    by_cases h : g i = a
    · rw [if_pos h]
    · rw [if_neg h]
      refine goG_hit g a b r (i + 1) _ ⟨j, ?_, by omega, h3⟩
      rcases Nat.lt_or_eq_of_le h1 with h4 | h4
      · exact h4
      · subst h4; exact absurd h3 h
theorem goG_open (g : Nat → Int) (a b : Int) : ∀ r i o, (∀ j, i ≤ j → j < i + r → g j ≠ a) → (o = true ∨ ∃ j, i ≤ j ∧ j < i + r ∧ g j = 0) → goG g a b r i o = 0
  | 0, i, o, _, h => by
    rcases h with h | ⟨j, h1, h2, _⟩
    · rw [goG, if_pos h]
    · omega
  | r + 1, i, o, hn, h => by
    rw [goG, if_neg (hn i (Nat.le_refl _) (by omega))]
    refine goG_open g a b r (i + 1) _ (fun j h1 h2 => hn j (by omega) (by omega)) ?_
    rcases h with h | ⟨j, h1, h2, h3⟩
    · left; rw [h]; rfl
    · rcases Nat.lt_or_eq_of_le h1 with h4 | h4
      · exact .inr ⟨j, h4, by omega, h3⟩
      · subst h4; left; simp [h3]
theorem goG_rest (g : Nat → Int) (a b : Int) : ∀ r i, (∀ j, i ≤ j → j < i + r → g j ≠ a ∧ g j ≠ 0) → goG g a b r i false = b
  | 0, i, _ => rfl
  | r + 1, i, hn => by
    have h := hn i (Nat.le_refl _) (by omega)
    rw [goG, if_neg h.1, show (false || g i == 0) = false by simpa using h.2]
    exact goG_rest g a b r (i + 1) fun j h1 h2 => hn j (by omega) (by omega)
theorem goG_zero (g : Nat → Int) (a b : Int) (n : Nat) : goG g a b n 0 false = searchG g n a b := by
  unfold searchG
  split
  · rename_i h
    obtain ⟨j, h1, h2⟩ := h
    exact goG_hit g a b n 0 false ⟨j, by omega, by omega, h2⟩
  · rename_i h
    split
    · rename_i h2
      obtain ⟨j, h3, h4⟩ := h2
      exact goG_open g a b n 0 false (fun j _ h1 h2 => h ⟨j, by omega, h2⟩) (.inr ⟨j, by omega, by omega, h4⟩)
    · rename_i h2
      exact goG_rest g a b n 0 fun j _ h1 => ⟨fun e => h ⟨j, by omega, e⟩, fun e => h2 ⟨j, by omega, e⟩⟩

def mcR (f : List (List Int)) : Nat → Nat → Bool
  | 0, _ => true
  | r + 1, i => decide (i < 20000) && decide (lens f (i + 1) ≤ 200000) && mayB (f.getD i []) && mcR f r (i + 1)
theorem mcR_iff (f : List (List Int)) : ∀ r i, mcR f r i = true ↔ ∀ j, i ≤ j → j < i + r → j < 20000 ∧ lens f (j + 1) ≤ 200000 ∧ mayB (f.getD j []) = true
  | 0, i => by simp [mcR]; intro j h1 h2; omega
  | r + 1, i => by
    rw [mcR, Bool.and_eq_true, Bool.and_eq_true, Bool.and_eq_true, decide_eq_true_eq, decide_eq_true_eq, mcR_iff f r (i + 1)]
    constructor
    · rintro ⟨⟨⟨h1, h2⟩, h3⟩, h4⟩ j h5 h6
      rcases Nat.lt_or_eq_of_le h5 with h7 | h7
      · exact h4 j h7 (by omega)
      · subst h7; exact ⟨h1, h2, h3⟩
    · intro h
      have h0 := h i (Nat.le_refl _) (by omega)
      exact ⟨⟨⟨h0.1, h0.2.1⟩, h0.2.2⟩, fun j h1 h2 => h j (by omega) (by omega)⟩
theorem mcR_full (f : List (List Int)) : mcR f f.length 0 = mayCnfB f := by
  rw [Bool.eq_iff_iff, mcR_iff]
  unfold mayCnfB
  rw [Bool.and_eq_true, decide_eq_true_eq, List.all_eq_true]
  constructor
  · intro h
    refine ⟨?_, fun k hk => ?_⟩
    · rcases Nat.eq_zero_or_pos f.length with h0 | h0
      · omega
      · have := (h (f.length - 1) (by omega) (by omega)).1; omega
    · have hk' : k < f.length := by simpa using hk
      have := h k (by omega) (by omega)
      rw [Bool.and_eq_true, decide_eq_true_eq]
      exact ⟨this.2.1, this.2.2⟩
  · rintro ⟨h1, h2⟩ j _ h4
    have := h2 j (by simpa using h4)
    rw [Bool.and_eq_true, decide_eq_true_eq] at this
    exact ⟨by omega, this.1, this.2⟩

theorem MayCnf_l0 (f : List (List Int)) (h64 : All64L f) (hb : f.length ≤ 9223372036854775807) (ht : total f ≤ 9223372036854775807) :
    ∀ n i, i + n = f.length → Evn (fun k => skolemref01_MayCnf.l0 k f (lens f i : Int) (i : Int)) (mcR f n i) := by
  intro n
  induction n with
  | zero =>
    intro i hi
    exact Evn.succ (g' := fun _ => some true) (fun k => by rw [skolemref01_MayCnf.l0, if_neg (by omega)]) (Evn.ret _)
  | succ n ih =>
    intro i hi
    have hil : i < f.length := by omega
    have hls := lens_succ f i hil
    have hle := lens_le f (i + 1)
    have h1 : rd_L1 f (i : Int) = f[i] := by simp [rd_L1, hil]
    have hfl : f[i].length ≤ 9223372036854775807 := by omega
    refine Evn.succ (fun k => by rw [skolemref01_MayCnf.l0]) ?_
    refine Evn.pos (by omega) (Evn.pos (by omega) ?_)
    have hnext := ih (i + 1) (by omega)
    rw [h1, wrap64_nat (by omega), wrap64_id (by omega) (by omega), show ((lens f i : Nat) : Int) + (f[i].length : Int) = ((lens f (i + 1) : Nat) : Int) by omega, mcR, getD_of f i hil]
    by_cases c1 : i < 20000
    · rw [decide_eq_true c1, Bool.true_and]
      refine Evn.neg (by omega) ?_
      by_cases c2 : lens f (i + 1) ≤ 200000
      · rw [decide_eq_true c2, Bool.true_and]
        refine Evn.neg (by omega) (Evn.bind (May_f f[i] (h64 _ (List.getElem_mem hil)) hfl) ?_)
        by_cases c3 : mayB f[i] = true
        · rw [c3, Bool.true_and]; exact Evn.pos rfl hnext
        · exact Evn.neg c3 ((Evn.ret _).to (by rw [show mayB f[i] = false by simpa using c3]; rfl))
      · exact Evn.pos (by omega) ((Evn.ret _).to (by rw [decide_eq_false c2]; rfl))
    · exact Evn.pos (by omega) ((Evn.ret _).to (by rw [decide_eq_false c1]; rfl))
theorem MayCnf_f (f : List (List Int)) (h64 : All64L f) (hb : f.length ≤ 9223372036854775807) (ht : total f ≤ 9223372036854775807) : Evn (fun k => skolemref01_MayCnf.f k f) (mayCnfB f) := by
  unfold skolemref01_MayCnf.f
  exact (MayCnf_l0 f h64 hb ht f.length 0 (by omega)).to (mcR_full f)
theorem lookI_cases (xs : List Int) (x : Int) : lookI xs x = 0 ∨ lookI xs x = 1 ∨ lookI xs x = 2 := by
  unfold lookI
  by_cases h1 : varOf x = 0
  · rw [if_pos h1]; exact .inl rfl
  · rw [if_neg h1]
    by_cases h2 : x ∈ xs
    · rw [if_pos h2]; exact .inr (.inl rfl)
    · rw [if_neg h2]
      by_cases h3 : -x ∈ xs
      · rw [if_pos h3]; exact .inr (.inr rfl)
      · rw [if_neg h3]; exact .inl rfl
theorem rest_eq (xs c : List Int) (hm : mayB xs = true) (hc : clauseV xs c ≠ 1) : (c.filter fun x => ValueV xs x == 0) = c.filter fun x => !(lookI xs x == 2) := by
  apply List.filter_congr
  intro x hx
  rw [show ValueV xs x = lookI xs x from if_pos hm]
  have h1 : lookI xs x ≠ 1 := fun e => hc (by
    obtain ⟨j, hj, rfl⟩ := List.mem_iff_getElem.1 hx
    exact searchG_found hj (by simpa [hj] using e))
  rcases lookI_cases xs x with h | h | h
  · rw [h]; rfl
  · exact absurd h h1
  · rw [h]; rfl

end Go.Proofs.YteokoaggkpjdeaaDoor.PAsgTwice
namespace Go.Proofs.YteokoaggkpjdeaaDoor
open Go.RowKit Go.Proofs.YteokoaggkpjdeaaDoorW.PrintWords
/-- A row of rows of the reference's own reads. -/
theorem kd_RLL {w : World} {base : Nat} {ok : Nat → Prop} {v : Value} {f : List (List Int)} (h : Kd.S (Kd.slice 3 (Kd.int .i64)) 22 w base ok v f) : RLL w v f := by
  obtain ⟨A, c, rfl, h1, -, h2, h3⟩ := Kd.S_reads h
  rcases Nat.eq_zero_or_pos f.length with h0 | h0
  · have : f = [] := List.length_eq_zero_iff.1 h0
    subst this
    exact ⟨A, c, [], rfl, Nat.zero_le _, by simp, fun j hj => by simp at hj, rfl, fun j hj => by simp at hj⟩
  · obtain ⟨ad, rfl, hh⟩ := h3 h0
    have hex : ∀ j (hj : j < f.length), ∃ u, w.cell? (ad.add j) = some u ∧ RI w u f[j] := fun j hj => by
      obtain ⟨cs, h4, ⟨A', c', h5, h6, h7⟩, h8⟩ := hh j f[j] (List.getElem?_eq_getElem hj)
      have := h8 0 (.slice A' f[j].length c') (by rw [h5]; rfl)
      have h9 : w.cell? (ad.add (j * 1 + 0)) = some (.slice A' f[j].length c') := this
      rw [Nat.mul_one, Nat.add_zero] at h9
      exact ⟨_, h9, kd_RI h7 h6⟩
    let vs := List.ofFn fun j : Fin f.length => Classical.choose (hex j.1 j.2)
    have hvl : vs.length = f.length := by simp [vs]
    have hvg : ∀ j (hj : j < vs.length) (hj' : j < f.length), w.cell? (ad.add j) = some vs[j] ∧ RI w vs[j] f[j] := fun j hj hj' => by
      have := Classical.choose_spec (hex j hj')
      simp only [vs, List.getElem_ofFn]
      exact this
    refine ⟨some ad, c, vs, by rw [hvl], by omega, by omega, fun j hj => ⟨ad, rfl, (hvg j hj (by omega)).1⟩, hvl, fun j hj hj' => (hvg j hj hj').2⟩


theorem kdR_RI {w : World} {base : Nat} {ok : Nat → Prop} {v : Value} {xs : List Int} (h : Kd.R (Kd.int .i64) 3 w base ok v xs) : RI w v xs := by
  obtain ⟨A, c, rfl, h1, h2⟩ := Kd.R_reads h
  exact kd_RI h2 h1
theorem kdV_RI {w : World} {base : Nat} {ok : Nat → Prop} {v : Value} {xs : List Int} (h : Kd.V (Kd.int .i64) 3 w base ok v xs) : RI w v xs := by
  obtain ⟨A, c, rfl⟩ := Kd.V_slice h
  obtain ⟨h1, h2, h3⟩ := Kd.V_reads' h
  exact kd_RI h3 h2
theorem refMay_any (xs : List Int) (v : Value) (w : World) (h64 : All64 xs) (hr : RI w v xs) : Calls Tryd.prog 42 #[v] w fun e w' => e = .returned (.bool (mayB xs)) ∧ Ext w w' := by
  obtain ⟨K, hK⟩ := PAsgTwice.May_f xs h64 hr.max
  obtain ⟨A, c, rfl, h1, h2⟩ := hr.kd
  refine (PAsgTwice.skolemref01_May.calls K A c xs _ w h2 h1 (hK K (Nat.le_refl _))).mono ?_
  rintro e w' ⟨rfl, hd⟩
  exact ⟨rfl, drawn_ext hd⟩
theorem refMayCnf_any (f : List (List Int)) (u : Value) (w : World) (k64 : All64L f) (kr : RLL w u f) (ht : total f ≤ 9223372036854775807) : Calls Tryd.prog 31 #[u] w fun e w' => e = .returned (.bool (mayCnfB f)) ∧ Ext w w' := by
  obtain ⟨K, hK⟩ := PAsgTwice.MayCnf_f f k64 kr.max.1 ht
  obtain ⟨B, d, rfl, k1, k2⟩ := kr.kd
  refine (PAsgTwice.skolemref01_MayCnf.calls K B d f _ w k2 k1 (hK K (Nat.le_refl _))).mono ?_
  rintro e w' ⟨rfl, hd⟩
  exact ⟨rfl, drawn_ext hd⟩
end Go.Proofs.YteokoaggkpjdeaaDoor
namespace Go.Proofs.YteokoaggkpjdeaaDoor
open Go.RowKit

set_option maxRecDepth 100000 in
set_option maxHeartbeats 20000000 in
theorem awake_any (w : World) (hG : HasSame w) : Calls Tryd.prog 12 #[] w fun e w' => e = .returned (.bool true) ∧ Ext w w' := by
  have HG := Lib.hid hG
  clear hG
  go_enter Tryd.func12, Tryd.ntmps12
  go_upto_region 3 with (go_at_call 34
                         refine (unitsC [[1, 2], [-2], [-1, 3]] [] _ _ _ units1 _ _ _ (all64_of _ (by decide)) (all64L_of _ (by decide)) (RI.none _) (lit3 w [1, 2] [-2] [-1, 3] (by decide) (by decide) (by decide)) (fun _ => by decide)).mono ?_
                         rintro e w1 ⟨A1, d1, rfl, hst, hE⟩
                         have HS1 := Lib.hid hst
                         have HE1 := Lib.hid (((((Ext.alloc w _).trans (Ext.alloc _ _)).trans (Ext.alloc _ _)).trans (Ext.alloc _ _)).trans hE)
                         clear hst hE)
  go_upto_region 4 with (go_at_call 34
                         refine (unitsC [[1], [-1]] [] _ _ _ units2 _ _ _ (all64_of _ (by decide)) (all64L_of _ (by decide)) (RI.none _) (lit2 w1 [1] [-1] (by decide) (by decide)) (fun _ => by decide)).mono ?_
                         rintro e w2 ⟨A2, d2, rfl, hst, hE⟩
                         have HS2 := Lib.hid hst
                         have HE2 := Lib.hid ((((Ext.alloc w1 _).trans (Ext.alloc _ _)).trans (Ext.alloc _ _)).trans hE)
                         clear hst hE)
  go_upto_region 5 with (go_at_call 34
                         refine (unitsC [[1, 2]] [-1, -2] _ _ _ units3 _ _ _ (all64_of _ (by decide)) (all64L_of _ (by decide)) (by
                           have := lit0 ((w2.alloc (rowO [1, 2])).alloc (.cells #[slV w2.heap.size 2] 22)) [-1, -2] (by decide)
                           rw [show ((w2.alloc (rowO [1, 2])).alloc (.cells #[slV w2.heap.size 2] 22)).heap.size = w2.heap.size + 1 + 1 by simp] at this
                           exact this) ((lit1 w2 [1, 2] (by decide)).ext' (Ext.alloc _ _)) (fun _ => by decide)).mono ?_
                         rintro e w3 ⟨A3, d3, rfl, hst, hE⟩
                         have HE3 := Lib.hid ((((Ext.alloc w2 _).trans (Ext.alloc _ _)).trans (Ext.alloc _ _)).trans hE)
                         clear hst hE)
  go_upto_region 6 with (go_at_call 19
                         have hpt := Point_any [1, 2, 3] 6 (by decide) (by decide) _ _ (all64_of _ (by decide)) (lit0 w3 [1, 2, 3] (by decide))
                         rw [point1] at hpt
                         refine hpt.mono ?_
                         rintro e w4 ⟨v4, rfl, hown, hE⟩
                         have HP4 := Lib.hid (hown.reads)
                         have HE4 := Lib.hid ((Ext.alloc w3 _).trans hE)
                         clear hown hE hpt)
  go_upto_region 7 with (go_at_call 19
                         have hpt := Point_any [1, 2, 3] 8 (by decide) (by decide) _ _ (all64_of _ (by decide)) (lit0 w4 [1, 2, 3] (by decide))
                         rw [point2] at hpt
                         refine hpt.mono ?_
                         rintro e w5 ⟨v5, rfl, hown, hE⟩
                         have HE5 := Lib.hid ((Ext.alloc w4 _).trans hE)
                         clear hown hE hpt)
  go_upto_region 8 with (go_at_call 21
                         have hnu := Number_any [1, 2] [-1, 2] _ _ _ (all64_of _ (by decide)) (all64_of _ (by decide)) ((lit0 w5 [1, 2] (by decide)).ext (Ext.alloc _ _)) (by
                           have := lit0 (w5.alloc (rowO [1, 2])) [-1, 2] (by decide)
                           rw [show (w5.alloc (rowO [1, 2])).heap.size = w5.heap.size + 1 by simp] at this
                           exact this)
                         rw [number1] at hnu
                         refine hnu.mono ?_
                         rintro e w6 ⟨rfl, rfl⟩
                         clear hnu)
  have E5 : Ext w w5 := (((HE1.out.trans HE2.out).trans HE3.out).trans HE4.out).trans HE5.out
  have HW5 := Lib.hid E5
  have HW45 := Lib.hid HE5.out
  have HW15 := Lib.hid (((HE2.out.trans HE3.out).trans HE4.out).trans HE5.out)
  clear E5 HE1 HE2 HE3 HE4 HE5
  obtain ⟨w6, hw6⟩ : ∃ w6 : World, w6 = (w5.alloc (rowO [1, 2])).alloc (rowO [-1, 2]) := ⟨_, rfl⟩
  have HE6 : Hid (Ext w5 w6) := Lib.hid (hw6 ▸ (Ext.alloc w5 _).trans (Ext.alloc _ _))
  rw [← hw6]
  clear hw6
  go_upto_region 9 with (go_at_call 38
                         refine (Steps_any [(-2, 1), (1, 0), (3, 2)] [(-2, 1), (1, 0), (3, 2)] _ _ _ ((HS1.out.ext (HW15.out.trans HE6.out)).ext (Ext.alloc _ _)) ((Blk.new w6 _ _).RSt (by decide))).mono ?_
                         rintro e w7 ⟨rfl, hE⟩
                         have HE7 := Lib.hid (HE6.out.trans ((Ext.alloc w6 _).trans hE))
                         clear hE)
  have cg : w7.cell? ⟨0, 0, Option.none⟩ = some (.func (.func 49) #[] #[]) := HG.out.ext (HW5.out.trans HE7.out)
  go_upto_region 10 with (first
    | (refine wpList_callv (.tmp 96) #[.tmp 97, .tmp 98] _ rfl (by rfl) #[] rfl fv_same #[v4, slV w7.heap.size 3] (by simp only [List.map_toArray, List.map_cons, List.map_nil, List.append_toArray, List.cons_append, List.nil_append]; rfl) ?_
       refine (Same_any [-1, 2, 3] [-1, 2, 3] _ _ _ ((HP4.out.ext (HW45.out.trans HE7.out)).ext (Ext.alloc _ _)) (lit0 w7 [-1, 2, 3] (by decide))).mono ?_
       rintro e w8 ⟨rfl, hE⟩
       refine ⟨_, rfl, ?_⟩
       simp only [Act.put, List.setIfInBounds_toArray, List.set_cons_zero, List.set_cons_succ]
       have HE8 := Lib.hid (HE7.out.trans ((Ext.alloc w7 _).trans hE))
       clear hE cg)
    | (go_at_call 25
       refine (clauseN _).mono ?_
       rintro e w9 ⟨rfl, hE⟩
       have HE9 := Lib.hid hE
       clear hE)
    | (go_at_call 27
       refine (cubeN _).mono ?_
       rintro e w10 ⟨rfl, hE⟩
       have HE10 := Lib.hid hE
       clear hE)
    | (go_at_call 17
       refine (cnfN _).mono ?_
       rintro e w11 ⟨rfl, hE⟩
       have HE11 := Lib.hid hE
       clear hE))
  obtain ⟨w12, hw12⟩ : ∃ w12 : World, w12 = w11 := ⟨_, rfl⟩
  have HE12 : Hid (Ext w5 w12) := Lib.hid (hw12 ▸ (((HE8.out.trans HE9.out).trans HE10.out).trans HE11.out))
  rw [← hw12]
  clear hw12 HE8 HE9 HE10 HE11
  go_wp2_with (first
    | (go_at_call 23
       have hcc := Value_any [-2] 2 _ _ (all64_of _ (by decide)) (by unfold I64; decide) (lit0 w12 [-2] (by decide))
       rw [value1] at hcc
       refine hcc.mono ?_
       rintro e w13 ⟨rfl, hE⟩
       have HE13 := Lib.hid (HE12.out.trans ((Ext.alloc w12 _).trans hE))
       clear hE hcc)
    | (go_at_call 14
       have e1 : (w13.alloc (rowO [1])).heap.size = w13.heap.size + 1 := by simp
       have hl3 := lit3 (w13.alloc (rowO [1])) [1, 2] [-1, 3] [-1] (by decide) (by decide) (by decide)
       rw [e1] at hl3
       have hcc := Under_any [1] [[1, 2], [-1, 3], [-1]] _ _ _ (all64_of _ (by decide)) (all64L_of _ (by decide)) (((((lit0 w13 [1] (by decide)).ext (Ext.alloc _ _)).ext (Ext.alloc _ _)).ext (Ext.alloc _ _)).ext (Ext.alloc _ _)) hl3 (fun _ => by decide)
       rw [under1] at hcc
       refine hcc.mono ?_
       rintro e w14 ⟨v14, rfl, hown, hE⟩
       have HU14 := Lib.hid hown.reads
       have HE14 := Lib.hid (HE13.out.trans ((((((Ext.alloc w13 _).trans (Ext.alloc _ _)).trans (Ext.alloc _ _)).trans (Ext.alloc _ _)).trans (Ext.alloc _ _)).trans hE))
       clear hE hcc hown hl3 e1)
    | (go_at_call 15
       have hl2 : RLL ((w14.alloc (rowO [3])).alloc (.cells #[slV w14.heap.size 1, .slice Option.none 0 0] 22)) (slV (w14.heap.size + 1) 2) [[3], []] :=
         .two (Blk.new' (by simp)) ((lit0 w14 [3] (by decide)).ext (Ext.alloc _ _)) (RI.none _)
       refine (SameAll_any [[3], []] [[3], []] _ _ _ ((HU14.out.ext' (Ext.alloc _ _)).ext' (Ext.alloc _ _)) hl2).mono ?_
       rintro e w15 ⟨rfl, hE⟩
       have HE15 := Lib.hid (HE14.out.trans (((Ext.alloc w14 _).trans (Ext.alloc _ _)).trans hE))
       clear hE hl2))
  go_ret
  exact ⟨rfl, HW5.out.trans HE15.out⟩

end Go.Proofs.YteokoaggkpjdeaaDoor
