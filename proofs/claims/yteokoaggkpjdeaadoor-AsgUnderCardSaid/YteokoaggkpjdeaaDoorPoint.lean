/- asg.many, Point, Number. -/
import Derived.Test.YteokoaggkpjdeaaDoorUnits
namespace Go.Proofs.YteokoaggkpjdeaaDoor
open Go.RowKit

def manyB (xs : List Int) : Bool := decide (xs.length ≤ 64) && mayB xs && xs.all fun x => decide (0 ≤ x)

theorem fv_many1 : Fv Tryd.prog 83 := ⟨_, Tryd.func83, by kernel_rfl, by kernel_rfl⟩
set_option maxHeartbeats 400000 in
theorem many1_fn (x : Int) (w : World) : Calls Tryd.prog 83 #[.int .i64 x] w fun e w' => e = .returned (.bool (decide (x < 0))) ∧ w' = w := by
  go_enter Tryd.func83, Tryd.ntmps83
  go_wp2
  go_ret
  exact ⟨rfl, rfl⟩

theorem idx_cont {p : Nat → Bool} {n : Nat} {r : Int} (h : IdxOf p n r) : decide (0 ≤ r) = (List.range n).any p := by
  rcases h with ⟨k, hk, hp, hb, rfl⟩ | ⟨hno, rfl⟩
  · have : (List.range n).any p = true := List.any_eq_true.2 ⟨k, by simpa using hk, hp⟩
    rw [this]; simp
  · have : (List.range n).any p = false := List.any_eq_false.2 fun k hk => by rw [hno k (by simpa using hk)]; simp
    rw [this]; rfl

theorem range_any_get (xs : List Int) (q : Int → Bool) : (List.range xs.length).any (fun j => q (xs.getD j 0)) = xs.any q := by
  rw [Bool.eq_iff_iff, List.any_eq_true, List.any_eq_true]
  constructor
  · rintro ⟨k, hk, hq⟩
    have hk' : k < xs.length := by simpa using hk
    exact ⟨xs[k], List.getElem_mem hk', by simpa [hk'] using hq⟩
  · rintro ⟨x, hx, hq⟩
    obtain ⟨k, hk, rfl⟩ := List.mem_iff_getElem.1 hx
    exact ⟨k, by simpa using hk, by simpa [hk] using hq⟩

set_option maxHeartbeats 1000000 in
theorem many_any (xs : List Int) (v : Value) (w : World) (h64 : All64 xs) (hr : RI w v xs) : Calls Tryd.prog 53 #[v] w fun e w' => e = .returned (.bool (manyB xs)) ∧ w = w' := by
  have HL := Lib.hid (may_any _ xs _ hr h64)
  obtain ⟨A, c, rfl, h1, h2, h3⟩ := hr
  have hix := containsFuncI 83 #[] fv_many1 A c (xs.map (Value.int .i64)) (by rw [List.length_map]; exact h2) (fun j => decide (xs.getD j 0 < 0)) (fun _ w' => w' = w) w
    (fun _ w' hw => hw ▸ h3)
    (fun j hj w' hw => by
      subst hw
      have hj' : j < xs.length := by simpa using hj
      rw [List.getElem_map, show xs[j] = xs.getD j 0 by simp [hj']]
      exact many1_fn (xs.getD j 0) w')
    rfl
  rw [List.length_map] at hix
  have HIX := Lib.hid (hix.mono fun e w' (hq : PostCont _ _ _ e w') => by
    obtain ⟨r', he, hq⟩ := hq
    have h1 : IdxOf (fun j => decide (xs.getD j 0 < 0)) xs.length r' ∧ w' = w := by
      rcases hq with ⟨k, h1, h2, h3, h4, h5⟩ | ⟨h1, h2, h3⟩
      · exact ⟨.inl ⟨k, h1, h2, h3, h4⟩, h5⟩
      · exact ⟨.inr ⟨h1, h2⟩, h3⟩
    have := (idx_cont h1.1).trans (range_any_get xs fun x => decide (x < 0))
    exact (show e = .returned (.bool (xs.any fun x => decide (x < 0))) ∧ w = w' from ⟨by rw [he, this], h1.2.symm⟩))
  clear hix h3
  by_cases hl : xs.length ≤ 64
  · have hl' : decide ((xs.length : Int) ≤ 64) = true := decide_eq_true (by omega)
    have HLL := Lib.hid hl
    have hll : (xs.length : Int) ≤ 64 := by omega
    cases hm : mayB xs
    · rw [hm] at HL
      have HM := Lib.hid hm
      clear hm
      go_enter Tryd.func53, Tryd.ntmps53
      go_wp2_with (go_at_call 43; refine HL.out.mono ?_; rintro e w' ⟨rfl, rfl⟩)
      go_ret
      exact ⟨ret_bool (by unfold manyB; rw [HM.out]; simp), rfl⟩
    · rw [hm] at HL
      have HM := Lib.hid hm
      clear hm
      go_enter Tryd.func53, Tryd.ntmps53
      go_wp2_with (first
        | (go_at_call 43; refine HL.out.mono ?_; rintro e w' ⟨rfl, rfl⟩)
        | (go_at_call 82; refine HIX.out.mono ?_; rintro e w' ⟨rfl, rfl⟩))
      go_ret
      exact ⟨ret_bool (by unfold manyB; rw [HM.out, decide_eq_true HLL.out, Bool.eq_iff_iff]; simp), rfl⟩
  · have hll : ¬ (xs.length : Int) ≤ 64 := by omega
    have HLL := Lib.hid hl
    go_enter Tryd.func53, Tryd.ntmps53
    go_wp2
    go_ret
    exact ⟨ret_bool (by unfold manyB; rw [decide_eq_false HLL.out]; simp), rfl⟩

theorem many_len {xs : List Int} (h : manyB xs = true) : xs.length ≤ 64 := by
  unfold manyB at h
  simp only [Bool.and_eq_true, decide_eq_true_eq] at h
  exact h.1.1

/-- The value of a variable in point n. -/
def bitOf (n : Int) (i : Nat) : Int := Go.bits .and .u64 (n / 2 ^ min i 64) 1
def pointP (n : Int) (k : Nat) (xs : List Int) : List Int := xs.mapIdx fun i x => if i < k ∧ bitOf n i = 0 then -x else x
def pointL (n : Int) (xs : List Int) : List Int := pointP n xs.length xs

theorem pointP_len (n : Int) (k : Nat) (xs : List Int) : (pointP n k xs).length = xs.length := by simp [pointP]
theorem pointP_get (n : Int) (k : Nat) (xs : List Int) (i : Nat) (hi : i < xs.length) : (pointP n k xs)[i]'(by rw [pointP_len]; exact hi) = if i < k ∧ bitOf n i = 0 then -xs[i] else xs[i] := by simp [pointP]
theorem pointP_zero (n : Int) (xs : List Int) : pointP n 0 xs = xs := by
  refine List.ext_getElem (pointP_len ..) fun i h1 h2 => ?_
  rw [pointP_get n 0 xs i h2, if_neg (by omega)]
theorem pointP_neg (n : Int) (k : Nat) (xs : List Int) (hk : k < xs.length) (hb : bitOf n k = 0) : pointP n (k + 1) xs = (pointP n k xs).set k (-xs[k]) := by
  refine List.ext_getElem (by simp [pointP_len]) fun i h1 h2 => ?_
  have hi : i < xs.length := by rw [pointP_len] at h1; exact h1
  rw [pointP_get n (k + 1) xs i hi, List.getElem_set]
  by_cases e : k = i
  · subst e; rw [if_pos ⟨by omega, hb⟩, if_pos rfl]
  · rw [if_neg e, pointP_get n k xs i hi]
    by_cases hl : i < k
    · simp [hl, show i < k + 1 by omega]
    · simp [hl, show ¬ i < k + 1 by omega]
theorem pointP_pos (n : Int) (k : Nat) (xs : List Int) (hb : bitOf n k ≠ 0) : pointP n (k + 1) xs = pointP n k xs := by
  refine List.ext_getElem (by simp [pointP_len]) fun i h1 h2 => ?_
  have hi : i < xs.length := by rw [pointP_len] at h1; exact h1
  rw [pointP_get n (k + 1) xs i hi, pointP_get n k xs i hi]
  by_cases e : k = i
  · subst e; simp [hb]
  · by_cases hl : i < k
    · simp [hl, show i < k + 1 by omega]
    · simp [hl, show ¬ i < k + 1 by omega]

theorem many_get {xs : List Int} (h : manyB xs = true) (k : Nat) (hk : k < xs.length) : 0 < xs[k] ∧ xs[k] ≤ 65536 := by
  unfold manyB at h
  simp only [Bool.and_eq_true, List.all_eq_true, decide_eq_true_eq] at h
  have h1 := h.2 _ (List.getElem_mem hk)
  have h2 := ((mayB_iff _).1 h.1.2).2 _ (List.getElem_mem hk)
  have h3 := varOf_range xs[k]
  have h4 := varOf_eq (n := xs[k]) (by omega)
  omega

set_option maxHeartbeats 1000000 in
theorem point_good (xs : List Int) (n : Int) (v : Value) (w : World) (h64 : All64 xs) (hr : RI w v xs) (hm : manyB xs = true) (hn : n / 2 ^ xs.length = 0) :
    Calls Tryd.prog 19 #[v, .int .u64 n] w fun e w' => ∃ v', e = .returned (.tuple #[v', .int .i64 0]) ∧ OwnI w' w.heap.size v' (pointL n xs) ∧ Ext w w' := by
  have HL := Lib.hid (many_any xs v w h64 hr)
  rw [hm] at HL
  have HM := Lib.hid hm
  have hml := many_len hm
  have HC := Lib.hid (cloneI_any v xs w hr (by omega))
  have hns : ¬ 0 < n / 2 ^ xs.length := by rw [hn]; omega
  obtain ⟨A, c, rfl, h1, h2, h3⟩ := hr
  clear hm h3 hn
  go_enter Tryd.func19, Tryd.ntmps19
  go_wp2_with (first
    | (go_at_call 53; refine HL.out.mono ?_; rintro e w' ⟨rfl, rfl⟩)
    | (go_at_call 13; refine HC.out.mono ?_; rintro e w1 ⟨v', rfl, hown, hE⟩; obtain ⟨OA, oc, rfl, ho1, ho2, -⟩ := hown.reads; have HOWN := Lib.hid hown; have HE := Lib.hid hE; clear hown hE))
  go_loopg [22] xs.length (fun gn i wr => ∃ k : Nat, k ≤ xs.length ∧ gn + k = xs.length ∧ i = .int .i64 k ∧ Hid (OwnI wr w.heap.size (.slice OA xs.length oc) (pointP n k xs) ∧ Ext w wr))
  case atStart => exact ⟨0, Nat.zero_le _, by omega, rfl, by rw [pointP_zero]; exact HOWN.out, HE.out⟩
  case round =>
    obtain ⟨k, hk, hgk, rfl, HS⟩ := hrel
    by_cases hlt : k < xs.length
    · obtain ⟨g, c', hv, hBg, hcell, hfree, hset⟩ := own_at (Value.int .i64) HS.out.1 k (by rw [pointP_len]; exact hlt)
      injection hv with e1 e2 e3
      subst e1 e3
      obtain ⟨hx0, hx1⟩ := many_get HM.out k hlt
      rw [pointP_get n k xs k hlt, if_neg (by omega)] at hcell
      have HSET := Lib.hid hset
      have HBG := Lib.hid hBg
      clear e2 hset hBg
      obtain ⟨x, hx⟩ : ∃ x, x = xs[k] := ⟨_, rfl⟩
      rw [← hx] at hcell hx0 hx1
      have HX := Lib.hid hx
      clear hx
      have hkm : min k 64 = k := by omega
      by_cases hb : bitOf n k = 0
      · have hbb : (Go.bits .and .u64 (n / 2 ^ k) 1 == 0) = true := by unfold bitOf at hb; rw [hkm] at hb; rw [hb]; rfl
        have HB := Lib.hid hb
        clear hb hkm
        go_wp2
        go_roundg (xs.length - (k + 1))
        case measure => omega
        case rel =>
          refine ⟨k + 1, by omega, by omega, by go_num, ?_, (Chg.set wr g k _).toExt HS.out.2 (fun i hi => hi ▸ HBG.out)⟩
          rw [pointP_neg n k xs hlt HB.out, ← HX.out]
          unfold OwnI
          rw [List.length_set]
          exact HSET.out (-x)
      · have hbb : (Go.bits .and .u64 (n / 2 ^ k) 1 == 0) = false := by unfold bitOf at hb; rw [hkm] at hb; rw [beq_eq_false_iff_ne]; exact hb
        have HB := Lib.hid hb
        clear hb hkm
        go_wp2
        go_roundg (xs.length - (k + 1))
        case measure => omega
        case rel => exact ⟨k + 1, by omega, by omega, by go_num, by rw [pointP_pos n k xs HB.out]; exact HS.out⟩
    · obtain rfl : k = xs.length := by omega
      go_wp2
      go_ret2
      exact ⟨_, rfl, HS.out.1, HS.out.2⟩

def PointV (n : Int) (xs : List Int) : List Int × Int := if manyB xs = true then (if n / 2 ^ xs.length = 0 then (pointL n xs, 0) else ([], 4)) else ([], 2)

set_option maxHeartbeats 1000000 in
theorem Point_any (xs : List Int) (n : Int) (hn0 : 0 ≤ n) (_hn1 : n < 18446744073709551616) (v : Value) (w : World) (h64 : All64 xs) (hr : RI w v xs) :
    Calls Tryd.prog 19 #[v, .int .u64 n] w fun e w' => ∃ v', e = .returned (.tuple #[v', .int .i64 (PointV n xs).2]) ∧ OwnI w' w.heap.size v' (PointV n xs).1 ∧ Ext w w' := by
  unfold PointV
  have HL := Lib.hid (many_any xs v w h64 hr)
  cases hm : manyB xs
  · rw [hm] at HL
    rw [if_neg (by decide)]
    obtain ⟨A, c, rfl, h1, h2, h3⟩ := hr
    clear hm h3
    go_enter Tryd.func19, Tryd.ntmps19
    go_wp2_with (go_at_call 53; refine HL.out.mono ?_; rintro e w' ⟨rfl, rfl⟩)
    go_ret2
    exact ⟨_, rfl, OwnI.nil _ _, Ext.refl _⟩
  · by_cases hn : n / 2 ^ xs.length = 0
    · rw [if_pos rfl, if_pos hn]
      exact point_good xs n v w h64 hr hm hn
    · rw [if_pos rfl, if_neg hn]
      rw [hm] at HL
      have hml := many_len hm
      have hpos : 0 ≤ n / 2 ^ xs.length := Int.ediv_nonneg hn0 (Int.le_of_lt (Int.pow_pos (by decide)))
      have hns : 0 < n / 2 ^ xs.length := by omega
      obtain ⟨A, c, rfl, h1, h2, h3⟩ := hr
      clear hm h3 hn hpos
      go_enter Tryd.func19, Tryd.ntmps19
      go_wp2_with (go_at_call 53; refine HL.out.mono ?_; rintro e w' ⟨rfl, rfl⟩)
      go_ret2
      exact ⟨_, rfl, OwnI.nil _ _, Ext.refl _⟩

/-! ### Number -/
theorem fv_number1 : Fv Tryd.prog 56 := ⟨_, Tryd.func56, by kernel_rfl, by kernel_rfl⟩
set_option maxHeartbeats 400000 in
theorem number1_fn (y x : Int) (hx : I64 x) (w : World) : Calls Tryd.prog 56 #[.int .i64 y, .int .i64 x] w fun e w' => e = .returned (.bool (y == varOf x)) ∧ w = w' := by
  go_enter Tryd.func56, Tryd.ntmps56
  go_wp2_with (go_at_call 57; refine (var_any x hx _).mono ?_; rintro e w' ⟨rfl, rfl⟩)
  go_ret
  exact ⟨rfl, rfl⟩

/-- EqualFunc over two rows of integers. -/
def eqfB (p : Int → Int → Bool) : List Int → List Int → Bool
  | [], [] => true
  | x :: xs, y :: ys => p x y && eqfB p xs ys
  | _, _ => false
theorem eqfB_iff (p : Int → Int → Bool) : ∀ (xs ys : List Int), eqfB p xs ys = true ↔ xs.length = ys.length ∧ ∀ i (h : i < xs.length) (h' : i < ys.length), p xs[i] ys[i] = true
  | [], [] => by simp [eqfB]
  | [], _ :: _ => by simp [eqfB]
  | _ :: _, [] => by simp [eqfB]
  | x :: xs, y :: ys => by
    unfold eqfB
    rw [Bool.and_eq_true, eqfB_iff p xs ys]
    constructor
    · rintro ⟨h1, h2, h3⟩
      refine ⟨by simp [h2], fun i h h' => ?_⟩
      cases i with
      | zero => exact h1
      | succ i => exact h3 i (by simpa using h) (by simpa using h')
    · rintro ⟨h1, h2⟩
      exact ⟨h2 0 (by simp) (by simp), by simpa using h1, fun i h h' => by have := h2 (i + 1) (by simpa using h) (by simpa using h'); simpa using this⟩

set_option maxHeartbeats 1000000 in
theorem equalFunc_any (f : FuncId) (cap : Array Value) (hf : Fv Tryd.prog f) (p : Int → Int → Bool) (xs ys : List Int) (v u : Value) (w : World) (hr : RI w v xs) (kr : RI w u ys)
    (hcl : ∀ i (h : i < xs.length) (h' : i < ys.length), Calls Tryd.prog f (#[.int .i64 xs[i], .int .i64 ys[i]] ++ cap) w fun e w' => e = .returned (.bool (p xs[i] ys[i])) ∧ w = w') :
    Calls Tryd.prog 55 #[v, u, .func (.func f) #[] cap] w fun e w' => e = .returned (.bool (eqfB p xs ys)) ∧ w = w' := by
  obtain ⟨A, c, rfl, h1, h2, h3⟩ := hr
  obtain ⟨B, d, rfl, k1, k2, k3⟩ := kr
  have H3 := Lib.hid h3
  have K3 := Lib.hid k3
  have HCL := Lib.hid hcl
  clear h3 k3 hcl
  by_cases hl : xs.length = ys.length
  · have HLN := Lib.hid hl
    have hne : ((xs.length : Int) != (ys.length : Int)) = false := by rw [hl]; simp
    clear hl
    go_enter Tryd.func55, Tryd.ntmps55
    go_wp2
    go_loopg [17] xs.length (fun gn i wr => ∃ k : Nat, k ≤ xs.length ∧ gn + k = xs.length ∧ i = .int .i64 k ∧ w = wr ∧ Hid (∀ i (h : i < xs.length) (h' : i < ys.length), i < k → p xs[i] ys[i] = true))
    case atStart => exact ⟨0, Nat.zero_le _, by omega, rfl, rfl, fun i _ _ h => absurd h (Nat.not_lt_zero i)⟩
    case round =>
      obtain ⟨k, hk, hgk, rfl, rfl, HP⟩ := hrel
      by_cases hkx : k < xs.length
      · have hlt : k < ys.length := by have := HLN.out; omega
        obtain ⟨ad, rfl, hx⟩ := H3.out.int k hkx
        obtain ⟨bd, rfl, hy⟩ := K3.out.int k hlt
        cases hp : p xs[k] ys[k]
        · have HC := Lib.hid (HCL.out k hkx hlt)
          rw [hp] at HC
          have HPP := Lib.hid hp
          clear hp
          go_wp2_with (refine wpList_callv (.tmp 26) #[.tmp 27, .tmp 28] _ rfl rfl cap rfl hf (#[.int .i64 xs[k], .int .i64 ys[k]] ++ cap) (by simp only [List.map_toArray, List.map_cons, List.map_nil]; rfl) ?_; refine HC.out.mono ?_; rintro e w' ⟨rfl, rfl⟩; refine ⟨_, rfl, ?_⟩)
          go_ret
          exact ⟨ret_bool (by cases hq : eqfB p xs ys; rfl; exact absurd (((eqfB_iff p xs ys).1 hq).2 k hkx hlt) (by rw [HPP.out]; decide)), rfl⟩
        · have HC := Lib.hid (HCL.out k hkx hlt)
          rw [hp] at HC
          have HPP := Lib.hid hp
          clear hp
          go_wp2_with (refine wpList_callv (.tmp 26) #[.tmp 27, .tmp 28] _ rfl rfl cap rfl hf (#[.int .i64 xs[k], .int .i64 ys[k]] ++ cap) (by simp only [List.map_toArray, List.map_cons, List.map_nil]; rfl) ?_; refine HC.out.mono ?_; rintro e w' ⟨rfl, rfl⟩; refine ⟨_, rfl, ?_⟩)
          go_roundg (xs.length - (k + 1))
          case measure => omega
          case rel => exact ⟨k + 1, by omega, by omega, by go_num, rfl, fun i h h' hi => if e : i = k then by subst e; exact HPP.out else HP.out i h h' (by omega)⟩
      · obtain rfl : k = xs.length := by omega
        go_wp2
        go_ret
        exact ⟨ret_bool ((eqfB_iff p xs ys).2 ⟨HLN.out, fun i h h' => HP.out i h h' h⟩).symm, rfl⟩
  · have HLN := Lib.hid hl
    have hne : ((xs.length : Int) != (ys.length : Int)) = true := by simpa using (show ¬ (xs.length : Int) = (ys.length : Int) by omega)
    clear hl
    go_enter Tryd.func55, Tryd.ntmps55
    go_wp2
    go_ret
    exact ⟨ret_bool (by cases hq : eqfB p xs ys; rfl; exact absurd ((eqfB_iff p xs ys).1 hq).1 HLN.out), rfl⟩

/-- The number of an assignment: bit i is set where the i-th literal is positive. -/
def numL (xs : List Int) : Nat → Int
  | 0 => 0
  | k + 1 => if 0 < xs.getD k 0 then Go.bits .or .u64 (numL xs k) (IntKind.u64.wrap (2 ^ min k 64)) else numL xs k
def NumberV (vs xs : List Int) : Int × Int := if manyB vs = true ∧ mayB xs = true then (if eqfB (fun v x => v == varOf x) vs xs = true then (numL xs xs.length, 0) else (0, 6)) else (0, 2)

set_option maxHeartbeats 1000000 in
theorem Number_any (vs xs : List Int) (v u : Value) (w : World) (h64 : All64 vs) (k64 : All64 xs) (hr : RI w v vs) (kr : RI w u xs) :
    Calls Tryd.prog 21 #[v, u] w fun e w' => e = .returned (.tuple #[.int .u64 (NumberV vs xs).1, .int .i64 (NumberV vs xs).2]) ∧ w = w' := by
  unfold NumberV
  have HL := Lib.hid (many_any vs v w h64 hr)
  have KL := Lib.hid (may_any _ xs _ kr k64)
  have HEF := Lib.hid (equalFunc_any 56 #[] fv_number1 (fun v x => v == varOf x) vs xs v u w hr kr (fun i h h' => number1_fn _ _ (k64 _ (List.getElem_mem h')) w))
  cases hm : manyB vs
  · rw [hm] at HL
    clear hm
    obtain ⟨A, c, rfl, h1, h2, h3⟩ := hr
    obtain ⟨B, d, rfl, k1, k2, k3⟩ := kr
    rw [if_neg (by simp)]
    clear h3 k3
    go_enter Tryd.func21, Tryd.ntmps21
    go_wp2_with (go_at_call 53; refine HL.out.mono ?_; rintro e w' ⟨rfl, rfl⟩)
    go_ret2
    exact ⟨rfl, rfl⟩
  · rw [hm] at HL
    cases km : mayB xs
    · rw [km] at KL
      clear hm km
      obtain ⟨A, c, rfl, h1, h2, h3⟩ := hr
      obtain ⟨B, d, rfl, k1, k2, k3⟩ := kr
      rw [if_neg (by simp)]
      clear h3 k3
      go_enter Tryd.func21, Tryd.ntmps21
      go_wp2_with (first
        | (go_at_call 53; refine HL.out.mono ?_; rintro e w' ⟨rfl, rfl⟩)
        | (go_at_call 43; refine KL.out.mono ?_; rintro e w' ⟨rfl, rfl⟩))
      go_ret2
      exact ⟨rfl, rfl⟩
    · rw [km] at KL
      rw [if_pos ⟨rfl, rfl⟩]
      have hml := many_len hm
      clear hm km
      cases he : eqfB (fun v x => v == varOf x) vs xs
      · rw [he] at HEF
        obtain ⟨A, c, rfl, h1, h2, h3⟩ := hr
        obtain ⟨B, d, rfl, k1, k2, k3⟩ := kr
        rw [if_neg (by simp)]
        clear h3 k3 he
        go_enter Tryd.func21, Tryd.ntmps21
        go_wp2_with (first
          | (go_at_call 53; refine HL.out.mono ?_; rintro e w' ⟨rfl, rfl⟩)
          | (go_at_call 43; refine KL.out.mono ?_; rintro e w' ⟨rfl, rfl⟩)
          | (go_at_call 55; refine HEF.out.mono ?_; rintro e w' ⟨rfl, rfl⟩))
        go_ret2
        exact ⟨rfl, rfl⟩
      · rw [he] at HEF
        have hle := ((eqfB_iff _ _ _).1 he).1
        obtain ⟨A, c, rfl, h1, h2, h3⟩ := hr
        obtain ⟨B, d, rfl, k1, k2, k3⟩ := kr
        rw [if_pos rfl]
        have K3 := Lib.hid k3
        have hxl : xs.length ≤ 64 := by omega
        clear h3 k3 he hle
        go_enter Tryd.func21, Tryd.ntmps21
        go_wp2_with (first
          | (go_at_call 53; refine HL.out.mono ?_; rintro e w' ⟨rfl, rfl⟩)
          | (go_at_call 43; refine KL.out.mono ?_; rintro e w' ⟨rfl, rfl⟩)
          | (go_at_call 55; refine HEF.out.mono ?_; rintro e w' ⟨rfl, rfl⟩))
        go_loopg [6, 25] xs.length (fun gn s i wr => ∃ k : Nat, k ≤ xs.length ∧ gn + k = xs.length ∧ i = .int .i64 k ∧ w = wr ∧ s = .int .u64 (numL xs k))
        case atStart => exact ⟨0, Nat.zero_le _, by omega, rfl, rfl, rfl⟩
        case round =>
          obtain ⟨k, hk, hgk, rfl, rfl, rfl⟩ := hrel
          by_cases hlt : k < xs.length
          · obtain ⟨bd, rfl, hy⟩ := K3.out.int k hlt
            have hg : xs.getD k 0 = xs[k] := by simp [hlt]
            obtain ⟨y, hy'⟩ : ∃ y, y = xs[k] := ⟨_, rfl⟩
            obtain ⟨q, hq⟩ : ∃ q, q = numL xs k := ⟨_, rfl⟩
            rw [← hy'] at hy hg
            rw [← hq]
            have HY := Lib.hid hy'
            have HG := Lib.hid hg
            have HQ := Lib.hid hq
            clear hy' hg hq
            by_cases hpos : 0 < y
            · have hwr : IntKind.u64.wrap (2 ^ min k 64) = IntKind.u64.wrap (2 ^ k) := by rw [show min k 64 = k by omega]
              have HWR := Lib.hid hwr
              have HPOS := Lib.hid hpos
              clear hwr
              go_wp2
              go_roundg (xs.length - (k + 1))
              case measure => omega
              case rel =>
                refine ⟨k + 1, by omega, by omega, by go_num, rfl, ?_⟩
                unfold numL
                rw [HG.out, if_pos HPOS.out, ← HQ.out, HWR.out]
            · have HPOS := Lib.hid hpos
              go_wp2
              go_roundg (xs.length - (k + 1))
              case measure => omega
              case rel =>
                refine ⟨k + 1, by omega, by omega, by go_num, rfl, ?_⟩
                unfold numL
                rw [HG.out, if_neg (by have := HPOS.out; omega), ← HQ.out]
          · obtain rfl : k = xs.length := by omega
            go_wp2
            go_ret2
            exact ⟨rfl, rfl⟩

end Go.Proofs.YteokoaggkpjdeaaDoor
