/- Appends onto rows of integers of the call's own: one element, a whole slice (nil too), in the walk and in a region that draws. Walks of cmp.Compare, lits.merge, lits.Join, asg.Agree. Walks of lits.Join and asg.Agree. Literals, rows of steps, the values of the chapter's examples. -/
import Derived.Test.YteokoaggkpjdeaaDoorGb
import Derived.Laws.AppendOwnNone
import Derived.Test.YteokoaggkpjdeaaDoorGa
import Derived.Deep.CutRange
import Derived.Test.YteokoaggkpjdeaaDoorGd
namespace Go.Proofs.YteokoaggkpjdeaaDoor
open Go.RowKit

/-- The append of a nil slice, whatever its capacity is said to be. -/
theorem run_append_none {P : Program} {w : World} {base : Nat} {t ty e : TypeId} {i : TypeInfo} {size : Nat} (ht : P.underlying t = some (.slice e)) (hi : P.info? e = some i) {v : Value} {n : Nat} {xs : List Value} (hown : w.ownsRow base e size v n xs) (c : Nat) :
    (Builtin.append_ #[t, t] ty #[v, .slice none 0 c]).run P w = .ok v w := by
  rcases hown.2 with ⟨rfl, rfl⟩ | ⟨g, cap, cur, rfl, _, _, hnc, _⟩
  · simp [Builtin.append_, run_underlying ht, sizeOf, typeInfo, hi, Builtin.lenOf, Builtin.firstCells]
  · simp [Builtin.append_, run_underlying ht, sizeOf, typeInfo, hi, Builtin.lenOf, Builtin.firstCells, hnc, storeCells]

/-- append(out, xs...), both of integers. -/
theorem app_I {ops : Array Oper} {rest : List Oper} {o : Oper} {a : Act} {Q : Exit → Act → World → Prop} {w : World} (hgd : o.guard = none) (s x : Operand)
    (ho : o.op = .call { callee := .builtin .append, args := #[s, x], argTypes := #[22, 22] })
    {base : Nat} {v u : Value} {xs ys : List Int} (hs : a.eval s = v) (hx : a.eval x = u) (hown : OwnI w base v xs) (hsrc : RI w u ys) (hl : xs.length + ys.length ≤ 10000000) (hbase : base ≤ w.heap.size)
    (h : ∀ v' w', OwnI w' base v' (xs ++ ys) → w.grownBy w' v.ownBlock → wpList Tryd.prog ops Q rest (a.put o.dst v') w') : wpList Tryd.prog ops Q (o :: rest) a w := by
  obtain ⟨i0, hi, hz0, hz1, hz2⟩ := info_parts info_int
  obtain ⟨A, c, rfl, h1, h2, h3⟩ := hsrc
  cases A with
  | none =>
    have h4 := h3.nil
    have h5 : ys = [] := by simpa using h4
    subst h5
    refine wpList_plain hgd fun K hK => ?_
    have hrun := run_append_none (ty := o.type) Tryd.underlying22 hi hown c
    unfold Oper.wp
    simp [execOp, ho, resolve, invoke, builtin, hs, hx, hrun, Result.andThen]
    exact hK _ _ (h v w (by rw [List.append_nil]; exact hown) ⟨rfl, rfl, rfl, Nat.le_refl _, fun _ _ _ => rfl⟩)
  | some ad =>
    refine wpList_append_own w hgd s x 22 ho base 3 i0 (.int .i64 0) 1 8 Tryd.underlying22 hi hz0 hz1 hz2 rfl (by decide) v xs.length (xs.map (Value.int .i64)) hs hown ad ys.length c (ys.map (Value.int .i64)) hx (by simp) h3.cells (by simp [Value.oneCell']) (by unfold maxLen; omega) (by omega) hbase ?_
    intro v' w' ho' hg _
    exact h v' w' (by unfold OwnI; rw [List.length_append, List.map_append]; exact ho') hg

theorem app_1w {o : Oper} {a : Act} {K : Act → World → Prop} {Q : Exit → Act → World → Prop} {w : World} (s x : Operand)
    (ho : o.op = .call { callee := .builtin .append, args := #[s, x], argTypes := #[22, 22] })
    {base g : Nat} {v : Value} {xs : List Int} {y : Int} (hs : a.eval s = v) (hx : a.eval x = .slice (some ⟨g, 0, none⟩) 1 1) (hc : w.cell? ⟨g, 0, none⟩ = some (.int .i64 y)) (hown : OwnI w base v xs) (hl : xs.length ≤ 10000000) (hbase : base ≤ w.heap.size)
    (h : ∀ v' w', OwnI w' base v' (xs ++ [y]) → w.grownBy w' v.ownBlock → K (a.put o.dst v') w') : o.wp Tryd.prog a w K Q := by
  obtain ⟨i0, hi, hz0, hz1, hz2⟩ := info_parts info_int
  refine wp_append_own w s x 22 ho base 3 i0 (.int .i64 0) 1 8 Tryd.underlying22 hi hz0 hz1 hz2 rfl (by decide) v xs.length (xs.map (Value.int .i64)) hs hown ⟨g, 0, none⟩ 1 1 [.int .i64 y] hx rfl (fun j u hj => ?_) (by simp [Value.oneCell']) (by unfold maxLen; omega) (by omega) hbase ?_
  · obtain ⟨hj, he⟩ := List.getElem?_eq_some_iff.1 hj
    obtain rfl : j = 0 := by simpa using hj
    rw [addr0, hc]; simpa using he
  · intro v' w' ho' hg _
    exact h v' w' (by unfold OwnI; rw [List.length_append, List.map_append]; exact ho') hg

/-- append(out, y): the world behind the making of the one-cell slice. -/
theorem app_1 {ops : Array Oper} {rest : List Oper} {o : Oper} {a : Act} {Q : Exit → Act → World → Prop} {w : World} (hgd : o.guard = none) (s x : Operand)
    (ho : o.op = .call { callee := .builtin .append, args := #[s, x], argTypes := #[22, 22] })
    {base : Nat} {v : Value} {xs : List Int} {y : Int} (hs : a.eval s = v) (hx : a.eval x = .slice (some ⟨w.heap.size, 0, none⟩) 1 1) (hown : OwnI w base v xs) (hl : xs.length ≤ 10000000) (hbase : base ≤ w.heap.size)
    (h : ∀ v' w', OwnI w' base v' (xs ++ [y]) → Chg (fun i => some i = v.ownBlock) w w' → wpList Tryd.prog ops Q rest (a.put o.dst v') w') : wpList Tryd.prog ops Q (o :: rest) a (w.alloc (.cells #[.int .i64 y] 3)) :=
  wpList_plain hgd fun _ hK => app_1w s x ho hs hx (Var1.new w 3 (.int .i64 y)).cell (own_ext hown (Ext.alloc w _)) hl (by simp; omega) fun v' w' h1 h2 => hK _ _ (h v' w' h1 (((Ext.alloc w _).chg _).trans (grown_chg h2)))

/-- .. at a step of a region that draws. -/
theorem step_app_1 {ops : Array Oper} {o : Oper} {a : Act} {K : Act → World → Prop} {Q : Exit → Act → World → Prop} {E : Prop} {w : World} (hgd : o.guard = none) (s x : Operand)
    (ho : o.op = .call { callee := .builtin .append, args := #[s, x], argTypes := #[22, 22] })
    {base g : Nat} {v : Value} {xs : List Int} {y : Int} (hs : a.eval s = v) (hx : a.eval x = .slice (some ⟨g, 0, none⟩) 1 1) (hc : w.cell? ⟨g, 0, none⟩ = some (.int .i64 y)) (hown : OwnI w base v xs) (hl : xs.length ≤ 10000000) (hbase : base ≤ w.heap.size)
    (h : ∀ v' w', OwnI w' base v' (xs ++ [y]) → w.grownBy w' v.ownBlock → K (a.put o.dst v') w') :
    if Region.wanted o (yielded ops a.tmps) = true then Oper.wp Tryd.prog o a w K Q else E := by
  have hw : Region.wanted o (yielded ops a.tmps) = true := by simp [Region.wanted, hgd]
  rw [if_pos hw]
  exact app_1w s x ho hs hx hc hown hl hbase h

/-- xs[1:] of a slice that reads as x :: xs. -/
theorem RI.tail {w : World} {A : Option Addr} {c : Nat} {x : Int} {xs : List Int} (h : RI w (.slice A (xs.length + 1) c) (x :: xs)) : RI w (.slice (if c = 1 then A else A.map (·.add 1)) xs.length (c - 1)) xs := by
  obtain ⟨-, h1, h2, h3⟩ := h.row
  simp only [List.length_cons] at h1 h2
  refine ⟨_, _, rfl, by omega, by omega, fun j hj => ?_⟩
  rw [List.length_map] at hj
  rw [if_neg (by omega)]
  obtain ⟨ad, rfl, hc⟩ := h3 (j + 1) (by simpa using hj)
  refine ⟨ad.add 1, rfl, ?_⟩
  rw [show (ad.add 1).add j = ad.add (j + 1) by unfold Addr.add; split <;> simp_all <;> omega, hc]
  simp
theorem RI.head {w : World} {A : Option Addr} {n c : Nat} {x : Int} {xs : List Int} (h : RI w (.slice A n c) (x :: xs)) : n = xs.length + 1 ∧ xs.length + 1 ≤ c ∧ xs.length + 1 ≤ 9223372036854775807 ∧ ∃ ad, A = some ad ∧ w.cell? ad = some (.int .i64 x) ∧ w.cell? (ad.add 0) = some (.int .i64 x) := by
  obtain ⟨h0, h1, h2, h3⟩ := h.row
  obtain ⟨ad, rfl, hc⟩ := h3.int 0 (by simp)
  simp only [List.length_cons] at h0 h1 h2
  refine ⟨h0, h1, h2, ad, rfl, ?_, by simpa using hc⟩
  rw [show ad.add 0 = ad by unfold Addr.add; split <;> simp_all] at hc
  simpa using hc

/-- A call of a function value in a quiet region. -/
theorem wpQuiet_callv {P : Program} {ops : Array Oper} {W : World} {Q : Act → Prop} {rest : List Oper} {o : Oper} {a : Act} (x : Operand) (ys : Array Operand) (ts : Array TypeId)
    (ho : o.op = .call { callee := .value x, args := ys, argTypes := ts }) (hw : Region.wanted o (yielded ops a.tmps) = true) {f : FuncId} (cap : Array Value) (hv : a.eval x = .func (.func f) #[] cap) (hf : Fv P f)
    (args : Array Value) (ha : ys.map a.eval ++ cap = args) (v : Value) (h : ∀ n, Calls P f args (W.drewN n) fun e w' => e = .returned v ∧ ∃ m, w' = W.drewN m)
    (hk : wpQuiet P ops (fun w' => ∃ n, w' = W.drewN n) Q rest (a.put o.dst v)) : wpQuiet P ops (fun w' => ∃ n, w' = W.drewN n) Q (o :: rest) a := by
  refine wpQuiet_step fun K hK => ?_
  rw [if_pos hw]
  refine ⟨v, fun w' hw' => ?_, hK _ hk⟩
  obtain ⟨n, rfl⟩ := hw'
  unfold Oper.quietAt
  have hrun : (execOp a.eval o).run P (W.drewN n) = .ok (.enter f args) (W.drewN n) := by
    unfold execOp
    simp [ho, resolve, Deferred.ofValue, hv, invoke, ha, run_enter hf]
  rw [hrun]
  exact ⟨rfl, h n⟩

theorem grow_ext {w0 w1 w' : World} {v : Value} {xs : List Int} (h : Ext w0 w1) (ho : OwnI w1 w0.heap.size v xs) (g : w1.grownBy w' v.ownBlock) : Ext w0 w' := h.grown g (fun _ hk => (own_typed ho hk).1)
end Go.Proofs.YteokoaggkpjdeaaDoor
namespace Go.Proofs.YteokoaggkpjdeaaDoor
open Go.RowKit

def cmpI (a b : Int) : Int := if a < b then -1 else if b < a then 1 else 0

set_option maxHeartbeats 400000 in
theorem isNaN_any (a : Int) (w : World) : Calls Tryd.prog 97 #[.int .i64 a] w fun e w' => e = .returned (.bool false) ∧ w = w' := by
  go_enter Tryd.func97, Tryd.ntmps97
  go_wp2
  go_ret
  exact ⟨by simp, rfl⟩

set_option maxHeartbeats 400000 in
theorem cmp_any (a b : Int) (w : World) : Calls Tryd.prog 87 #[.int .i64 a, .int .i64 b] w fun e w' => e = .returned (.int .i64 (cmpI a b)) ∧ w = w' := by
  by_cases h1 : a < b
  · go_enter Tryd.func87, Tryd.ntmps87
    go_wp2_with (go_at_call 97; refine (isNaN_any _ _).mono ?_; rintro e w' ⟨rfl, rfl⟩)
    go_ret
    exact ⟨ret_int (by unfold cmpI; rw [if_pos h1]), rfl⟩
  · by_cases h2 : b < a
    · go_enter Tryd.func87, Tryd.ntmps87
      go_wp2_with (go_at_call 97; refine (isNaN_any _ _).mono ?_; rintro e w' ⟨rfl, rfl⟩)
      go_ret
      exact ⟨ret_int (by unfold cmpI; rw [if_neg (by omega), if_pos h2]), rfl⟩
    · go_enter Tryd.func87, Tryd.ntmps87
      go_wp2_with (go_at_call 97; refine (isNaN_any _ _).mono ?_; rintro e w' ⟨rfl, rfl⟩)
      go_ret
      exact ⟨ret_int (by unfold cmpI; rw [if_neg (by omega), if_neg (by omega)]), rfl⟩

set_option maxHeartbeats 400000 in
theorem join1_fn (x y : Int) (w : World) : Calls Tryd.prog 65 #[.int .i64 x, .int .i64 y] w fun e w' => e = .returned (.bool (x == y)) ∧ w = w' := by
  go_enter Tryd.func65, Tryd.ntmps65
  go_wp2
  go_ret
  exact ⟨rfl, rfl⟩

/-- xs[1:] -/
theorem slice_1 (A : Option Addr) (l c : Nat) : ∀ W : World, (Instr.slice 22 (.slice A (l + 1) c) (some (.int .i64 1)) none none).run Tryd.prog W = .ok (.slice (if c = 1 then A else A.map (·.add 1)) l (c - 1)) W := by
  intro W
  have h := slice_from (P := Tryd.prog) Tryd.underlying22 info_int A (l + 1) c 1 (by omega) W
  simpa using h

theorem fv_join1 : Fv Tryd.prog 65 := ⟨_, Tryd.func65, by kernel_rfl, by kernel_rfl⟩

theorem cmp_lt {a b : Int} (h : a < b) (w : World) : Calls Tryd.prog 87 #[.int .i64 a, .int .i64 b] w fun e w' => e = .returned (.int .i64 (-1)) ∧ w = w' := by
  have := cmp_any a b w
  unfold cmpI at this
  rwa [if_pos h] at this
theorem cmp_gt {a b : Int} (h : b < a) (w : World) : Calls Tryd.prog 87 #[.int .i64 a, .int .i64 b] w fun e w' => e = .returned (.int .i64 1) ∧ w = w' := by
  have := cmp_any a b w
  unfold cmpI at this
  rwa [if_neg (by omega), if_pos h] at this
theorem cmp_eq {a b : Int} (h : a = b) (w : World) : Calls Tryd.prog 87 #[.int .i64 a, .int .i64 b] w fun e w' => e = .returned (.int .i64 0) ∧ w = w' := by
  have := cmp_any a b w
  unfold cmpI at this
  rwa [if_neg (by omega), if_neg (by omega)] at this

/-- The state of a merge. -/
structure MS (p : Int → Int → Bool) (w wr : World) (xs ys : List Int) (va vb vo : Value) (la lb lo : List Int) : Prop where
  ra : RI w va la
  rb : RI w vb lb
  ro : OwnI wr w.heap.size vo lo
  ext : Ext w wr
  eq : (mergeL p la lb).map (lo ++ ·) = mergeL p xs ys
  len : lo.length + la.length + lb.length ≤ xs.length + ys.length
  a64 : All64 la
  b64 : All64 lb

theorem All64.tail {x : Int} {xs : List Int} (h : All64 (x :: xs)) : All64 xs := fun y hy => h y (by simp [hy])

section
variable {p : Int → Int → Bool} {w wr w2 : World} {xs ys la lb lo : List Int} {vb vo vo' : Value} {A B : Option Addr} {c d : Nat} {x y : Int} {na nb : Nat}
theorem MS.left {A' : Option Addr} (h : MS p w wr xs ys (.slice A (na + 1) c) vb vo (x :: la) (y :: lb) lo) (hA : A' = if c = 1 then A else A.map (·.add 1)) (hna : na = la.length) (hlt : varOf x < varOf y) (ho : OwnI w2 w.heap.size vo' (lo ++ [x])) (he : Ext w w2) :
    MS p w w2 xs ys (.slice A' na (c - 1)) vb vo' la (y :: lb) (lo ++ [x]) := by
  subst hna hA
  have h1 := h.eq
  rw [mergeL, if_pos hlt, Option.map_map] at h1
  refine ⟨h.ra.tail, h.rb, ho, he, ?_, by have := h.len; simp only [List.length_cons, List.length_append, List.length_nil] at *; omega, h.a64.tail, h.b64⟩
  rw [← h1]
  congr 1
  funext l
  simp
theorem MS.right {va : Value} {B' : Option Addr} (h : MS p w wr xs ys va (.slice B (nb + 1) d) vo (x :: la) (y :: lb) lo) (hB : B' = if d = 1 then B else B.map (·.add 1)) (hnb : nb = lb.length) (hlt : varOf y < varOf x) (ho : OwnI w2 w.heap.size vo' (lo ++ [y])) (he : Ext w w2) :
    MS p w w2 xs ys va (.slice B' nb (d - 1)) vo' (x :: la) lb (lo ++ [y]) := by
  subst hnb hB
  have h1 := h.eq
  rw [mergeL, if_neg (by omega), if_pos hlt, Option.map_map] at h1
  refine ⟨h.ra, h.rb.tail, ho, he, ?_, by have := h.len; simp only [List.length_cons, List.length_append, List.length_nil] at *; omega, h.a64, h.b64.tail⟩
  rw [← h1]
  congr 1
  funext l
  simp
theorem MS.both {A' B' : Option Addr} (h : MS p w wr xs ys (.slice A (na + 1) c) (.slice B (nb + 1) d) vo (x :: la) (x :: lb) lo) (hA : A' = if c = 1 then A else A.map (·.add 1)) (hB : B' = if d = 1 then B else B.map (·.add 1)) (hna : na = la.length) (hnb : nb = lb.length) (hp : p x x = true) (ho : OwnI w2 w.heap.size vo' (lo ++ [x])) (he : Ext w w2) :
    MS p w w2 xs ys (.slice A' na (c - 1)) (.slice B' nb (d - 1)) vo' la lb (lo ++ [x]) := by
  subst hna hnb hA hB
  have h1 := h.eq
  rw [mergeL, if_neg (by omega), if_neg (by omega), if_neg (by rw [hp]; decide), if_pos rfl, Option.map_map] at h1
  refine ⟨h.ra.tail, h.rb.tail, ho, he, ?_, by have := h.len; simp only [List.length_cons, List.length_append, List.length_nil] at *; omega, h.a64.tail, h.b64.tail⟩
  rw [← h1]
  congr 1
  funext l
  simp
theorem MS.drop {A' B' : Option Addr} (h : MS p w wr xs ys (.slice A (na + 1) c) (.slice B (nb + 1) d) vo (x :: la) (y :: lb) lo) (hA : A' = if c = 1 then A else A.map (·.add 1)) (hB : B' = if d = 1 then B else B.map (·.add 1)) (hna : na = la.length) (hnb : nb = lb.length) (hv : varOf x = varOf y) (hne : x ≠ y) (hp : p x y = true) (he : Ext wr w2) :
    MS p w w2 xs ys (.slice A' na (c - 1)) (.slice B' nb (d - 1)) vo la lb lo := by
  subst hna hnb hA hB
  have h1 := h.eq
  rw [mergeL, if_neg (by omega), if_neg (by omega), if_neg (by rw [hp]; decide), if_neg hne] at h1
  exact ⟨h.ra.tail, h.rb.tail, own_ext h.ro he, h.ext.trans he, h1, by have := h.len; simp only [List.length_cons] at *; omega, h.a64.tail, h.b64.tail⟩
theorem MS.stop {va : Value} (h : MS p w wr xs ys va vb vo (x :: la) (y :: lb) lo) (hv : varOf x = varOf y) (hp : p x y = false) : mergeL p xs ys = none := by
  rw [← h.eq, mergeL, if_neg (by omega), if_neg (by omega), if_pos hp]; rfl
end

def PostMerge (w : World) (r : Option (List Int)) (e : Ending) (w' : World) : Prop := ∃ v, e = .returned (.tuple #[v, .bool r.isSome]) ∧ OwnI w' w.heap.size v (r.getD []) ∧ Ext w w'

set_option maxRecDepth 100000 in
set_option maxHeartbeats 4000000 in
theorem merge_join (xs ys : List Int) (v u : Value) (w : World) (h64 : All64 xs) (k64 : All64 ys) (hr : RI w v xs) (kr : RI w u ys) (hl : xs.length + ys.length ≤ 1000000) :
    Calls Tryd.prog 64 #[v, u, .func (.func 65) #[] #[]] w (PostMerge w (mergeL (fun x y => x == y) xs ys)) := by
  have HM0 : Hid (MS (fun x y => x == y) w w xs ys v u (.slice none 0 0) xs ys []) := Lib.hid ⟨hr, kr, OwnI.nil _ _, Ext.refl _, by cases mergeL (fun x y => x == y) xs ys <;> simp, by simp, h64, k64⟩
  obtain ⟨A0, c0, rfl, -⟩ := hr
  obtain ⟨B0, d0, rfl, -⟩ := kr
  clear h64 k64
  go_enter Tryd.func64, Tryd.ntmps64
  go_wp2
  go_loopg [0, 1, 8] (xs.length + ys.length) (fun gn a b o wr => ∃ (la lb lo : List Int) (A B : Option Addr) (c d : Nat), gn = la.length + lb.length ∧ a = .slice A la.length c ∧ b = .slice B lb.length d ∧ Hid (MS (fun x y => x == y) w wr xs ys a b o la lb lo))
  case atStart => exact ⟨xs, ys, [], A0, B0, c0, d0, rfl, rfl, rfl, HM0⟩
  case round =>
    obtain ⟨la, lb, lo, A, B, c, d, hgn, rfl, rfl, HM⟩ := hrel
    cases la with
    | nil =>
      have hlo := HM.out.len
      have heq := HM.out.eq
      rw [mergeL] at heq
      have HEQ := Lib.hid heq
      have HRA := Lib.hid (HM.out.ra.ext HM.out.ext)
      have HRB := Lib.hid (HM.out.rb.ext HM.out.ext)
      have HGN := Lib.hid hgn
      clear heq hgn
      simp only [List.length_nil] at hlo HM ⊢ HRA
      obtain ⟨nb, hnb⟩ : ∃ n, n = lb.length := ⟨_, rfl⟩
      rw [← hnb] at hlo HRB HM ⊢
      have HNB := Lib.hid hnb
      clear hnb
      go_wp2_with (at_builtin
                   with_reducible refine at_dst 78 rfl ?_
                   refine app_I rfl (.tmp 76) (.tmp 77) rfl (base := w.heap.size) (v := u8) (xs := lo) rfl rfl HM.out.ro HRA.out (by simp only [List.length_nil]; omega) HM.out.ext.size ?_
                   intro v1 w1 hown hg
                   have HOW := Lib.hid hown
                   have HEW := Lib.hid (grow_ext HM.out.ext HM.out.ro hg)
                   have HRB1 := Lib.hid (HM.out.rb.ext HEW.out)
                   clear hown hg
                   go_wp2_with (at_builtin
                                with_reducible refine at_dst 80 rfl ?_
                                refine app_I rfl (.tmp 78) (.tmp 79) rfl (base := w.heap.size) (v := v1) (xs := lo ++ []) (ys := lb) rfl rfl HOW.out HRB1.out (by rw [← HNB.out]; simp only [List.length_append, List.length_nil]; omega) HEW.out.size ?_
                                intro v2 w2 hown hg
                                have HOW2 := Lib.hid hown
                                have HEW2 := Lib.hid (grow_ext HEW.out HOW.out hg)
                                clear hown hg))
      go_ret2
      have e1 : mergeL (fun x y => x == y) xs ys = some (lo ++ lb) := by rw [← HEQ.out]; rfl
      refine ⟨v2, by rw [e1]; rfl, ?_, HEW2.out⟩
      rw [e1]
      have := HOW2.out
      rw [List.append_nil] at this
      exact this
    | cons x la =>
      cases lb with
      | nil =>
        have hlo := HM.out.len
        have heq := HM.out.eq
        rw [mergeL] at heq
        have HEQ := Lib.hid heq
        have HRA := Lib.hid (HM.out.ra.ext HM.out.ext)
        have HRB := Lib.hid (HM.out.rb.ext HM.out.ext)
        have HGN := Lib.hid hgn
        clear heq hgn
        simp only [List.length_nil] at hlo HM HRB ⊢
        obtain ⟨la', hla⟩ : ∃ l, l = x :: la := ⟨_, rfl⟩
        rw [← hla] at hlo HRA HM HEQ ⊢
        clear hla
        obtain ⟨na, hna⟩ : ∃ n, n = la'.length := ⟨_, rfl⟩
        rw [← hna] at hlo HRA HM ⊢
        have hna0 : 0 < na ∨ na = 0 := by omega
        have HNA := Lib.hid hna
        clear hna
        go_wp2_with (at_builtin
                     with_reducible refine at_dst 78 rfl ?_
                     refine app_I rfl (.tmp 76) (.tmp 77) rfl (base := w.heap.size) (v := u8) (xs := lo) rfl rfl HM.out.ro HRA.out (by rw [← HNA.out]; omega) HM.out.ext.size ?_
                     intro v1 w1 hown hg
                     have HOW := Lib.hid hown
                     have HEW := Lib.hid (grow_ext HM.out.ext HM.out.ro hg)
                     have HRB1 := Lib.hid (HM.out.rb.ext HEW.out)
                     clear hown hg
                     go_wp2_with (at_builtin
                                  with_reducible refine at_dst 80 rfl ?_
                                  refine app_I rfl (.tmp 78) (.tmp 79) rfl (base := w.heap.size) (v := v1) (xs := lo ++ la') (ys := []) rfl rfl HOW.out HRB1.out (by rw [List.length_append, ← HNA.out]; simp only [List.length_nil]; omega) HEW.out.size ?_
                                  intro v2 w2 hown hg
                                  have HOW2 := Lib.hid hown
                                  have HEW2 := Lib.hid (grow_ext HEW.out HOW.out hg)
                                  clear hown hg))
        all_goals
          go_ret2
          have e1 : mergeL (fun x y => x == y) xs ys = some (lo ++ la') := by rw [← HEQ.out]; rfl
          refine ⟨v2, by rw [e1]; rfl, ?_, HEW2.out⟩
          rw [e1]
          have := HOW2.out
          rw [List.append_nil] at this
          exact this
      | cons y lb =>
        obtain ⟨-, a1, a2, ad, rfl, a0, -⟩ := HM.out.ra.head
        obtain ⟨-, b1, b2, bd, rfl, b0, -⟩ := HM.out.rb.head
        have a3 := HM.out.ext.cell a0
        have b3 := HM.out.ext.cell b0
        have A0 := Lib.hid a0
        have B0 := Lib.hid b0
        clear a0 b0
        have hx := HM.out.a64 x (by simp)
        have hy := HM.out.b64 y (by simp)
        have hsa := slice_1 (some ad) la.length c
        have hsb := slice_1 (some bd) lb.length d
        obtain ⟨A', hA⟩ : ∃ A', A' = (if c = 1 then some ad else (some ad).map (·.add 1)) := ⟨_, rfl⟩
        obtain ⟨B', hB⟩ : ∃ B', B' = (if d = 1 then some bd else (some bd).map (·.add 1)) := ⟨_, rfl⟩
        rw [← hA] at hsa
        rw [← hB] at hsb
        have HA := Lib.hid hA
        have HB := Lib.hid hB
        clear hA hB
        have HGN := Lib.hid hgn
        clear hgn
        simp only [List.length_cons] at HM ⊢
        obtain ⟨na, hna⟩ : ∃ n, n = la.length := ⟨_, rfl⟩
        obtain ⟨nb, hnb⟩ : ∃ n, n = lb.length := ⟨_, rfl⟩
        rw [← hna] at hsa a1 a2 HM ⊢
        rw [← hnb] at hsb b1 b2 HM ⊢
        have HNA := Lib.hid hna
        have HNB := Lib.hid hnb
        clear hna hnb
        have hll := HM.out.len
        simp only [List.length_cons] at hll
        have hlo : lo.length ≤ 10000000 := by omega
        clear hll
        rcases Int.lt_trichotomy (varOf x) (varOf y) with hc | hc | hc
        · have HC := Lib.hid hc
          clear hc
          go_upto_region 8 with ((go_quiet ((first | (go_at_call_of 57 (Value.int .i64 x); exact quiet_same (var_any x hx _)) | (go_at_call_of 57 (Value.int .i64 y); exact quiet_same (var_any y hy _)) | (go_at_call 87; exact quiet_same (cmp_lt HC.out _))))))
          generalize hW : wr.drewN _ = W1
          have HE : Hid (Ext w W1) := Lib.hid (hW ▸ HM.out.ext.trans (Ext.drewN _ _))
          have HO : Hid (OwnI W1 w.heap.size u8 lo) := Lib.hid (hW ▸ own_ext HM.out.ro (Ext.drewN _ _))
          have a5 : W1.cell? ad = some (.int .i64 x) := HE.out.cell A0.out
          have a6 : (W1.alloc (.cells #[.int .i64 x] 3)).drew.cell? ad = some (.int .i64 x) := ((Ext.alloc W1 _).trans (Ext.drew _)).cell a5
          clear hW a3 b3
          go_region_held3 (fun w' => w'.cell? ad = some (.int .i64 x)) (first | exact a5 | exact a6 | exact a7 | go_keep) (first | (
            refine step_app_1 (v := u8) rfl (.tmp 47) (.tmp 51) rfl (base := w.heap.size) (xs := lo) (y := x) rfl rfl ?c2 ?c1 hlo ?c3 ?_
            case c1 => exact own_ext HO.out ((Ext.alloc W1 _).trans (Ext.drew _))
            case c2 => exact (Ext.drew _).cell (Var1.new W1 3 (.int .i64 x)).cell
            case c3 => exact (HE.out.trans ((Ext.alloc W1 _).trans (Ext.drew _))).size
            intro v' w' hown hg
            have HOW := Lib.hid hown
            have HEW := Lib.hid (grow_ext (HE.out.trans ((Ext.alloc W1 _).trans (Ext.drew _))) (own_ext HO.out ((Ext.alloc W1 _).trans (Ext.drew _))) hg)
            have a7 := HEW.out.cell A0.out
            clear hown hg))
          go_wp2
          go_roundg (na + (nb + 1))
          case measure => have := HGN.out; have := HNA.out; have := HNB.out; simp only [List.length_cons] at *; omega
          case rel => exact ⟨la, y :: lb, lo ++ [x], A', some bd, c - 1, d, by rw [HNA.out, HNB.out]; simp, by rw [HNA.out], by rw [HNB.out]; simp, HM.out.left HA.out HNA.out HC.out HOW.out HEW.out⟩
        · have HC := Lib.hid hc
          clear hc
          go_upto_region 11 with ((go_quiet ((first | (go_at_call_of 57 (Value.int .i64 x); exact quiet_same (var_any x hx _)) | (go_at_call_of 57 (Value.int .i64 y); exact quiet_same (var_any y hy _)) | (go_at_call 87; exact quiet_same (cmp_eq HC.out _))))))
          generalize hW : wr.drewN _ = W1
          have HE : Hid (Ext w W1) := Lib.hid (hW ▸ HM.out.ext.trans (Ext.drewN _ _))
          have HO : Hid (OwnI W1 w.heap.size u8 lo) := Lib.hid (hW ▸ own_ext HM.out.ro (Ext.drewN _ _))
          have a5 : W1.cell? ad = some (.int .i64 x) := HE.out.cell A0.out
          have b5 : W1.cell? bd = some (.int .i64 y) := HE.out.cell B0.out
          clear hW a3 b3
          by_cases hxy : x = y
          · subst hxy
            have hxx : (x == x) = true := by simp
            refine wp_region_quiet_lit (by kernel_rfl) (by kernel_rfl) ?_
            repeat (go_big_quiet_step (fail))
            refine wpQuiet_callv (.tmp 67) #[.tmp 70, .tmp 73] _ rfl rfl #[] rfl fv_join1 #[.int .i64 x, .int .i64 x] (by simp only [List.map_toArray, List.map_cons, List.map_nil]; rfl) _ (fun _ => quiet_same (join1_fn x x _)) ?_
            simp only [Act.put, List.setIfInBounds_toArray, List.set_cons_zero, List.set_cons_succ]
            repeat (go_big_quiet_step (fail))
            refine wpQuiet_nil ?_
            intro _ hw'
            obtain ⟨nq, hw''⟩ := hw'
            subst hw''
            go_wp2_with fail
            generalize hV : W1.drewN _ = V1
            have a6 : V1.cell? ad = some (.int .i64 x) := hV ▸ a5
            have b6 : V1.cell? bd = some (.int .i64 x) := hV ▸ b5
            go_quiet (fail)
            have hW0 : ∀ n, Ext W1 (V1.drewN n) := fun n => hV ▸ (Ext.drewN _ _).trans (Ext.drewN _ _)
            generalize hW : V1.drewN _ = W2
            have hW1 : Ext W1 W2 := hW ▸ hW0 _
            have HE2 : Hid (Ext w W2) := Lib.hid (HE.out.trans hW1)
            have HO2 : Hid (OwnI W2 w.heap.size u8 lo) := Lib.hid (own_ext HO.out hW1)
            have a7 : W2.cell? ad = some (.int .i64 x) := HE2.out.cell A0.out
            clear hW hV hW0 hW1 a5 b5 a6 b6 hxx
            go_upto_region 6 with (at_builtin
                                   refine app_1 rfl (.tmp 34) (.tmp 38) rfl (base := w.heap.size) (xs := lo) (y := x) rfl rfl HO2.out hlo HE2.out.size ?_
                                   intro v' w' hown hg
                                   have HOW := Lib.hid hown
                                   have HEW := Lib.hid (hg.toExt HE2.out (fun i hi => (own_typed HO2.out hi.symm).1))
                                   clear hown hg)
            clear a7
            go_quiet (fail)
            generalize hW2 : w'.drewN _ = W3
            have HE3 : Hid (Ext w W3) := Lib.hid (hW2 ▸ HEW.out.trans (Ext.drewN _ _))
            have HO3 : Hid (OwnI W3 w.heap.size v' (lo ++ [x])) := Lib.hid (hW2 ▸ own_ext HOW.out (Ext.drewN _ _))
            clear hW2
            go_wp2
            go_roundg (na + nb)
            case measure => have := HGN.out; have := HNA.out; have := HNB.out; simp only [List.length_cons] at *; omega
            case rel => exact ⟨la, lb, lo ++ [x], A', B', c - 1, d - 1, by rw [HNA.out, HNB.out], by rw [HNA.out], by rw [HNB.out], HM.out.both HA.out HB.out HNA.out HNB.out (by simp) HO3.out HE3.out⟩
          · have hxb : (x == y) = false := by simpa using hxy
            have HXY := Lib.hid hxy
            clear hxy
            refine wp_region_quiet_lit (by kernel_rfl) (by kernel_rfl) ?_
            repeat (go_big_quiet_step (fail))
            refine wpQuiet_callv (.tmp 67) #[.tmp 70, .tmp 73] _ rfl rfl #[] rfl fv_join1 #[.int .i64 x, .int .i64 y] (by simp only [List.map_toArray, List.map_cons, List.map_nil]; rfl) _ (fun _ => quiet_same (join1_fn x y _)) ?_
            simp only [Act.put, List.setIfInBounds_toArray, List.set_cons_zero, List.set_cons_succ]
            repeat (go_big_quiet_step (fail))
            refine wpQuiet_nil ?_
            intro _ hw'
            obtain ⟨nq, hw''⟩ := hw'
            subst hw''
            generalize hW : W1.drewN _ = W2
            have HE2 : Hid (Ext w W2) := Lib.hid (hW ▸ HE.out.trans (Ext.drewN _ _))
            clear hW a5 b5
            go_wp2
            go_ret2
            exact ⟨_, by rw [HM.out.stop HC.out (by simpa using HXY.out)]; rfl, by rw [HM.out.stop HC.out (by simpa using HXY.out)]; exact OwnI.nil _ _, HE2.out⟩
        · have HC := Lib.hid hc
          clear hc
          go_upto_region 10 with ((go_quiet ((first | (go_at_call_of 57 (Value.int .i64 x); exact quiet_same (var_any x hx _)) | (go_at_call_of 57 (Value.int .i64 y); exact quiet_same (var_any y hy _)) | (go_at_call 87; exact quiet_same (cmp_gt HC.out _))))))
          generalize hW : wr.drewN _ = W1
          have HE : Hid (Ext w W1) := Lib.hid (hW ▸ HM.out.ext.trans (Ext.drewN _ _))
          have HO : Hid (OwnI W1 w.heap.size u8 lo) := Lib.hid (hW ▸ own_ext HM.out.ro (Ext.drewN _ _))
          have a5 : W1.cell? bd = some (.int .i64 y) := HE.out.cell B0.out
          have a6 : (W1.alloc (.cells #[.int .i64 y] 3)).drew.cell? bd = some (.int .i64 y) := ((Ext.alloc W1 _).trans (Ext.drew _)).cell a5
          clear hW a3 b3
          go_region_held3 (fun w' => w'.cell? bd = some (.int .i64 y)) (first | exact a5 | exact a6 | exact a7 | go_keep) (first | (
            refine step_app_1 (v := u8) rfl (.tmp 58) (.tmp 62) rfl (base := w.heap.size) (xs := lo) (y := y) rfl rfl ?c2 ?c1 hlo ?c3 ?_
            case c1 => exact own_ext HO.out ((Ext.alloc W1 _).trans (Ext.drew _))
            case c2 => exact (Ext.drew _).cell (Var1.new W1 3 (.int .i64 y)).cell
            case c3 => exact (HE.out.trans ((Ext.alloc W1 _).trans (Ext.drew _))).size
            intro v' w' hown hg
            have HOW := Lib.hid hown
            have HEW := Lib.hid (grow_ext (HE.out.trans ((Ext.alloc W1 _).trans (Ext.drew _))) (own_ext HO.out ((Ext.alloc W1 _).trans (Ext.drew _))) hg)
            have a7 := HEW.out.cell B0.out
            clear hown hg))
          go_wp2
          go_roundg (na + 1 + nb)
          case measure => have := HGN.out; have := HNA.out; have := HNB.out; simp only [List.length_cons] at *; omega
          case rel => exact ⟨x :: la, lb, lo ++ [y], some ad, B', c, d - 1, by rw [HNA.out, HNB.out]; simp, by rw [HNA.out]; simp, by rw [HNB.out], HM.out.right HB.out HNB.out HC.out HOW.out HEW.out⟩
end Go.Proofs.YteokoaggkpjdeaaDoor
namespace Go.Proofs.YteokoaggkpjdeaaDoor
open Go.RowKit

def PostJoin (w : World) (r : List Int × Int) (e : Ending) (w' : World) : Prop := ∃ v, e = .returned (.tuple #[v, .int .i64 r.2]) ∧ OwnI w' w.heap.size v r.1 ∧ Ext w w'

set_option maxHeartbeats 2000000 in
theorem Join_any (xs ys : List Int) (v u : Value) (w : World) (h64 : All64 xs) (k64 : All64 ys) (hr : RI w v xs) (kr : RI w u ys) :
    Calls Tryd.prog 32 #[v, u] w (PostJoin w (JoinV xs ys)) := by
  have HP : Hid (PostJoin w (JoinV xs ys) = PostJoin w (JoinV xs ys)) := Lib.hid rfl
  generalize hPP : PostJoin w (JoinV xs ys) = PP at HP ⊢
  have HPP := Lib.hid hPP
  clear hPP HP
  cases hm : mayB xs <;> cases km : mayB ys
  case true.true =>
    have HM := Lib.hid hm
    have KM := Lib.hid km
    have HL := Lib.hid (may_any v xs w hr h64)
    have KL := Lib.hid (may_any u ys w kr k64)
    rw [hm] at HL
    rw [km] at KL
    have HJ := Lib.hid (merge_join xs ys v u w h64 k64 hr kr (by have := may_len hm; have := may_len km; omega))
    clear hm km
    cases hj : mergeL (fun x y => x == y) xs ys with
    | none =>
      rw [hj] at HJ
      have HJJ := Lib.hid hj
      clear hj
      go_enter Tryd.func32, Tryd.ntmps32
      go_wp2_with (first
        | (go_at_call_of 43 v; refine HL.out.mono ?_; rintro e w' ⟨rfl, rfl⟩)
        | (go_at_call_of 43 u; refine KL.out.mono ?_; rintro e w' ⟨rfl, rfl⟩)
        | (go_at_call 64; refine HJ.out.mono ?_; rintro e w' ⟨v', rfl, ho, hE⟩; have HO := Lib.hid ho; have HE := Lib.hid hE; clear ho hE))
      rw [← HPP.out]
      unfold JoinV joinV
      rw [if_pos ⟨HM.out, KM.out⟩, HJJ.out]
      exact ⟨_, rfl, OwnI.nil _ _, HE.out⟩
    | some c =>
      rw [hj] at HJ
      have HJJ := Lib.hid hj
      clear hj
      go_enter Tryd.func32, Tryd.ntmps32
      go_wp2_with (first
        | (go_at_call_of 43 v; refine HL.out.mono ?_; rintro e w' ⟨rfl, rfl⟩)
        | (go_at_call_of 43 u; refine KL.out.mono ?_; rintro e w' ⟨rfl, rfl⟩)
        | (go_at_call 64; refine HJ.out.mono ?_; rintro e w' ⟨v', rfl, ho, hE⟩; have HO := Lib.hid ho; have HE := Lib.hid hE; clear ho hE))
      rw [← HPP.out]
      unfold JoinV joinV
      rw [if_pos ⟨HM.out, KM.out⟩, HJJ.out]
      exact ⟨_, rfl, HO.out, HE.out⟩
  all_goals
    have HM := Lib.hid hm
    have KM := Lib.hid km
    have HL := Lib.hid (may_any v xs w hr h64)
    have KL := Lib.hid (may_any u ys w kr k64)
    rw [hm] at HL
    rw [km] at KL
    clear hm km
    go_enter Tryd.func32, Tryd.ntmps32
    go_wp2_with (first
      | (go_at_call_of 43 v; refine HL.out.mono ?_; rintro e w' ⟨rfl, rfl⟩)
      | (go_at_call_of 43 u; refine KL.out.mono ?_; rintro e w' ⟨rfl, rfl⟩))
    rw [← HPP.out]
    unfold JoinV
    rw [if_neg (by rw [HM.out, KM.out]; simp)]
    exact ⟨_, rfl, OwnI.nil _ _, Ext.refl _⟩

def agreeB (xs ys : List Int) : Bool := (JoinV xs ys).2 == 0

set_option maxHeartbeats 400000 in
theorem Agree_any (xs ys : List Int) (v u : Value) (w : World) (h64 : All64 xs) (k64 : All64 ys) (hr : RI w v xs) (kr : RI w u ys) :
    Calls Tryd.prog 29 #[v, u] w fun e w' => e = .returned (.bool (agreeB xs ys)) ∧ Ext w w' := by
  have HJ := Lib.hid (Join_any xs ys v u w h64 k64 hr kr)
  go_enter Tryd.func29, Tryd.ntmps29
  go_wp2_with (go_at_call 32; refine HJ.out.mono ?_; rintro e w' ⟨v', rfl, ho, hE⟩; have HE := Lib.hid hE; clear ho hE)
  go_ret
  exact ⟨rfl, HE.out⟩
end Go.Proofs.YteokoaggkpjdeaaDoor
namespace Go.Proofs.YteokoaggkpjdeaaDoor
open Go.RowKit

/-- A row of steps. -/
def RSt (w : World) (v : Value) (st : List (Int × Int)) : Prop := ∃ A c, v = .slice A st.length c ∧ st.length ≤ c ∧ st.length ≤ 9223372036854775807 ∧ (0 < st.length → ∃ ad, A = some ad ∧ ∀ j u, (stepsV st)[j]? = some u → w.cell? (ad.add j) = some u)
theorem RSt.ext {w w' : World} {v : Value} {st : List (Int × Int)} (h : RSt w v st) (k : Ext w w') : RSt w' v st := by
  obtain ⟨A, c, h1, h2, h3, h4⟩ := h
  refine ⟨A, c, h1, h2, h3, fun h0 => ?_⟩
  obtain ⟨ad, ha, hc⟩ := h4 h0
  exact ⟨ad, ha, fun j u hu => k.cell (hc j u hu)⟩
theorem stepsV_len (st : List (Int × Int)) : (stepsV st).length = st.length * 2 := by
  unfold stepsV
  induction st with
  | nil => rfl
  | cons p st ih => rw [List.flatMap_cons, List.length_append, ih, List.length_cons]; simp; omega
theorem stepsV_get (st : List (Int × Int)) : ∀ (j : Nat) (hj : j < st.length), (stepsV st)[j * 2]? = some (.int .i64 st[j].1) ∧ (stepsV st)[j * 2 + 1]? = some (.int .i64 st[j].2) := by
  induction st with
  | nil => intro j hj; cases hj
  | cons p st ih =>
    intro j hj
    have : stepsV (p :: st) = [.int .i64 p.1, .int .i64 p.2] ++ stepsV st := by unfold stepsV; rw [List.flatMap_cons]
    rw [this]
    cases j with
    | zero => exact ⟨rfl, rfl⟩
    | succ j =>
      have := ih j (by simpa using hj)
      rw [List.getElem?_append_right (by simp; omega), List.getElem?_append_right (by simp; omega)]
      simp only [List.length_cons, List.length_nil, List.getElem_cons_succ]
      rw [show (j + 1) * 2 - (0 + 1 + 1) = j * 2 by omega, show (j + 1) * 2 + 1 - (0 + 1 + 1) = j * 2 + 1 by omega]
      exact this
theorem own_RSt {w : World} {base : Nat} {v : Value} {st : List (Int × Int)} (h : w.ownsRow base 55 2 v st.length (stepsV st)) : RSt w v st := by
  obtain ⟨h0, ⟨rfl, h1⟩ | ⟨g, cap, cur, rfl, hb, hg, hn, hm, hs, ht⟩⟩ := h
  · exact ⟨none, 0, by rw [h1], by omega, by omega, fun h2 => by omega⟩
  · refine ⟨some ⟨g, 0, none⟩, cap, rfl, hn, by unfold maxLen at hm; omega, fun _ => ⟨_, rfl, fun j u hu => ?_⟩⟩
    have hadd : (⟨g, 0, none⟩ : Addr).add j = ⟨g, j, none⟩ := by unfold Addr.add; split <;> simp_all
    rw [hadd, cell_of_row w g j cur _ _ hg]
    have hj := (List.getElem?_eq_some_iff.1 hu).1
    rw [stepsV_len] at hj
    rw [← ht, List.getElem?_take, if_pos (by omega)] at hu
    simpa using hu

theorem Blk.new' {w : World} {g : Nat} {e : TypeId} {cur : List Value} (h : g = w.heap.size) : Blk (w.alloc (.cells cur.toArray e)) g e cur := h ▸ Blk.new w e cur
theorem Blk.RI {w : World} {g : Nat} {xs : List Int} (h : Blk w g 3 (xs.map (Value.int .i64))) (hl : xs.length ≤ 9223372036854775807) : RI w (.slice (some ⟨g, 0, none⟩) xs.length xs.length) xs := by
  refine ⟨_, _, rfl, Nat.le_refl _, hl, fun j hj => ⟨_, rfl, ?_⟩⟩
  have hadd : (⟨g, 0, none⟩ : Addr).add j = ⟨g, j, none⟩ := by unfold Addr.add; split <;> simp_all
  rw [hadd, h.cell, List.getElem?_eq_getElem hj]
theorem RI.none (w : World) : RI w (.slice Option.none 0 0) [] := ⟨Option.none, 0, rfl, Nat.le_refl _, by simp, fun j hj => by simp at hj⟩
theorem RLL.none (w : World) : RLL w (.slice Option.none 0 0) [] := ⟨Option.none, 0, [], rfl, Nat.le_refl _, by simp, fun j hj => by simp at hj, rfl, fun j hj => by simp at hj⟩
theorem Blk.RLL {w : World} {g : Nat} {vs : List Value} {f : List (List Int)} (h : Blk w g 22 vs) (hl : vs.length ≤ 9223372036854775807) (hf : vs.length = f.length) (hr : ∀ j (h : j < vs.length) (h' : j < f.length), Go.Proofs.YteokoaggkpjdeaaDoor.RI w vs[j] f[j]) :
    RLL w (.slice (some ⟨g, 0, Option.none⟩) vs.length vs.length) f := by
  refine ⟨_, _, vs, rfl, Nat.le_refl _, hl, fun j hj => ⟨_, rfl, ?_⟩, hf, hr⟩
  have hadd : (⟨g, 0, Option.none⟩ : Addr).add j = ⟨g, j, Option.none⟩ := by unfold Addr.add; split <;> simp_all
  rw [hadd, h.cell, List.getElem?_eq_getElem hj]

/-- The world holds the variable 'same' as the program's text lays it. -/
def HasSame (w : World) : Prop := w.cell? ⟨0, 0, Option.none⟩ = some (.func (.func 49) #[] #[])

theorem units1 : UnitsV [[1, 2], [-2], [-1, 3]] [] = ([(-2, 1), (1, 0), (3, 2)], -1, 0) := by decide
theorem units2 : UnitsV [[1], [-1]] [] = ([(1, 0)], 1, 0) := by decide
theorem units3 : UnitsV [[1, 2]] [-1, -2] = ([], 0, 0) := by decide
theorem point1 : PointV 6 [1, 2, 3] = ([-1, 2, 3], 0) := by decide
theorem point2 : PointV 8 [1, 2, 3] = ([], 4) := by decide
theorem number1 : NumberV [1, 2] [-1, 2] = (2, 0) := by decide
theorem under1 : UnderV [1] [[1, 2], [-1, 3], [-1]] = [[3], []] := by decide
theorem clause1 : ClauseV [] [] = 2 := by decide
theorem cube1 : CubeV [] [] = 1 := by decide
theorem cnf1 : CnfV [] [] = 1 := by decide
theorem value1 : ValueV [-2] 2 = 2 := by decide

theorem all64_of (xs : List Int) (h : (xs.all fun x => decide (-9223372036854775808 ≤ x ∧ x ≤ 9223372036854775807)) = true) : All64 xs := fun x hx =>
  show -9223372036854775808 ≤ x ∧ x ≤ 9223372036854775807 from of_decide_eq_true (List.all_eq_true.1 h x hx)
theorem all64L_of (f : List (List Int)) (h : (f.all fun xs => xs.all fun x => decide (-9223372036854775808 ≤ x ∧ x ≤ 9223372036854775807)) = true) : All64L f := fun xs hx => all64_of xs (List.all_eq_true.1 h xs hx)

abbrev rowO (xs : List Int) : Obj := .cells (xs.map (Value.int .i64)).toArray 3
abbrev slV (g n : Nat) : Value := .slice (some ⟨g, 0, Option.none⟩) n n
theorem lit0 (w : World) (xs : List Int) (h : xs.length ≤ 100) : RI (w.alloc (rowO xs)) (slV w.heap.size xs.length) xs := (Blk.new w _ _).RI (by omega)
theorem RLL.one {w : World} {g : Nat} {v0 : Value} {xs : List Int} (h : Blk w g 22 [v0]) (h0 : Go.Proofs.YteokoaggkpjdeaaDoor.RI w v0 xs) : RLL w (slV g 1) [xs] :=
  h.RLL (by simp) rfl fun j hj hj' => by
    obtain rfl : j = 0 := by simp at hj'; omega
    exact h0
theorem RLL.two {w : World} {g : Nat} {v0 v1 : Value} {xs ys : List Int} (h : Blk w g 22 [v0, v1]) (h0 : Go.Proofs.YteokoaggkpjdeaaDoor.RI w v0 xs) (h1 : Go.Proofs.YteokoaggkpjdeaaDoor.RI w v1 ys) : RLL w (slV g 2) [xs, ys] :=
  h.RLL (by simp) rfl fun j hj hj' => by
    match j, hj, hj' with
    | 0, _, _ => exact h0
    | 1, _, _ => exact h1
    | j + 2, _, hj' => exact absurd hj' (by simp)
theorem RLL.three {w : World} {g : Nat} {v0 v1 v2 : Value} {xs ys zs : List Int} (h : Blk w g 22 [v0, v1, v2]) (h0 : Go.Proofs.YteokoaggkpjdeaaDoor.RI w v0 xs) (h1 : Go.Proofs.YteokoaggkpjdeaaDoor.RI w v1 ys) (h2 : Go.Proofs.YteokoaggkpjdeaaDoor.RI w v2 zs) : RLL w (slV g 3) [xs, ys, zs] :=
  h.RLL (by simp) rfl fun j hj hj' => by
    match j, hj, hj' with
    | 0, _, _ => exact h0
    | 1, _, _ => exact h1
    | 2, _, _ => exact h2
    | j + 3, _, hj' => exact absurd hj' (by simp)
theorem lit1 (w : World) (xs : List Int) (h : xs.length ≤ 100) : RLL ((w.alloc (rowO xs)).alloc (.cells #[slV w.heap.size xs.length] 22)) (slV (w.heap.size + 1) 1) [xs] :=
  .one (Blk.new' (by simp)) ((lit0 w xs h).ext (Ext.alloc _ _))
theorem lit2 (w : World) (xs ys : List Int) (h : xs.length ≤ 100) (h' : ys.length ≤ 100) : RLL (((w.alloc (rowO xs)).alloc (rowO ys)).alloc (.cells #[slV w.heap.size xs.length, slV (w.heap.size + 1) ys.length] 22)) (slV (w.heap.size + 1 + 1) 2) [xs, ys] := by
  have e : (w.alloc (rowO xs)).heap.size = w.heap.size + 1 := by simp
  refine .two (Blk.new' (by simp)) (((lit0 w xs h).ext (Ext.alloc _ _)).ext (Ext.alloc _ _)) ?_
  have := (lit0 (w.alloc (rowO xs)) ys h')
  rw [e] at this
  exact this.ext (Ext.alloc _ _)
theorem lit3 (w : World) (xs ys zs : List Int) (h : xs.length ≤ 100) (h' : ys.length ≤ 100) (h'' : zs.length ≤ 100) :
    RLL ((((w.alloc (rowO xs)).alloc (rowO ys)).alloc (rowO zs)).alloc (.cells #[slV w.heap.size xs.length, slV (w.heap.size + 1) ys.length, slV (w.heap.size + 1 + 1) zs.length] 22)) (slV (w.heap.size + 1 + 1 + 1) 3) [xs, ys, zs] := by
  have e : (w.alloc (rowO xs)).heap.size = w.heap.size + 1 := by simp
  have e2 : ((w.alloc (rowO xs)).alloc (rowO ys)).heap.size = w.heap.size + 1 + 1 := by simp
  have h1 := (lit0 (w.alloc (rowO xs)) ys h')
  rw [e] at h1
  have h2 := (lit0 ((w.alloc (rowO xs)).alloc (rowO ys)) zs h'')
  rw [e2] at h2
  exact .three (Blk.new' (by simp)) ((((lit0 w xs h).ext (Ext.alloc _ _)).ext (Ext.alloc _ _)).ext (Ext.alloc _ _)) ((h1.ext (Ext.alloc _ _)).ext (Ext.alloc _ _)) (h2.ext (Ext.alloc _ _))

theorem HasSame.ext {w w' : World} (h : HasSame w) (k : Ext w w') : HasSame w' := k.cell h

theorem Blk.RSt {w : World} {g : Nat} {st : List (Int × Int)} (h : Blk w g 55 (stepsV st)) (hl : st.length ≤ 9223372036854775807) : RSt w (slV g st.length) st := by
  refine ⟨_, _, rfl, Nat.le_refl _, hl, fun _ => ⟨_, rfl, fun j u hu => ?_⟩⟩
  have hadd : (⟨g, 0, Option.none⟩ : Addr).add j = ⟨g, j, Option.none⟩ := by unfold Addr.add; split <;> simp_all
  rw [hadd, h.cell]; exact hu
theorem fv_same : Fv Tryd.prog 49 := ⟨_, Tryd.func49, by kernel_rfl, by kernel_rfl⟩

theorem clauseN (w : World) : Calls Tryd.prog 25 #[.slice Option.none 0 0, .slice Option.none 0 0] w fun e w' => e = .returned (.int .u8 2) ∧ Ext w w' := by
  have := Clause_any [] [] (.slice Option.none 0 0) (.slice Option.none 0 0) w (all64_of _ (by decide)) (all64_of _ (by decide)) (RI.none _) (RI.none _)
  rw [clause1] at this
  exact this

theorem cubeN (w : World) : Calls Tryd.prog 27 #[.slice Option.none 0 0, .slice Option.none 0 0] w fun e w' => e = .returned (.int .u8 1) ∧ Ext w w' := by
  have := Cube_any [] [] (.slice Option.none 0 0) (.slice Option.none 0 0) w (all64_of _ (by decide)) (all64_of _ (by decide)) (RI.none _) (RI.none _)
  rw [cube1] at this
  exact this

theorem cnfN (w : World) : Calls Tryd.prog 17 #[.slice Option.none 0 0, .slice Option.none 0 0] w fun e w' => e = .returned (.int .u8 1) ∧ Ext w w' := by
  have := Cnf_any [] [] (.slice Option.none 0 0) (.slice Option.none 0 0) w (all64_of _ (by decide)) (all64L_of _ (by decide)) (RI.none _) (RLL.none _) (fun _ => by decide)
  rw [cnf1] at this
  exact this

/-- Three calls of Units. -/
theorem unitsC (f : List (List Int)) (xs : List Int) (r : List (Int × Int)) (c e : Int) (hv : UnitsV f xs = (r, c, e)) (v u : Value) (w : World) (h64 : All64 xs) (k64 : All64L f) (hr : RI w v xs) (kr : RLL w u f) (ht : f.length ≤ 20000 → total f ≤ 9223372036854775807) :
    Calls Tryd.prog 34 #[u, v] w fun en w' => ∃ A d, en = .returned (.tuple #[.slice A r.length d, .int .i64 c, .int .i64 e]) ∧ RSt w' (.slice A r.length d) r ∧ Ext w w' := by
  have h := Units_any f xs v u w h64 k64 hr kr ht
  rw [hv] at h
  refine h.mono ?_
  rintro en w' ⟨x, rfl, hown, hE⟩
  have hst := own_RSt hown
  obtain ⟨A, d, rfl, -⟩ := hst
  exact ⟨A, d, rfl, own_RSt hown, hE⟩

end Go.Proofs.YteokoaggkpjdeaaDoor
