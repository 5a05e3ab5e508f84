/- Base words for the walks of this seat: what it is for a slice to read as a list of integers, worlds that only grow, small facts. Walks of lits.size, lits.Var, lits.May. Library functions that are handed a function value: IndexFunc, ContainsFunc. Walks of lits.MayCnf and its function literal. Walks of sort.Search and asg.look. Walks of asg.search, clause, Value, Clause, Cube, Cnf. Walks of slices.Clone and slices.DeleteFunc. Walks of asg.Under and asg.Cnf. -/
import Derived.Test.YteokoaggkpjdeaaDoorProg
import Derived.Test.YteokoaggkpjdeaaDoorGa
import Derived.WalkKit
import Derived.WalkSpells
import Derived.WalkLawsBesides
import Derived.Deep.LoopGhost
import Derived.Deep.QuietTactic
import Derived.BigQuiet
import Derived.Deep.RegionHeld3
import Derived.Deep.Draws
import Derived.Lib.Hide
import Derived.Lib.SliceRun
import Derived.Deep.AppendLies
import Derived.Deep.RegionLaw
namespace Go.Proofs.YteokoaggkpjdeaaDoor
open Go.RowKit

/-- The world has only grown: every block that was there is as it was. -/
abbrev Ext (w w' : World) : Prop := Below w.heap.size w w'

theorem Ext.refl (w : World) : Ext w w := Below.refl _ _
theorem Ext.trans {a b c : World} (h : Ext a b) (k : Ext b c) : Ext a c := Below.trans h (k.mono h.size)
theorem Ext.cell {w w' : World} (h : Ext w w') {a : Addr} {v : Value} (hc : w.cell? a = some v) : w'.cell? a = some v :=
  (Below.cell h (World.block_lt_of_cell? w a hc)).trans hc
theorem Ext.alloc_size {w w' : World} {o : Obj} (h : Below (w.alloc o).heap.size (w.alloc o) w') : w.heap.size + 1 ≤ w'.heap.size := by
  have := h.size
  simpa using this
theorem Ext.drewN (w : World) (n : Nat) : Ext w (w.drewN n) := ⟨rfl, rfl, rfl, Nat.le_refl _, fun _ _ => rfl⟩
theorem Ext.drew (w : World) : Ext w w.drew := Below.drew (Below.refl _ _)
theorem Ext.alloc (w : World) (o : Obj) : Ext w (w.alloc o) := Below.alloc (Below.refl _ _) (Nat.le_refl _) o

/-- Behind the address lie these cells. -/
def Row (w : World) (A : Option Addr) (vs : List Value) : Prop :=
  ∀ j (h : j < vs.length), ∃ ad, A = some ad ∧ w.cell? (ad.add j) = some vs[j]

theorem Row.ext {w w' : World} {A : Option Addr} {vs : List Value} (h : Row w A vs) (e : Ext w w') : Row w' A vs := fun j hj => by
  obtain ⟨ad, ha, hc⟩ := h j hj
  exact ⟨ad, ha, e.cell hc⟩

/-- A slice value whose elements (of one cell each) read as a list, each by R. -/
def RSl {α : Type} (R : World → Value → α → Prop) (w : World) (v : Value) (xs : List α) : Prop :=
  ∃ A c vs, v = .slice A vs.length c ∧ vs.length ≤ c ∧ vs.length ≤ 9223372036854775807 ∧ Row w A vs ∧ vs.length = xs.length ∧
    ∀ j (h : j < vs.length) (h' : j < xs.length), R w vs[j] xs[j]

theorem RSl.ext {α : Type} {R : World → Value → α → Prop} (hR : ∀ w w' v x, Ext w w' → R w v x → R w' v x) {w w' : World} {v : Value} {xs : List α} (h : RSl R w v xs) (e : Ext w w') : RSl R w' v xs := by
  obtain ⟨A, c, vs, h1, h2, h3, h4, h5, h6⟩ := h
  exact ⟨A, c, vs, h1, h2, h3, h4.ext e, h5, fun j hj hj' => hR _ _ _ _ e (h6 j hj hj')⟩

/-- A slice value reads as a list of 64-bit integers. -/
def RI (w : World) (v : Value) (xs : List Int) : Prop :=
  ∃ A c, v = .slice A xs.length c ∧ xs.length ≤ c ∧ xs.length ≤ 9223372036854775807 ∧ Row w A (xs.map (Value.int .i64))

theorem RI.ext {w w' : World} {v : Value} {xs : List Int} (h : RI w v xs) (e : Ext w w') : RI w' v xs := by
  obtain ⟨A, c, h1, h2, h3, h4⟩ := h
  exact ⟨A, c, h1, h2, h3, h4.ext e⟩

theorem Row.int {w : World} {A : Option Addr} {xs : List Int} (h : Row w A (xs.map (Value.int .i64))) (j : Nat) (hj : j < xs.length) : ∃ ad, A = some ad ∧ w.cell? (ad.add j) = some (.int .i64 xs[j]) := by
  obtain ⟨ad, ha, hc⟩ := h j (by simpa using hj)
  exact ⟨ad, ha, by simpa using hc⟩

/-- A slice of slices of integers. -/
abbrev RLL (w : World) (v : Value) (xss : List (List Int)) : Prop := RSl RI w v xss

theorem RLL.ext' {w w' : World} {v : Value} {xss : List (List Int)} (h : RLL w v xss) (e : Ext w w') : RLL w' v xss :=
  RSl.ext (R := RI) (fun _ _ _ _ e h => RI.ext h e) h e

/-- A function with a body: what a function value of it enters. -/
def Fv (P : Program) (f : FuncId) : Prop := ∃ fn, P.funcs[f]? = some fn ∧ (fn.name == "runtime.NumGoroutine") = false ∧ fn.body.isSome = true

theorem run_enter {P : Program} {f : FuncId} (hf : Fv P f) (args : Array Value) (w : World) : (callFunc f args).run P w = .ok (.enter f args) w := by
  obtain ⟨fn, hf, hname, hb⟩ := hf
  have h1 : fn.name ≠ "runtime.NumGoroutine" := by simpa using hname
  obtain ⟨c, hc⟩ := Option.isSome_iff_exists.1 hb
  simp [callFunc, hf, h1, hc]

/-- At the operation that writes slot N. -/
theorem at_dst {P : Program} {ops : Array Oper} {Q : Exit → Act → World → Prop} {a : Act} {w : World} {rest : List Oper} {o : Oper} (N : Nat) (_hd : o.dst = some N) (h : wpList P ops Q (o :: rest) a w) : wpList P ops Q (o :: rest) a w := h

/-- A call of a function value. -/
theorem wpList_callv {P : Program} {ops : Array Oper} {Q : Exit → Act → World → Prop} {a : Act} {w : World} {rest : List Oper} {o : Oper}
    (x : Operand) (ys : Array Operand) (ts : Array TypeId) (ho : o.op = .call { callee := .value x, args := ys, argTypes := ts }) (hw : Region.wanted o (yielded ops a.tmps) = true)
    {f : FuncId} (cap : Array Value) (hv : a.eval x = .func (.func f) #[] cap) (hf : Fv P f) (args : Array Value) (ha : ys.map a.eval ++ cap = args)
    (h : Calls P f args w fun e w' => ∃ v, e = .returned v ∧ wpList P ops Q rest (a.put o.dst v) w') : wpList P ops Q (o :: rest) a w := by
  refine BigFrame.wpList_want hw fun K hK => ?_
  have hrun : (execOp a.eval o).run P w = .ok (.enter f args) w := by
    unfold execOp
    simp [ho, resolve, Deferred.ofValue, hv, invoke, ha, run_enter hf]
  unfold Oper.wp
  rw [hrun, Oper.upon_enter]
  refine h.mono fun e w'' hh => ?_
  obtain ⟨v, rfl, hk⟩ := hh
  exact hK _ _ hk

/-- Block b is the one variable v of type t. -/
abbrev Var1 (w : World) (b : Nat) (t : TypeId) (v : Value) : Prop := w.heap[b]? = some (.cells #[v] t (0, 0))

theorem Var1.cell {w : World} {b : Nat} {t : TypeId} {v : Value} (h : Var1 w b t v) : w.cell? ⟨b, 0, none⟩ = some v := by
  simp [World.cell?, h]
theorem Var1.free {w : World} {b : Nat} {t : TypeId} {v : Value} (h : Var1 w b t v) : w.frozen? ⟨b, 0, none⟩ = false := by
  simp [World.frozen?, h]
theorem Var1.lt {w : World} {b : Nat} {t : TypeId} {v : Value} (h : Var1 w b t v) : b < w.heap.size := (Array.getElem?_eq_some_iff.1 h).1
theorem Var1.ext {w w' : World} {b : Nat} {t : TypeId} {v : Value} (h : Var1 w b t v) (e : Ext w w') : Var1 w' b t v := (e.block b h.lt).trans h
theorem Var1.set {w : World} {b : Nat} {t : TypeId} {v : Value} (h : Var1 w b t v) (u : Value) : Var1 (w.setCell ⟨b, 0, none⟩ u) b t u := by
  simp only [Var1, World.setCell, Array.getElem?_modify, h]
  simp
theorem Var1.new (w : World) (t : TypeId) (v : Value) : Var1 (w.alloc (.cells #[v] t)) w.heap.size t v := heap_alloc_new w _

/-- A slice of the call's own (its row lies in a block from base on): it reads as a list of integers. -/
def OwnI (w : World) (base : Nat) (v : Value) (xs : List Int) : Prop := w.ownsRow base 3 1 v xs.length (xs.map (Value.int .i64))

theorem addr0 (g j : Nat) : (⟨g, 0, none⟩ : Addr).add j = ⟨g, j, none⟩ := by unfold Addr.add; split <;> simp_all

theorem own_row {w : World} {base : Nat} {e : TypeId} {v : Value} {vs : List Value} (h : w.ownsRow base e 1 v vs.length vs) : ∃ A c, v = .slice A vs.length c ∧ vs.length ≤ c ∧ vs.length ≤ 9223372036854775807 ∧ Row w A vs := by
  obtain ⟨_, h | ⟨g, cap, cur, rfl, hb, hg, hn, hm, hs, ht⟩⟩ := h
  · obtain ⟨rfl, hn⟩ := h
    exact ⟨none, 0, by rw [hn], by omega, by omega, fun j hj => by omega⟩
  · refine ⟨_, cap, rfl, hn, by unfold maxLen at hm; omega, fun j hj => ⟨_, rfl, ?_⟩⟩
    rw [addr0, cell_of_row w g j cur e (0, 0) hg]
    have h1 : (cur.toList.take (vs.length * 1))[j]? = vs[j]? := by rw [ht]
    rw [List.getElem?_take, if_pos (by omega), List.getElem?_eq_getElem hj] at h1
    simpa using h1

theorem OwnI.reads {w : World} {base : Nat} {v : Value} {xs : List Int} (h : OwnI w base v xs) : RI w v xs := by
  unfold OwnI at h
  have h' : w.ownsRow base 3 1 v (xs.map (Value.int .i64)).length (xs.map (Value.int .i64)) := by simpa using h
  obtain ⟨A, c, h1, h2, h3, h4⟩ := own_row h'
  simp only [List.length_map] at h1 h2 h3
  exact ⟨A, c, h1, h2, h3, h4⟩

theorem OwnI.nil (w : World) (base : Nat) : OwnI w base (.slice none 0 0) [] := World.ownsRow_nil w base _ 1

theorem own_lower {w : World} {base base' : Nat} {e : TypeId} {size n : Nat} {v : Value} {xs : List Value} (h : w.ownsRow base e size v n xs) (hb : base' ≤ base) : w.ownsRow base' e size v n xs := by
  obtain ⟨h1, h | ⟨g, cap, cur, h2, h3, h4⟩⟩ := h
  · exact ⟨h1, .inl h⟩
  · exact ⟨h1, .inr ⟨g, cap, cur, h2, by omega, h4⟩⟩

theorem own_ext {w w' : World} {base : Nat} {e : TypeId} {size n : Nat} {v : Value} {xs : List Value} (h : w.ownsRow base e size v n xs) (k : Ext w w') : w'.ownsRow base e size v n xs :=
  h.kept (row := none) ⟨k.os, k.tape, k.output, k.size, fun i hi _ => k.block i hi⟩ (by cases v.ownBlock <;> simp)

theorem Ext.grown {w0 w w' : World} {row : Option Nat} (h : Ext w0 w) (g : w.grownBy w' row) (hr : ∀ k, row = some k → w0.heap.size ≤ k) : Ext w0 w' := Below.grown h g h.size hr

/-- Block g holds these cells, none frozen. -/
def Blk (w : World) (g : Nat) (e : TypeId) (cur : List Value) : Prop := w.heap[g]? = some (.cells cur.toArray e (0, 0))

section
variable {w w' : World} {g : Nat} {e : TypeId} {cur : List Value}
theorem Blk.cell (h : Blk w g e cur) (i : Nat) : w.cell? ⟨g, i, none⟩ = cur[i]? := by rw [cell_of_row w g i cur.toArray e (0, 0) h]; simp
theorem Blk.free (h : Blk w g e cur) (i : Nat) : w.frozen? ⟨g, i, none⟩ = false := by unfold Blk at h; simp [World.frozen?, h]
theorem Blk.lt (h : Blk w g e cur) : g < w.heap.size := (Array.getElem?_eq_some_iff.1 h).1
theorem Blk.ext (h : Blk w g e cur) (k : Ext w w') : Blk w' g e cur := (k.block g h.lt).trans h
theorem Blk.set (h : Blk w g e cur) (i : Nat) (u : Value) : Blk (w.setCell ⟨g, i, none⟩ u) g e (cur.set i u) := by
  unfold Blk at *
  simp only [World.setCell, Array.getElem?_modify, h]
  simp
theorem Blk.new (w : World) (e : TypeId) (cur : List Value) : Blk (w.alloc (.cells cur.toArray e)) w.heap.size e cur := heap_alloc_new w _

/-- Only block g may have been turned; others stand; there may be new ones. -/
abbrev Upd (g : Nat) (w w' : World) : Prop := w.grownBy w' (some g)
theorem Upd.refl (g : Nat) (w : World) : Upd g w w := ⟨rfl, rfl, rfl, Nat.le_refl _, fun _ _ _ => rfl⟩
theorem Upd.trans {a b c : World} (h : Upd g a b) (k : Upd g b c) : Upd g a c :=
  ⟨k.os.trans h.os, k.tape.trans h.tape, k.output.trans h.output, Nat.le_trans h.size k.size, fun i hi hne => (k.block i (Nat.lt_of_lt_of_le hi h.size) hne).trans (h.block i hi hne)⟩
theorem Ext.upd (g : Nat) (h : Ext w w') : Upd g w w' := ⟨h.os, h.tape, h.output, h.size, fun i hi _ => h.block i hi⟩
theorem Upd.set (w : World) (g i : Nat) (u : Value) : Upd g w (w.setCell ⟨g, i, none⟩ u) :=
  ⟨rfl, rfl, rfl, by simp [World.setCell], fun k _ hne => Below.heap_setCell w _ u k (fun e => hne (by rw [e]))⟩
theorem Upd.ext {w0 : World} (h : Ext w0 w) (k : Upd g w w') (hg : w0.heap.size ≤ g) : Ext w0 w' := Below.grown h k h.size (fun i hi => by cases hi; exact hg)

theorem setCells_keep (g : Nat) : ∀ (vs : List Value) (o : Nat) {w : World} {cur : List Value}, Blk w g e cur →
    Upd g w (w.setCells g o vs) ∧ ∃ cur', Blk (w.setCells g o vs) g e cur' ∧ cur'.length = cur.length ∧ cur'.take o = cur.take o
  | [], o, w, cur, h => ⟨Upd.refl _ _, cur, h, rfl, rfl⟩
  | v :: r, o, w, cur, h => by
    obtain ⟨h1, cur', h2, h3, h4⟩ := setCells_keep g r (o + 1) (h.set o v)
    rw [World.setCells]
    refine ⟨(Upd.set w g o v).trans h1, cur', h2, by rw [h3, List.length_set], ?_⟩
    have h5 := congrArg (List.take o) h4
    rw [List.take_take, List.take_take, Nat.min_eq_left (by omega)] at h5
    rw [h5, List.take_set_of_le (Nat.le_refl _)]
end

section
variable {P : Program}
/-- xs[:j] -/
theorem slice_to {t e : TypeId} (ht : P.underlying t = some (.slice e)) {z : Value} {n b : Nat} (hi : (P.info? e).map (fun i => (i.zero, i.size, i.bytes)) = some (some z, n, b)) (A : Option Addr) (l c j : Nat) (hc : j ≤ c) :
    ∀ W : World, (Instr.slice t (.slice A l c) none (some (.int .i64 (j : Int))) none).run P W = .ok (.slice A j c) W := by
  intro W
  obtain ⟨i, hi, _, _, _⟩ := info_parts hi
  have hel : P.elem t = e := by simp [Program.elem, ht]
  have hu : P.underlying t = some (.slice (P.elem t)) := by rw [hel]; exact ht
  have ha : (A.map fun x => x.add 0) = A := by cases A <;> simp [Addr.add]
  rw [run_slice_h W t A l c hu .i64 (j : Int) (Int.natCast_nonneg _) (by omega), hel]
  simp [sizeOf, typeInfo, hi, sliced, Result.andThen, ha]
/-- xs[j:] -/
theorem slice_from {t e : TypeId} (ht : P.underlying t = some (.slice e)) {z : Value} {n b : Nat} (hi : (P.info? e).map (fun i => (i.zero, i.size, i.bytes)) = some (some z, n, b)) (A : Option Addr) (l c j : Nat) (hm : j ≤ l) :
    ∀ W : World, (Instr.slice t (.slice A l c) (some (.int .i64 (j : Int))) none none).run P W = .ok (.slice (if c = j then A else A.map (·.add (j * n))) (l - j) (c - j)) W := by
  intro W
  obtain ⟨i, hi, _, hs, _⟩ := info_parts hi
  have hel : P.elem t = e := by simp [Program.elem, ht]
  have hu : P.underlying t = some (.slice (P.elem t)) := by rw [hel]; exact ht
  rw [run_slice_l W t A l c hu .i64 (j : Int) (Int.natCast_nonneg _) (by omega), hel]
  simp [sizeOf, typeInfo, hi, hs, sliced, Result.andThen]
end

theorem own_typed {w : World} {base : Nat} {e : TypeId} {size n : Nat} {v : Value} {xs : List Value} (h : w.ownsRow base e size v n xs) {g : Nat} (hg : v.ownBlock = some g) :
    base ≤ g ∧ g < w.heap.size ∧ ∃ cur, w.heap[g]? = some (.cells cur e (0, 0)) := by
  obtain ⟨-, ⟨rfl, -⟩ | ⟨g', cap, cur, rfl, hb, hh, -⟩⟩ := h
  · simp [Value.ownBlock] at hg
  · simp [Value.ownBlock] at hg
    subst hg
    exact ⟨hb, (Array.getElem?_eq_some_iff.1 hh).1, cur, hh⟩

theorem own_apart {w : World} {b b' : Nat} {e e' : TypeId} {s s' n n' : Nat} {v v' : Value} {xs xs' : List Value} (h : w.ownsRow b e s v n xs) (h' : w.ownsRow b' e' s' v' n' xs') (hne : e ≠ e') : v.ownBlock = none ∨ v.ownBlock ≠ v'.ownBlock := by
  cases hv : v.ownBlock with
  | none => exact .inl rfl
  | some g =>
    refine .inr fun he => hne ?_
    obtain ⟨-, -, cur, h1⟩ := own_typed h hv
    obtain ⟨-, -, cur', h2⟩ := own_typed h' he.symm
    rw [h1] at h2
    injection h2 with h2
    injection h2

/-- A slice of slices of integers, all of the call's own. -/
def OwnLL (w : World) (base : Nat) (v : Value) (xss : List (List Int)) : Prop :=
  ∃ vs, w.ownsRow base 22 1 v vs.length vs ∧ vs.length = xss.length ∧ ∀ j (h : j < vs.length) (h' : j < xss.length), OwnI w base vs[j] xss[j]

theorem OwnLL.ext {w w' : World} {base : Nat} {v : Value} {xss : List (List Int)} (h : OwnLL w base v xss) (k : Ext w w') : OwnLL w' base v xss := by
  obtain ⟨vs, h1, h2, h3⟩ := h
  exact ⟨vs, own_ext h1 k, h2, fun j hj hj' => own_ext (h3 j hj hj') k⟩

theorem OwnLL.lower {w : World} {base base' : Nat} {v : Value} {xss : List (List Int)} (h : OwnLL w base v xss) (hb : base' ≤ base) : OwnLL w base' v xss := by
  obtain ⟨vs, h1, h2, h3⟩ := h
  exact ⟨vs, own_lower h1 hb, h2, fun j hj hj' => own_lower (h3 j hj hj') hb⟩

theorem OwnLL.nil (w : World) (base : Nat) : OwnLL w base (.slice none 0 0) [] := ⟨[], World.ownsRow_nil w base _ 1, rfl, fun j h => absurd h (Nat.not_lt_zero j)⟩

theorem OwnLL.reads {w : World} {base : Nat} {v : Value} {xss : List (List Int)} (h : OwnLL w base v xss) : RLL w v xss := by
  obtain ⟨vs, h1, h2, h3⟩ := h
  obtain ⟨A, c, h4, h5, h6, h7⟩ := own_row h1
  exact ⟨A, c, vs, h4, h5, h6, h7, h2, fun j hj hj' => (h3 j hj hj').reads⟩

theorem OwnI.one {w : World} {base : Nat} {v : Value} {xs : List Int} (h : OwnI w base v xs) : v.oneCell' = true := by
  obtain ⟨-, ⟨rfl, -⟩ | ⟨g', cap, cur, rfl, -⟩⟩ := h <;> rfl

/-- An element more, behind the append of its value. -/
theorem OwnLL.snoc {w w' : World} {base : Nat} {v v' : Value} {vs : List Value} {xss : List (List Int)} {u : Value} {xs : List Int} (h2 : vs.length = xss.length) (h3 : ∀ j (h : j < vs.length) (h' : j < xss.length), OwnI w base vs[j] xss[j])
    (ho : w.ownsRow base 22 1 v vs.length vs) (hu : OwnI w base u xs) (h' : w'.ownsRow base 22 1 v' (vs.length + 1) (vs ++ [u])) (hg : w.grownBy w' v.ownBlock) : OwnLL w' base v' (xss ++ [xs]) := by
  have keep : ∀ {u : Value} {xs : List Int}, OwnI w base u xs → OwnI w' base u xs := fun h => h.kept hg (own_apart h ho (by decide))
  refine ⟨vs ++ [u], by simpa using h', by simp [h2], fun j hj hj' => ?_⟩
  by_cases hlt : j < vs.length
  · rw [List.getElem_append_left hlt, List.getElem_append_left (by omega)]
    exact keep (h3 j hlt (by omega))
  · have e : j = vs.length := by simp at hj; omega
    subst e
    rw [List.getElem_append_right (Nat.le_refl _), List.getElem_append_right (by omega)]
    simp only [Nat.sub_self, List.getElem_cons_zero, h2]
    exact keep hu

/-- The one cell of a slice literal of one element. -/
theorem one_cell (w : World) (v : Value) (t : TypeId) : ∀ j u, [v][j]? = some u → (w.alloc (.cells #[v] t)).cell? ((⟨w.heap.size, 0, none⟩ : Addr).add j) = some u := fun j u hu => by
  obtain ⟨hj, he⟩ := List.getElem?_eq_some_iff.1 hu
  obtain rfl : j = 0 := by simpa using hj
  simp only [List.getElem_cons_zero] at he
  rw [addr0, ← he]
  exact (Var1.new w t v).cell

/-- Only blocks of S may have been turned; there may be new ones. -/
structure Chg (S : Nat → Prop) (w w' : World) : Prop where
  os : w'.os = w.os
  tape : w'.tape = w.tape
  output : w'.output = w.output
  size : w.heap.size ≤ w'.heap.size
  block : ∀ k, k < w.heap.size → ¬ S k → w'.heap[k]? = w.heap[k]?

section
variable {S S' : Nat → Prop} {w w' a b c : World}
theorem Chg.refl (S : Nat → Prop) (w : World) : Chg S w w := ⟨rfl, rfl, rfl, Nat.le_refl _, fun _ _ _ => rfl⟩
theorem Chg.then (h : Chg S a b) (k : Chg S' b c) (hs : ∀ i, S' i → S i ∨ a.heap.size ≤ i) : Chg S a c :=
  ⟨k.os.trans h.os, k.tape.trans h.tape, k.output.trans h.output, Nat.le_trans h.size k.size, fun i hi hn =>
    (k.block i (Nat.lt_of_lt_of_le hi h.size) (fun hs' => (hs i hs').elim hn (fun h' => absurd h' (by omega)))).trans (h.block i hi hn)⟩
theorem Chg.trans (h : Chg S a b) (k : Chg S b c) : Chg S a c := h.then k fun _ h => .inl h
theorem Chg.mono (h : Chg S w w') (hs : ∀ i, S i → S' i) : Chg S' w w' := ⟨h.os, h.tape, h.output, h.size, fun i hi hn => h.block i hi fun h' => hn (hs i h')⟩
theorem Ext.chg (S : Nat → Prop) (h : Ext w w') : Chg S w w' := ⟨h.os, h.tape, h.output, h.size, fun i hi _ => h.block i hi⟩
theorem Chg.ext (h : Chg S a b) (k : Ext b c) : Chg S a c := h.trans (k.chg S)
theorem grown_chg {row : Option Nat} (h : w.grownBy w' row) : Chg (fun i => some i = row) w w' := ⟨h.os, h.tape, h.output, h.size, h.block⟩
theorem Upd.chg {g : Nat} (h : Upd g w w') : Chg (fun i => i = g) w w' := ⟨h.os, h.tape, h.output, h.size, fun i hi hn => h.block i hi (fun e => hn (by injection e))⟩
theorem Chg.set (w : World) (g i : Nat) (u : Value) : Chg (fun k => k = g) w (w.setCell ⟨g, i, none⟩ u) := (Upd.set w g i u).chg
theorem Chg.blk (h : Chg S w w') {g : Nat} {e : TypeId} {cur : List Value} (hb : Blk w g e cur) (hn : ¬ S g) : Blk w' g e cur := (h.block g hb.lt hn).trans hb
theorem Chg.own (h : Chg S w w') {base : Nat} {e : TypeId} {size n : Nat} {v : Value} {xs : List Value} (ho : w.ownsRow base e size v n xs) (hn : ∀ k, v.ownBlock = some k → ¬ S k) : w'.ownsRow base e size v n xs := by
  obtain ⟨h1, h2 | ⟨g, cap, cur, rfl, hb, hg, r⟩⟩ := ho
  · exact ⟨h1, .inl h2⟩
  · exact ⟨h1, .inr ⟨g, cap, cur, rfl, hb, (h.block g (Array.getElem?_eq_some_iff.1 hg).1 (hn g rfl)).trans hg, r⟩⟩
theorem Chg.toExt {w0 : World} (h : Ext w0 w) (k : Chg S w w') (hs : ∀ i, S i → w0.heap.size ≤ i) : Ext w0 w' :=
  ⟨k.os.trans h.os, k.tape.trans h.tape, k.output.trans h.output, Nat.le_trans h.size k.size, fun i hi => (k.block i (Nat.lt_of_lt_of_le hi h.size) fun hn => by have := hs i hn; omega).trans (h.block i hi)⟩
end

end Go.Proofs.YteokoaggkpjdeaaDoor
namespace Go.Proofs.YteokoaggkpjdeaaDoor
open Go.RowKit

theorem ret_int {k : IntKind} {a b : Int} (h : a = b) : Ending.returned (.int k a) = .returned (.int k b) := by rw [h]

theorem ret_bool {a b : Bool} (h : a = b) : Ending.returned (.bool a) = .returned (.bool b) := by rw [h]
theorem wrapu (n : Int) : IntKind.u64.wrap n = n % 18446744073709551616 := by
  simp [IntKind.wrap, IntKind.signed, IntKind.bits]

set_option maxHeartbeats 400000 in
theorem size_any (n : Int) (hn : I64 n) (w : World) :
    Calls Tryd.prog 84 #[.int .i64 n] w fun e w' => e = .returned (.int .u64 (n.natAbs : Int)) ∧ w = w' := by
  unfold I64 at hn
  go_enter Tryd.func84, Tryd.ntmps84
  go_wp2
  all_goals
    go_ret
    refine ⟨ret_int ?_, rfl⟩
    try simp only [wrapu]
    omega

set_option maxHeartbeats 400000 in
theorem var_any (n : Int) (hn : I64 n) (w : World) :
    Calls Tryd.prog 57 #[.int .i64 n] w fun e w' => e = .returned (.int .i64 (varOf n)) ∧ w = w' := by
  have hn' := hn
  unfold I64 at hn'
  go_enter Tryd.func57, Tryd.ntmps57
  go_wp2_with (go_at_call 84; refine (size_any _ hn _).mono ?_; rintro e w' ⟨rfl, rfl⟩)
  all_goals
    go_ret
    refine ⟨ret_int ?_, rfl⟩
    unfold varOf
    first | rw [if_pos (by omega)] | rw [if_neg (by omega)]

theorem var_still (n : Int) (hn : I64 n) (w : World) :
    Calls Tryd.prog 57 #[.int .i64 n] w fun e w' => e = .returned (.int .i64 (varOf n)) ∧ w' = w := (var_any n hn w).mono fun _ _ ⟨h1, h2⟩ => ⟨h1, h2.symm⟩

set_option maxHeartbeats 400000 in
theorem may_any (v : Value) (xs : List Int) (w : World) (hr : RI w v xs) (h64 : All64 xs) :
    Calls Tryd.prog 43 #[v] w fun e w' => e = .returned (.bool (mayB xs)) ∧ w = w' := by
  obtain ⟨A, c, rfl, hc, hm, hcell⟩ := hr
  have HC := Lib.hid hcell
  clear hcell
  go_enter Tryd.func43, Tryd.ntmps43
  go_wp2
  go_loop [3, 9] (fun l i => ∃ (k : Nat) (last : Int), k ≤ xs.length ∧ i = .int .i64 k ∧ l = .int .i64 last ∧ Hid (mayFrom last (xs.drop k) = mayB xs)) (fun _ i => xs.length - (intOf i).toNat)
  case atStart => exact ⟨0, 0, Nat.zero_le _, rfl, rfl, rfl⟩
  case round =>
    obtain ⟨k, last, hk, rfl, rfl, HI⟩ := hrel
    by_cases hlt : k < xs.length
    · obtain ⟨ad, rfl, hcell⟩ := HC.out.int k hlt
      have hx := h64 _ (List.getElem_mem hlt)
      have HD := Lib.hid (mayFrom_drop last xs k hlt)
      go_wp2_with (go_at_call 57; refine (var_any _ hx _).mono ?_; rintro e w' ⟨rfl, rfl⟩)
      · go_ret
        have hle : varOf xs[k] ≤ last := by assumption
        refine ⟨ret_bool ?_, rfl⟩
        rw [← HI.out, HD.out, if_pos hle]
      · go_round
        case rel =>
          have hgt : last < varOf xs[k] := by assumption
          exact ⟨k + 1, varOf xs[k], by omega, by go_num, rfl, by rw [← HI.out, HD.out, if_neg (by omega)]; rfl⟩
        case measure => simp [intOf]; omega
    · go_wp2
      go_ret
      refine ⟨ret_bool ?_, rfl⟩
      rw [← HI.out, List.drop_eq_nil_of_le (by omega)]; rfl

end Go.Proofs.YteokoaggkpjdeaaDoor
namespace Go.Proofs.YteokoaggkpjdeaaDoor
open Go.RowKit

/-- What IndexFunc comes to: the first place of n at which p holds, or -1. -/
def IdxOf (p : Nat → Bool) (n : Nat) (r : Int) : Prop :=
  (∃ k, k < n ∧ p k = true ∧ (∀ j, j < k → p j = false) ∧ r = (k : Int)) ∨ ((∀ j, j < n → p j = false) ∧ r = -1)

/-- .. with a state that each call turns. -/
def IdxSt (p : Nat → Bool) (n : Nat) (J : Nat → World → Prop) (r : Int) (w : World) : Prop :=
  (∃ k, k < n ∧ p k = true ∧ (∀ j, j < k → p j = false) ∧ r = (k : Int) ∧ J (k + 1) w) ∨ ((∀ j, j < n → p j = false) ∧ r = -1 ∧ J n w)

def PostIdx (p : Nat → Bool) (n : Nat) (J : Nat → World → Prop) (e : Ending) (w : World) : Prop := ∃ r : Int, e = .returned (.int .i64 r) ∧ IdxSt p n J r w

set_option maxHeartbeats 400000 in
theorem indexFuncI (f : FuncId) (cap : Array Value) (hf : Fv Tryd.prog f) (A : Option Addr) (c : Nat) (vs : List Value) (hm : vs.length ≤ 9223372036854775807) (p : Nat → Bool) (J : Nat → World → Prop) (w : World)
    (hJ : ∀ k w', J k w' → Row w' A vs)
    (hcl : ∀ k (h : k < vs.length) w', J k w' → Calls Tryd.prog f (#[vs[k]] ++ cap) w' fun e w'' => e = .returned (.bool (p k)) ∧ J (k + 1) w'')
    (h0 : J 0 w) :
    Calls Tryd.prog 71 #[.slice A vs.length c, .func (.func f) #[] cap] w (PostIdx p vs.length J) := by
  have HJ := Lib.hid hJ
  have HCL := Lib.hid hcl
  have H0 := Lib.hid h0
  clear hJ hcl h0
  go_enter Tryd.func71, Tryd.ntmps71
  go_wp2
  go_loopw [8] (fun i wr => ∃ k : Nat, k ≤ vs.length ∧ i = .int .i64 k ∧ Hid (J k wr) ∧ Hid (∀ j, j < k → p j = false)) (fun i _ => vs.length - (intOf i).toNat)
  case atStart => exact ⟨0, Nat.zero_le _, rfl, H0, fun j h => absurd h (Nat.not_lt_zero j)⟩
  case round =>
    obtain ⟨k, hk, rfl, HK, HP⟩ := hrel
    by_cases hlt : k < vs.length
    · obtain ⟨ad, rfl, hcell⟩ := HJ.out k _ HK.out k hlt
      go_wp2_with (refine wpList_callv (.tmp 11) #[.tmp 15] _ rfl rfl cap rfl hf (#[vs[k]] ++ cap) (by simp only [List.map_toArray, List.map_cons, List.map_nil]; rfl) ?_; refine (HCL.out k hlt _ HK.out).mono ?_; rintro e w' ⟨rfl, hJ'⟩; refine ⟨_, rfl, ?_⟩; have HJ' := Lib.hid hJ'; clear hJ')
      · go_ret
        exact ⟨k, rfl, .inl ⟨k, hlt, by assumption, HP.out, rfl, HJ'.out⟩⟩
      · have hpk : p k = false := by assumption
        go_round
        case rel => exact ⟨k + 1, by omega, by go_num, HJ', fun j hj => if h : j = k then h ▸ hpk else HP.out j (by omega)⟩
        case measure => simp [intOf]; omega
    · go_wp2
      go_ret
      obtain rfl : k = vs.length := by omega
      exact ⟨-1, rfl, .inr ⟨HP.out, rfl, HK.out⟩⟩
set_option maxHeartbeats 400000 in
theorem indexFuncL (f : FuncId) (cap : Array Value) (hf : Fv Tryd.prog f) (A : Option Addr) (c : Nat) (vs : List Value) (hm : vs.length ≤ 9223372036854775807) (p : Nat → Bool) (J : Nat → World → Prop) (w : World)
    (hJ : ∀ k w', J k w' → Row w' A vs)
    (hcl : ∀ k (h : k < vs.length) w', J k w' → Calls Tryd.prog f (#[vs[k]] ++ cap) w' fun e w'' => e = .returned (.bool (p k)) ∧ J (k + 1) w'')
    (h0 : J 0 w) :
    Calls Tryd.prog 95 #[.slice A vs.length c, .func (.func f) #[] cap] w (PostIdx p vs.length J) := by
  have HJ := Lib.hid hJ
  have HCL := Lib.hid hcl
  have H0 := Lib.hid h0
  clear hJ hcl h0
  go_enter Tryd.func95, Tryd.ntmps95
  go_wp2
  go_loopw [8] (fun i wr => ∃ k : Nat, k ≤ vs.length ∧ i = .int .i64 k ∧ Hid (J k wr) ∧ Hid (∀ j, j < k → p j = false)) (fun i _ => vs.length - (intOf i).toNat)
  case atStart => exact ⟨0, Nat.zero_le _, rfl, H0, fun j h => absurd h (Nat.not_lt_zero j)⟩
  case round =>
    obtain ⟨k, hk, rfl, HK, HP⟩ := hrel
    by_cases hlt : k < vs.length
    · obtain ⟨ad, rfl, hcell⟩ := HJ.out k _ HK.out k hlt
      go_wp2_with (refine wpList_callv (.tmp 11) #[.tmp 15] _ rfl rfl cap rfl hf (#[vs[k]] ++ cap) (by simp only [List.map_toArray, List.map_cons, List.map_nil]; rfl) ?_; refine (HCL.out k hlt _ HK.out).mono ?_; rintro e w' ⟨rfl, hJ'⟩; refine ⟨_, rfl, ?_⟩; have HJ' := Lib.hid hJ'; clear hJ')
      · go_ret
        exact ⟨k, rfl, .inl ⟨k, hlt, by assumption, HP.out, rfl, HJ'.out⟩⟩
      · have hpk : p k = false := by assumption
        go_round
        case rel => exact ⟨k + 1, by omega, by go_num, HJ', fun j hj => if h : j = k then h ▸ hpk else HP.out j (by omega)⟩
        case measure => simp [intOf]; omega
    · go_wp2
      go_ret
      obtain rfl : k = vs.length := by omega
      exact ⟨-1, rfl, .inr ⟨HP.out, rfl, HK.out⟩⟩

def PostCont (p : Nat → Bool) (n : Nat) (J : Nat → World → Prop) (e : Ending) (w : World) : Prop := ∃ r : Int, e = .returned (.bool (decide (0 ≤ r))) ∧ IdxSt p n J r w

set_option maxHeartbeats 400000 in
theorem containsFuncI (f : FuncId) (cap : Array Value) (hf : Fv Tryd.prog f) (A : Option Addr) (c : Nat) (vs : List Value) (hm : vs.length ≤ 9223372036854775807) (p : Nat → Bool) (J : Nat → World → Prop) (w : World)
    (hJ : ∀ k w', J k w' → Row w' A vs)
    (hcl : ∀ k (h : k < vs.length) w', J k w' → Calls Tryd.prog f (#[vs[k]] ++ cap) w' fun e w'' => e = .returned (.bool (p k)) ∧ J (k + 1) w'')
    (h0 : J 0 w) :
    Calls Tryd.prog 82 #[.slice A vs.length c, .func (.func f) #[] cap] w (PostCont p vs.length J) := by
  have H := Lib.hid (indexFuncI f cap hf A c vs hm p J w hJ hcl h0)
  clear hJ hcl h0
  go_enter Tryd.func82, Tryd.ntmps82
  go_wp2_with (go_at_call 71; refine H.out.mono ?_; rintro e w' ⟨r, rfl, hs⟩; have HS := Lib.hid hs; clear hs)
  go_ret
  exact ⟨r, rfl, HS.out⟩
set_option maxHeartbeats 400000 in
theorem containsFuncL (f : FuncId) (cap : Array Value) (hf : Fv Tryd.prog f) (A : Option Addr) (c : Nat) (vs : List Value) (hm : vs.length ≤ 9223372036854775807) (p : Nat → Bool) (J : Nat → World → Prop) (w : World)
    (hJ : ∀ k w', J k w' → Row w' A vs)
    (hcl : ∀ k (h : k < vs.length) w', J k w' → Calls Tryd.prog f (#[vs[k]] ++ cap) w' fun e w'' => e = .returned (.bool (p k)) ∧ J (k + 1) w'')
    (h0 : J 0 w) :
    Calls Tryd.prog 77 #[.slice A vs.length c, .func (.func f) #[] cap] w (PostCont p vs.length J) := by
  have H := Lib.hid (indexFuncL f cap hf A c vs hm p J w hJ hcl h0)
  clear hJ hcl h0
  go_enter Tryd.func77, Tryd.ntmps77
  go_wp2_with (go_at_call 95; refine H.out.mono ?_; rintro e w' ⟨r, rfl, hs⟩; have HS := Lib.hid hs; clear hs)
  go_ret
  exact ⟨r, rfl, HS.out⟩

end Go.Proofs.YteokoaggkpjdeaaDoor
namespace Go.Proofs.YteokoaggkpjdeaaDoor
open Go.RowKit

set_option maxHeartbeats 400000 in
/-- The literal's own walk: the counter lies in block B. -/
theorem mayCnf_fn (w0 : World) (B : Nat) (n : Int) (v : Value) (xs : List Int) (w : World) (hr : RI w0 v xs) (h64 : All64 xs) (hE : Ext w0 w) (hB0 : w0.heap.size ≤ B) (hB : Var1 w B 3 (.int .i64 n)) (hn : 0 ≤ n) (hs : n + xs.length ≤ 9223372036854775807) :
    Calls Tryd.prog 78 #[v, .pointer (some ⟨B, 0, none⟩)] w fun e w' => e = .returned (.bool (decide (200000 < n + xs.length) || !mayB xs)) ∧ w' = w.setCell ⟨B, 0, none⟩ (.int .i64 (n + xs.length)) := by
  have hc := hB.cell
  have hf := hB.free
  have HR := Lib.hid (hr.ext (Below.setCell hE (p := ⟨B, 0, none⟩) hB0 (.int .i64 (n + xs.length))))
  obtain ⟨A, c, rfl, h1, h2, h3⟩ := hr
  clear h3 hB hE
  by_cases hbig : 200000 < n + xs.length
  · have hd : decide (200000 < n + (xs.length : Int)) = true := by simpa using hbig
    go_enter Tryd.func78, Tryd.ntmps78
    go_wp2_with fail
    go_ret
    exact ⟨by simp [hd], rfl⟩
  · have hd : decide (200000 < n + (xs.length : Int)) = false := by simpa using hbig
    go_enter Tryd.func78, Tryd.ntmps78
    go_wp2_with (go_at_call 43; refine (may_any _ xs _ HR.out h64).mono ?_; rintro e w' ⟨rfl, rfl⟩)
    go_ret
    exact ⟨by simp [hd], rfl⟩

theorem fv_mayCnf1 : Fv Tryd.prog 78 := ⟨_, Tryd.func78, by kernel_rfl, by kernel_rfl⟩

theorem mayCnfB_of (xss : List (List Int)) (J : Nat → World → Prop) (r : Int) (w : World) (hl : xss.length ≤ 20000)
    (h : IdxSt (fun k => decide (200000 < (lens xss k : Int) + (xss.getD k []).length) || !mayB (xss.getD k [])) xss.length J r w) : (!decide (0 ≤ r)) = mayCnfB xss := by
  have key : ∀ k, k < xss.length → (decide (lens xss (k + 1) ≤ 200000) && mayB (xss.getD k [])) = !(decide (200000 < (lens xss k : Int) + (xss.getD k []).length) || !mayB (xss.getD k [])) := fun k hk => by
    rw [lens_succ xss k hk, getD_of xss k hk, Bool.not_or, Bool.not_not, ← decide_not]
    congr 1
    simp only [decide_eq_decide]
    omega
  unfold mayCnfB
  rcases h with ⟨k, hk, hp, _, rfl, _⟩ | ⟨hp, rfl, _⟩
  · have hz : (List.range xss.length).all (fun k => decide (lens xss (k + 1) ≤ 200000) && mayB (xss.getD k [])) = false := by
      rw [List.all_eq_false]
      exact ⟨k, by simpa using hk, by rw [key k hk, show (_ || _) = true from hp]; simp⟩
    rw [hz]; simp
  · have hz : (List.range xss.length).all (fun k => decide (lens xss (k + 1) ≤ 200000) && mayB (xss.getD k [])) = true := by
      rw [List.all_eq_true]
      intro j hj
      have hj' : j < xss.length := by simpa using hj
      rw [key j hj', show (_ || _) = false from hp j hj']; rfl
    rw [hz]; simp [hl]

set_option maxHeartbeats 400000 in
theorem mayCnf_any (v : Value) (xss : List (List Int)) (w : World) (hr : RLL w v xss) (h64 : All64L xss) (ht : xss.length ≤ 20000 → total xss ≤ 9223372036854775807) :
    Calls Tryd.prog 44 #[v] w fun e w' => e = .returned (.bool (mayCnfB xss)) ∧ Ext w w' := by
  obtain ⟨A, c, vs, rfl, h1, h2, h3, h4, h5⟩ := hr
  have H4 := Lib.hid h4
  have H5 := Lib.hid h5
  have H3 := Lib.hid h3
  have HT := Lib.hid ht
  clear h4 h5 h3 ht
  by_cases hlen : vs.length ≤ 20000
  · have hd : decide (((vs.length : Nat) : Int) ≤ 20000) = true := by simp; omega
    have HCF := containsFuncL 78 #[.pointer (some ⟨w.heap.size, 0, none⟩)] fv_mayCnf1 A c vs h2
      (fun k => decide (200000 < (lens xss k : Int) + (xss.getD k []).length) || !mayB (xss.getD k []))
      (fun k w' => Ext w w' ∧ Var1 w' w.heap.size 3 (.int .i64 (lens xss k))) (w.alloc (.cells #[.int .i64 0] 3))
      (fun k w' h => H3.out.ext h.1)
      (fun k hk w' hJ => by
        have hk' : k < xss.length := by rw [← H4.out]; exact hk
        have hg := getD_of xss k hk'
        have hle := lens_le xss (k + 1)
        have hsu := lens_succ xss k hk'
        have := HT.out (by rw [← H4.out]; exact hlen)
        have hcl := mayCnf_fn w w.heap.size (lens xss k) vs[k] xss[k] w' (H5.out k hk hk') (h64 _ (List.getElem_mem hk')) hJ.1 (Nat.le_refl _) hJ.2 (by omega) (by omega)
        refine hcl.mono ?_
        rintro e w'' ⟨rfl, rfl⟩
        refine ⟨by rw [hg], hJ.1.setCell (Nat.le_refl _) _, ?_⟩
        rw [hsu]
        exact hJ.2.set _)
      ⟨Ext.alloc w _, Var1.new w _ _⟩
    have HC := Lib.hid HCF
    clear HCF
    go_enter Tryd.func44, Tryd.ntmps44
    go_wp2_with (go_at_call 77; refine HC.out.mono ?_; rintro e w' ⟨r, rfl, hs⟩; have HS := Lib.hid hs; clear hs)
    go_ret
    refine ⟨ret_bool (mayCnfB_of xss _ r w' (by rw [← H4.out]; exact hlen) (by rw [← H4.out]; exact HS.out)), ?_⟩
    rcases HS.out with ⟨k, _, _, _, _, h⟩ | ⟨_, _, h⟩
    · exact h.1
    · exact h.1
  · have hd : decide (((vs.length : Nat) : Int) ≤ 20000) = false := by simp; omega
    go_enter Tryd.func44, Tryd.ntmps44
    go_wp2_with fail
    go_ret
    refine ⟨ret_bool ?_, Ext.alloc w _⟩
    have := H4.out
    unfold mayCnfB
    rw [decide_eq_false (by omega)]
    rfl

end Go.Proofs.YteokoaggkpjdeaaDoor
namespace Go.Proofs.YteokoaggkpjdeaaDoor
open Go.RowKit

theorem quiet_same {P : Program} {f : FuncId} {args : Array Value} {w : World} {n : Nat} {v : Value}
    (h : Calls P f args (w.drewN n) fun e w' => e = .returned v ∧ w.drewN n = w') : Calls P f args (w.drewN n) fun e w'' => e = .returned v ∧ ∃ m, w'' = w.drewN m :=
  h.mono fun _ _ ⟨he, hm⟩ => ⟨he, n, hm.symm⟩

def PostSearch (p : Nat → Bool) (n : Nat) (J : World → Prop) (e : Ending) (w : World) : Prop := ∃ r : Nat, e = .returned (.int .i64 r) ∧ SearchAt p n r ∧ J w

theorem shr1 (x : Int) : x / 2 ^ 1 = x / 2 := by simp

set_option maxHeartbeats 400000 in
theorem search_any (f : FuncId) (cap : Array Value) (hf : Fv Tryd.prog f) (n : Nat) (hn : n ≤ 4611686018427387903) (p : Nat → Bool) (J : World → Prop) (w : World)
    (hcl : ∀ k, k < n → ∀ w', J w' → Calls Tryd.prog f (#[.int .i64 k] ++ cap) w' fun e w'' => e = .returned (.bool (p k)) ∧ J w'')
    (h0 : J w) :
    Calls Tryd.prog 80 #[.int .i64 n, .func (.func f) #[] cap] w (PostSearch p n J) := by
  have HCL := Lib.hid hcl
  have H0 := Lib.hid h0
  clear hcl h0
  go_enter Tryd.func80, Tryd.ntmps80
  go_wp2
  go_loopw [5, 6] (fun i j wr => ∃ a b : Nat, a ≤ b ∧ b ≤ n ∧ i = .int .i64 a ∧ j = .int .i64 b ∧ Hid (J wr) ∧ Hid ((b < n → p b = true) ∧ (0 < a → p (a - 1) = false))) (fun i j _ => (intOf j).toNat - (intOf i).toNat)
  case atStart => exact ⟨0, n, Nat.zero_le _, Nat.le_refl _, rfl, rfl, H0, fun h => absurd h (Nat.lt_irrefl _), fun h => absurd h (Nat.lt_irrefl _)⟩
  case round =>
    obtain ⟨a, b, hab, hbn, rfl, rfl, HK, HP⟩ := hrel
    by_cases hlt : a < b
    · obtain ⟨m, hm⟩ : ∃ m : Nat, m = (a + b) / 2 := ⟨_, rfl⟩
      have hmm : ((a : Int) + b) / 2 = (m : Int) := by omega
      have hm1 : a ≤ m := by omega
      have hm2 : m < b := by omega
      clear hm
      go_wp2_with (refine wpList_callv (.tmp 18) #[.tmp 19] _ rfl rfl cap rfl hf (#[.int .i64 m] ++ cap) (by simp only [List.map_toArray, List.map_cons, List.map_nil]; rfl) ?_; refine (HCL.out m (by omega) _ HK.out).mono ?_; rintro e w' ⟨rfl, hJ'⟩; refine ⟨_, rfl, ?_⟩; have HJ' := Lib.hid hJ'; clear hJ')
      · have hpm : (!p m) = true := by assumption
        go_round
        case rel => exact ⟨m + 1, b, by omega, by omega, by go_num, rfl, HJ', HP.out.1, fun _ => by simpa using hpm⟩
        case measure => simp [intOf]; omega
      · have hpm : (!p m) = false := by assumption
        go_round
        case rel => exact ⟨a, m, by omega, by omega, rfl, rfl, HJ', fun _ => by simpa using hpm, HP.out.2⟩
        case measure => simp [intOf]; omega
    · go_wp2
      go_ret
      obtain rfl : a = b := by omega
      exact ⟨a, rfl, ⟨hbn, HP.out.1, HP.out.2⟩, HK.out⟩


theorem fv_look1 : Fv Tryd.prog 81 := ⟨_, Tryd.func81, by kernel_rfl, by kernel_rfl⟩

/-- look's literal: is the variable of number i at least v? -/
theorem look_fn (xs : List Int) (k : Nat) (hk : k < xs.length) (v : Int) (pa pv : Nat) (A : Option Addr) (c : Nat) (w : World) (h64 : All64 xs)
    (ha : w.cell? ⟨pa, 0, none⟩ = some (.slice A xs.length c)) (hv : w.cell? ⟨pv, 0, none⟩ = some (.int .i64 v)) (hr : Row w A (xs.map (Value.int .i64))) :
    Calls Tryd.prog 81 #[.int .i64 k, .pointer (some ⟨pa, 0, none⟩), .pointer (some ⟨pv, 0, none⟩)] w fun e w' => e = .returned (.bool (decide (v ≤ varOf xs[k]))) ∧ ∃ m, w' = w.drewN m := by
  obtain ⟨ad, rfl, hcell⟩ := hr.int k hk
  have hx := h64 _ (List.getElem_mem hk)
  clear hr
  have hk1 : (k : Int) < xs.length := by omega
  have hk0 : (0 : Int) ≤ k := by omega
  go_enter Tryd.func81, Tryd.ntmps81
  go_wp2
  go_quiet ((go_at_call 57; exact quiet_same (var_any _ hx _)))
  go_wp2
  go_ret
  exact ⟨rfl, _, rfl⟩

/-- look's two variables, boxed. -/
theorem boxes (w w' : World) (a b : Value) (t u : TypeId) (h : Ext ((w.alloc (.cells #[a] t)).alloc (.cells #[b] u)) w') :
    w'.cell? ⟨w.heap.size, 0, none⟩ = some a ∧ w'.cell? ⟨w.heap.size + 1, 0, none⟩ = some b ∧ Ext w w' := by
  refine ⟨?_, ?_, ((Ext.alloc w _).trans (Ext.alloc _ _)).trans h⟩
  · exact (((Var1.new w t a).ext (Ext.alloc _ (.cells #[b] u))).ext h).cell
  · have hs : (w.alloc (.cells #[a] t)).heap.size = w.heap.size + 1 := Array.size_push _
    have := ((Var1.new (w.alloc (.cells #[a] t)) u b).ext h).cell
    rwa [hs] at this

set_option maxHeartbeats 800000 in
theorem look_any (xs : List Int) (lit : Int) (v : Value) (w : World) (h64 : All64 xs) (hl : I64 lit) (hr : RI w v xs) (hmay : mayB xs = true) :
    Calls Tryd.prog 48 #[v, .int .i64 lit] w fun e w' => e = .returned (.int .u8 (lookI xs lit)) ∧ Ext w w' := by
  obtain ⟨A, c, rfl, h1, h2, h3⟩ := hr
  have HASC := Lib.hid ((mayB_iff xs).1 hmay)
  have H3 := Lib.hid h3
  clear h3
  go_enter Tryd.func48, Tryd.ntmps48
  have HS := Lib.hid (search_any 81 #[.pointer (some ⟨w.heap.size, 0, none⟩), .pointer (some ⟨w.heap.size + 1, 0, none⟩)] fv_look1 xs.length (by have := may_len hmay; omega)
    (fun k => decide (varOf lit ≤ varOf (xs.getD k 0))) (fun w' => Ext ((w.alloc (.cells #[.slice A xs.length c] 22)).alloc (.cells #[.int .i64 (varOf lit)] 3)) w')
    ((w.alloc (.cells #[.slice A xs.length c] 22)).alloc (.cells #[.int .i64 (varOf lit)] 3))
    (by
      intro k hk w' hw
      obtain ⟨b1, b2, b3⟩ := boxes _ _ _ _ _ _ hw
      refine (look_fn xs k hk (varOf lit) _ _ A c _ h64 b1 b2 (H3.out.ext b3)).mono ?_
      rintro e w' ⟨rfl, n, rfl⟩
      exact ⟨by rw [getD_int xs k hk], hw.trans (Ext.drewN _ _)⟩)
    (Ext.refl _))
  clear hmay
  go_wp2_with fail
  refine (var_any _ hl _).mono ?_
  rintro e w' ⟨rfl, rfl⟩
  go_wp2_with fail
  refine HS.out.mono ?_
  rintro e w1 ⟨r, rfl, hr, hw1⟩
  dsimp only
  have HR := Lib.hid hr
  have hrn := hr.1
  clear hr
  obtain ⟨b1, b2, b3⟩ := boxes _ _ _ _ _ _ hw1
  have H3' := Lib.hid (H3.out.ext b3)
  have B3 := Lib.hid b3
  clear b3 HS H3 hw1
  by_cases hv : varOf lit = 0
  · have hvb : (varOf lit == 0) = true := by simp [hv]
    have HV := Lib.hid hv
    clear hv
    go_wp2
    go_quiet (fail)
    go_wp2
    go_ret
    exact ⟨ret_int (by unfold lookI; rw [if_pos HV.out]), B3.out.trans (Ext.drewN _ _)⟩
  · have hvb : (varOf lit == 0) = false := by simpa using hv
    have HV := Lib.hid hv
    clear hv
    by_cases hn : r < xs.length
    · obtain ⟨ad, rfl, hcell⟩ := H3'.out.int r hn
      have hx := h64 _ (List.getElem_mem hn)
      have hnb : (((r : Nat) : Int) == ((xs.length : Nat) : Int)) = false := by simp; omega
      have hn0 : (0 : Int) ≤ r := by omega
      have hn1 : (r : Int) < xs.length := by omega
      by_cases he : varOf xs[r] = varOf lit
      · have heb : (varOf xs[r] != varOf lit) = false := by simp [he]
        have HE := Lib.hid he
        clear he
        go_wp2
        go_quiet ((go_at_call 57; exact quiet_same (var_any _ hx _)))
        by_cases hq : xs[r] = lit
        · have hqb : (xs[r] == lit) = true := by simp [hq]
          have HQ := Lib.hid hq
          clear hq
          go_wp2
          go_ret
          exact ⟨ret_int (by rw [look_at HASC.out HV.out HR.out hn HE.out, if_pos HQ.out]), B3.out.trans (Ext.drewN _ _)⟩
        · have hqb : (xs[r] == lit) = false := by simp [hq]
          have HQ := Lib.hid hq
          clear hq
          go_wp2
          go_ret
          exact ⟨ret_int (by rw [look_at HASC.out HV.out HR.out hn HE.out, if_neg HQ.out]), B3.out.trans (Ext.drewN _ _)⟩
      · have heb : (varOf xs[r] != varOf lit) = true := by simp [he]
        have HE := Lib.hid he
        clear he
        go_wp2
        go_quiet ((go_at_call 57; exact quiet_same (var_any _ hx _)))
        go_wp2
        go_ret
        exact ⟨ret_int (by rw [look_none HASC.out HV.out HR.out (fun _ => HE.out)]), B3.out.trans (Ext.drewN _ _)⟩
    · have hnb : (((r : Nat) : Int) == ((xs.length : Nat) : Int)) = true := by simp; omega
      go_wp2
      go_quiet (fail)
      go_wp2
      go_ret
      exact ⟨ret_int (by rw [look_none HASC.out HV.out HR.out (fun h => absurd h hn)]), B3.out.trans (Ext.drewN _ _)⟩

end Go.Proofs.YteokoaggkpjdeaaDoor
namespace Go.Proofs.YteokoaggkpjdeaaDoor
open Go.RowKit

def PostSrch (g : Nat → Int) (n : Nat) (a b : Int) (J : World → Prop) (e : Ending) (w : World) : Prop := e = .returned (.int .u8 (searchG g n a b)) ∧ J w

set_option maxHeartbeats 400000 in
theorem searchI (f : FuncId) (cap : Array Value) (hf : Fv Tryd.prog f) (A : Option Addr) (c : Nat) (vs : List Value) (hm : vs.length ≤ 9223372036854775807) (g : Nat → Int) (a b : Int) (J : World → Prop) (w : World)
    (hJ : ∀ w', J w' → Row w' A vs)
    (hcl : ∀ k (h : k < vs.length) w', J w' → Calls Tryd.prog f (#[vs[k]] ++ cap) w' fun e w'' => e = .returned (.int .u8 (g k)) ∧ J w'')
    (h0 : J w) :
    Calls Tryd.prog 61 #[.slice A vs.length c, .func (.func f) #[] cap, .int .u8 a, .int .u8 b] w (PostSrch g vs.length a b J) := by
  have HJ := Lib.hid hJ
  have HCL := Lib.hid hcl
  have H0 := Lib.hid h0
  clear hJ hcl h0
  go_enter Tryd.func61, Tryd.ntmps61
  go_wp2
  go_loopw [9, 15] (fun o i wr => ∃ (k : Nat) (r : Int), k ≤ vs.length ∧ i = .int .i64 k ∧ o = .int .u8 r ∧ Hid (J wr) ∧ Hid ((∀ j, j < k → g j ≠ a) ∧ r = if ∃ j, j < k ∧ g j = 0 then 0 else b)) (fun _ i _ => vs.length - (intOf i).toNat)
  case atStart => exact ⟨0, b, Nat.zero_le _, rfl, rfl, H0, fun j h => absurd h (Nat.not_lt_zero j), by simp⟩
  case round =>
    obtain ⟨k, r, hk, rfl, rfl, HK, HP⟩ := hrel
    by_cases hlt : k < vs.length
    · obtain ⟨ad, rfl, hcell⟩ := HJ.out _ HK.out k hlt
      by_cases ha : g k = a
      · have hab : (g k == a) = true := by simp [ha]
        have HA := Lib.hid ha
        clear ha
        go_wp2_with (refine wpList_callv (.tmp 19) #[.tmp 20] _ rfl rfl cap rfl hf (#[vs[k]] ++ cap) (by simp only [List.map_toArray, List.map_cons, List.map_nil]; rfl) ?_; refine (HCL.out k hlt _ HK.out).mono ?_; rintro e w' ⟨rfl, hJ'⟩; refine ⟨_, rfl, ?_⟩; have HJ' := Lib.hid hJ'; clear hJ')
        go_ret
        exact ⟨ret_int (searchG_found hlt HA.out).symm, HJ'.out⟩
      · have hab : (g k == a) = false := by simp [ha]
        have HA := Lib.hid ha
        clear ha
        by_cases hz : g k = 0
        · have hzb : (g k == 0) = true := by simp [hz]
          have HZ := Lib.hid hz
          clear hz
          go_wp2_with (refine wpList_callv (.tmp 19) #[.tmp 20] _ rfl rfl cap rfl hf (#[vs[k]] ++ cap) (by simp only [List.map_toArray, List.map_cons, List.map_nil]; rfl) ?_; refine (HCL.out k hlt _ HK.out).mono ?_; rintro e w' ⟨rfl, hJ'⟩; refine ⟨_, rfl, ?_⟩; have HJ' := Lib.hid hJ'; clear hJ')
          go_round
          case rel => exact ⟨k + 1, 0, by omega, by go_num, rfl, HJ', fun j hj => if h : j = k then h ▸ HA.out else HP.out.1 j (by omega), by rw [if_pos ⟨k, by omega, HZ.out⟩]⟩
          case measure => simp [intOf]; omega
        · have hzb : (g k == 0) = false := by simp [hz]
          have HZ := Lib.hid hz
          clear hz
          go_wp2_with (refine wpList_callv (.tmp 19) #[.tmp 20] _ rfl rfl cap rfl hf (#[vs[k]] ++ cap) (by simp only [List.map_toArray, List.map_cons, List.map_nil]; rfl) ?_; refine (HCL.out k hlt _ HK.out).mono ?_; rintro e w' ⟨rfl, hJ'⟩; refine ⟨_, rfl, ?_⟩; have HJ' := Lib.hid hJ'; clear hJ')
          go_round
          case rel => exact ⟨k + 1, r, by omega, by go_num, rfl, HJ', fun j hj => if h : j = k then h ▸ HA.out else HP.out.1 j (by omega), by rw [HP.out.2]; exact searchG_skip HZ.out⟩
          case measure => simp [intOf]; omega
    · go_wp2
      go_ret
      obtain rfl : k = vs.length := by omega
      exact ⟨ret_int (searchG_end HP.out.1 HP.out.2), HK.out⟩
set_option maxHeartbeats 400000 in
theorem searchL (f : FuncId) (cap : Array Value) (hf : Fv Tryd.prog f) (A : Option Addr) (c : Nat) (vs : List Value) (hm : vs.length ≤ 9223372036854775807) (g : Nat → Int) (a b : Int) (J : World → Prop) (w : World)
    (hJ : ∀ w', J w' → Row w' A vs)
    (hcl : ∀ k (h : k < vs.length) w', J w' → Calls Tryd.prog f (#[vs[k]] ++ cap) w' fun e w'' => e = .returned (.int .u8 (g k)) ∧ J w'')
    (h0 : J w) :
    Calls Tryd.prog 51 #[.slice A vs.length c, .func (.func f) #[] cap, .int .u8 a, .int .u8 b] w (PostSrch g vs.length a b J) := by
  have HJ := Lib.hid hJ
  have HCL := Lib.hid hcl
  have H0 := Lib.hid h0
  clear hJ hcl h0
  go_enter Tryd.func51, Tryd.ntmps51
  go_wp2
  go_loopw [9, 15] (fun o i wr => ∃ (k : Nat) (r : Int), k ≤ vs.length ∧ i = .int .i64 k ∧ o = .int .u8 r ∧ Hid (J wr) ∧ Hid ((∀ j, j < k → g j ≠ a) ∧ r = if ∃ j, j < k ∧ g j = 0 then 0 else b)) (fun _ i _ => vs.length - (intOf i).toNat)
  case atStart => exact ⟨0, b, Nat.zero_le _, rfl, rfl, H0, fun j h => absurd h (Nat.not_lt_zero j), by simp⟩
  case round =>
    obtain ⟨k, r, hk, rfl, rfl, HK, HP⟩ := hrel
    by_cases hlt : k < vs.length
    · obtain ⟨ad, rfl, hcell⟩ := HJ.out _ HK.out k hlt
      by_cases ha : g k = a
      · have hab : (g k == a) = true := by simp [ha]
        have HA := Lib.hid ha
        clear ha
        go_wp2_with (refine wpList_callv (.tmp 19) #[.tmp 20] _ rfl rfl cap rfl hf (#[vs[k]] ++ cap) (by simp only [List.map_toArray, List.map_cons, List.map_nil]; rfl) ?_; refine (HCL.out k hlt _ HK.out).mono ?_; rintro e w' ⟨rfl, hJ'⟩; refine ⟨_, rfl, ?_⟩; have HJ' := Lib.hid hJ'; clear hJ')
        go_ret
        exact ⟨ret_int (searchG_found hlt HA.out).symm, HJ'.out⟩
      · have hab : (g k == a) = false := by simp [ha]
        have HA := Lib.hid ha
        clear ha
        by_cases hz : g k = 0
        · have hzb : (g k == 0) = true := by simp [hz]
          have HZ := Lib.hid hz
          clear hz
          go_wp2_with (refine wpList_callv (.tmp 19) #[.tmp 20] _ rfl rfl cap rfl hf (#[vs[k]] ++ cap) (by simp only [List.map_toArray, List.map_cons, List.map_nil]; rfl) ?_; refine (HCL.out k hlt _ HK.out).mono ?_; rintro e w' ⟨rfl, hJ'⟩; refine ⟨_, rfl, ?_⟩; have HJ' := Lib.hid hJ'; clear hJ')
          go_round
          case rel => exact ⟨k + 1, 0, by omega, by go_num, rfl, HJ', fun j hj => if h : j = k then h ▸ HA.out else HP.out.1 j (by omega), by rw [if_pos ⟨k, by omega, HZ.out⟩]⟩
          case measure => simp [intOf]; omega
        · have hzb : (g k == 0) = false := by simp [hz]
          have HZ := Lib.hid hz
          clear hz
          go_wp2_with (refine wpList_callv (.tmp 19) #[.tmp 20] _ rfl rfl cap rfl hf (#[vs[k]] ++ cap) (by simp only [List.map_toArray, List.map_cons, List.map_nil]; rfl) ?_; refine (HCL.out k hlt _ HK.out).mono ?_; rintro e w' ⟨rfl, hJ'⟩; refine ⟨_, rfl, ?_⟩; have HJ' := Lib.hid hJ'; clear hJ')
          go_round
          case rel => exact ⟨k + 1, r, by omega, by go_num, rfl, HJ', fun j hj => if h : j = k then h ▸ HA.out else HP.out.1 j (by omega), by rw [HP.out.2]; exact searchG_skip HZ.out⟩
          case measure => simp [intOf]; omega
    · go_wp2
      go_ret
      obtain rfl : k = vs.length := by omega
      exact ⟨ret_int (searchG_end HP.out.1 HP.out.2), HK.out⟩

theorem All64.getD {xs : List Int} (h : All64 xs) (k : Nat) (hk : k < xs.length) : I64 (xs.getD k 0) := by rw [getD_int xs k hk]; exact h _ (List.getElem_mem hk)

theorem fv_clause_fn : Fv Tryd.prog 79 := ⟨_, Tryd.func79, by kernel_rfl, by kernel_rfl⟩
theorem clause_fn (xs : List Int) (lit : Int) (pa : Nat) (v : Value) (w : World) (h64 : All64 xs) (hl : I64 lit) (hr : RI w v xs) (hmay : mayB xs = true) (ha : w.cell? ⟨pa, 0, none⟩ = some v) :
    Calls Tryd.prog 79 #[.int .i64 lit, .pointer (some ⟨pa, 0, none⟩)] w fun e w' => e = .returned (.int .u8 (lookI xs lit)) ∧ Ext w w' := by
  have HM := Lib.hid hmay
  have HR := Lib.hid hr
  clear hmay
  obtain ⟨A, c, rfl, h1, h2, h3⟩ := hr
  clear h3
  go_enter Tryd.func79, Tryd.ntmps79
  go_wp2_with (go_at_call 48; refine (look_any xs lit _ _ h64 hl HR.out HM.out).mono ?_; rintro e w' ⟨rfl, hE⟩)
  go_ret
  exact ⟨rfl, hE⟩
theorem fv_cube_fn : Fv Tryd.prog 62 := ⟨_, Tryd.func62, by kernel_rfl, by kernel_rfl⟩
theorem cube_fn (xs : List Int) (lit : Int) (pa : Nat) (v : Value) (w : World) (h64 : All64 xs) (hl : I64 lit) (hr : RI w v xs) (hmay : mayB xs = true) (ha : w.cell? ⟨pa, 0, none⟩ = some v) :
    Calls Tryd.prog 62 #[.int .i64 lit, .pointer (some ⟨pa, 0, none⟩)] w fun e w' => e = .returned (.int .u8 (lookI xs lit)) ∧ Ext w w' := by
  have HM := Lib.hid hmay
  have HR := Lib.hid hr
  clear hmay
  obtain ⟨A, c, rfl, h1, h2, h3⟩ := hr
  clear h3
  go_enter Tryd.func62, Tryd.ntmps62
  go_wp2_with (go_at_call 48; refine (look_any xs lit _ _ h64 hl HR.out HM.out).mono ?_; rintro e w' ⟨rfl, hE⟩)
  go_ret
  exact ⟨rfl, hE⟩

/-- What asg.clause and its twins ask of a boxed assignment. -/
theorem RI.row {w : World} {A : Option Addr} {n c : Nat} {xs : List Int} (h : RI w (.slice A n c) xs) : n = xs.length ∧ xs.length ≤ c ∧ xs.length ≤ 9223372036854775807 ∧ Row w A (xs.map (Value.int .i64)) := by
  obtain ⟨A', c', e, h1, h2, h3⟩ := h
  cases e
  exact ⟨rfl, h1, h2, h3⟩

set_option maxHeartbeats 400000 in
theorem clause_any (xs cs : List Int) (v u : Value) (w : World) (h64 : All64 xs) (k64 : All64 cs) (hr : RI w v xs) (kr : RI w u cs) (hmay : mayB xs = true) :
    Calls Tryd.prog 45 #[v, u] w fun e w' => e = .returned (.int .u8 (clauseV xs cs)) ∧ Ext w w' := by
  have HM := Lib.hid hmay
  have HR := Lib.hid hr
  clear hmay
  obtain ⟨A, c, rfl, h1, h2, h3⟩ := hr
  obtain ⟨B, d, rfl, k1, k2, k3⟩ := kr
  have HS := Lib.hid (searchI 79 #[.pointer (some ⟨w.heap.size, 0, none⟩)] fv_clause_fn B d (cs.map (Value.int .i64)) (by simpa using k2) (fun k => lookI xs (cs.getD k 0)) 1 2
    (fun w' => Ext (w.alloc (.cells #[.slice A xs.length c] 22)) w') (w.alloc (.cells #[.slice A xs.length c] 22))
    (fun w' hw => k3.ext ((Ext.alloc w _).trans hw))
    (fun k hk w' hw => by
      have hk' : k < cs.length := by simpa using hk
      have hcell := ((Var1.new w 22 (.slice A xs.length c)).ext hw).cell
      have hc := clause_fn xs (cs.getD k 0) w.heap.size (.slice A xs.length c) w' h64 (k64.getD k hk') (HR.out.ext ((Ext.alloc w _).trans hw)) HM.out hcell
      rw [List.getElem_map, ← getD_int cs k hk']
      refine hc.mono ?_
      rintro e w'' ⟨rfl, hE⟩
      exact ⟨rfl, hw.trans hE⟩)
    (Ext.refl _))
  rw [List.length_map] at HS
  clear h3 k3
  go_enter Tryd.func45, Tryd.ntmps45
  go_wp2_with (go_at_call 61; refine HS.out.mono ?_; rintro e w' ⟨rfl, hE⟩)
  go_ret
  exact ⟨rfl, (Ext.alloc w _).trans hE⟩

set_option maxHeartbeats 400000 in
theorem Value_any (xs : List Int) (lit : Int) (v : Value) (w : World) (h64 : All64 xs) (hl : I64 lit) (hr : RI w v xs) :
    Calls Tryd.prog 23 #[v, .int .i64 lit] w fun e w' => e = .returned (.int .u8 (ValueV xs lit)) ∧ Ext w w' := by
  cases hm : mayB xs
  all_goals
    have HM := Lib.hid hm
    have HL := Lib.hid (may_any v xs w hr h64)
    rw [hm] at HL
    clear hm
    go_enter Tryd.func23, Tryd.ntmps23
    go_wp2_with (first
      | (go_at_call 43; refine HL.out.mono ?_; rintro e w' ⟨rfl, rfl⟩)
      | (go_at_call 48; refine (look_any xs lit _ _ h64 hl hr HM.out).mono ?_; rintro e w' ⟨rfl, hE⟩))
    go_ret
  · exact ⟨ret_int (by unfold ValueV; rw [if_neg (by rw [HM.out]; decide)]), Ext.refl _⟩
  · exact ⟨ret_int (by unfold ValueV; rw [if_pos HM.out]), hE⟩

set_option maxHeartbeats 400000 in
theorem Clause_any (xs cs : List Int) (v u : Value) (w : World) (h64 : All64 xs) (k64 : All64 cs) (hr : RI w v xs) (kr : RI w u cs) :
    Calls Tryd.prog 25 #[v, u] w fun e w' => e = .returned (.int .u8 (ClauseV xs cs)) ∧ Ext w w' := by
  cases hm : mayB xs <;> cases km : mayB cs
  all_goals
    have HM := Lib.hid hm
    have KM := Lib.hid km
    have HL := Lib.hid (may_any v xs w hr h64)
    have KL := Lib.hid (may_any u cs w kr k64)
    rw [hm] at HL
    rw [km] at KL
    clear hm km
    go_enter Tryd.func25, Tryd.ntmps25
    go_wp2_with (first
      | (go_at_call_of 43 v; refine HL.out.mono ?_; rintro e w' ⟨rfl, rfl⟩)
      | (go_at_call_of 43 u; refine KL.out.mono ?_; rintro e w' ⟨rfl, rfl⟩)
      | (go_at_call 45; refine (clause_any xs cs _ _ _ h64 k64 hr kr HM.out).mono ?_; rintro e w' ⟨rfl, hE⟩))
    go_ret
  · exact ⟨ret_int (by unfold ClauseV; rw [if_neg (by rw [HM.out]; simp)]), Ext.refl _⟩
  · exact ⟨ret_int (by unfold ClauseV; rw [if_neg (by rw [HM.out]; simp)]), Ext.refl _⟩
  · exact ⟨ret_int (by unfold ClauseV; rw [if_neg (by rw [KM.out]; simp)]), Ext.refl _⟩
  · exact ⟨ret_int (by unfold ClauseV; rw [if_pos ⟨HM.out, KM.out⟩]), hE⟩

theorem RI.mk {w : World} {A : Option Addr} {c : Nat} {xs : List Int} (h1 : xs.length ≤ c) (h2 : xs.length ≤ 9223372036854775807) (h3 : Row w A (xs.map (Value.int .i64))) : RI w (.slice A xs.length c) xs := ⟨A, c, rfl, h1, h2, h3⟩

set_option maxHeartbeats 400000 in
theorem Cube_any (xs cs : List Int) (v u : Value) (w : World) (h64 : All64 xs) (k64 : All64 cs) (hr : RI w v xs) (kr : RI w u cs) :
    Calls Tryd.prog 27 #[v, u] w fun e w' => e = .returned (.int .u8 (CubeV xs cs)) ∧ Ext w w' := by
  cases hm : mayB xs <;> cases km : mayB cs
  all_goals
    have HM := Lib.hid hm
    have KM := Lib.hid km
    have HR := Lib.hid hr
    have KR := Lib.hid kr
    obtain ⟨A, c, rfl, h1, h2, h3⟩ := hr
    obtain ⟨B, d, rfl, k1, k2, k3⟩ := kr
    have HC := Lib.hid (Var1.new w 22 (.slice A xs.length c)).cell
    have HL := Lib.hid (may_any _ xs _ (HR.out.ext (Ext.alloc w (.cells #[.slice A xs.length c] 22))) h64)
    have KL := Lib.hid (may_any _ cs _ (KR.out.ext (Ext.alloc w (.cells #[.slice A xs.length c] 22))) k64)
    rw [hm] at HL
    rw [km] at KL
    clear hm km h3
  case true.true =>
    have HS := Lib.hid (searchI 62 #[.pointer (some ⟨w.heap.size, 0, none⟩)] fv_cube_fn B d (cs.map (Value.int .i64)) (by simpa using k2) (fun k => lookI xs (cs.getD k 0)) 2 1
      (fun w' => Ext (w.alloc (.cells #[.slice A xs.length c] 22)) w') (w.alloc (.cells #[.slice A xs.length c] 22))
      (fun w' hw => k3.ext ((Ext.alloc w _).trans hw))
      (fun k hk w' hw => by
        have hk' : k < cs.length := by simpa using hk
        have hcell := ((Var1.new w 22 (.slice A xs.length c)).ext hw).cell
        have hc := cube_fn xs (cs.getD k 0) w.heap.size (.slice A xs.length c) w' h64 (k64.getD k hk') (HR.out.ext ((Ext.alloc w _).trans hw)) HM.out hcell
        rw [List.getElem_map, ← getD_int cs k hk']
        refine hc.mono ?_
        rintro e w'' ⟨rfl, hE⟩
        exact ⟨rfl, hw.trans hE⟩)
      (Ext.refl _))
    rw [List.length_map] at HS
    clear k3
    have hc := HC.out
    go_enter Tryd.func27, Tryd.ntmps27
    go_wp2_with fail
    refine HL.out.mono ?_
    rintro e w' ⟨rfl, rfl⟩
    go_wp2_with fail
    refine KL.out.mono ?_
    rintro e w' ⟨rfl, rfl⟩
    go_wp2_with (go_at_call 61; refine HS.out.mono ?_; rintro e w' ⟨rfl, hE⟩)
    go_ret
    exact ⟨ret_int (by unfold CubeV; rw [if_pos ⟨HM.out, KM.out⟩]; rfl), (Ext.alloc w _).trans hE⟩
  case true.false =>
    have hc := HC.out
    clear k3
    go_enter Tryd.func27, Tryd.ntmps27
    go_wp2_with fail
    refine HL.out.mono ?_
    rintro e w' ⟨rfl, rfl⟩
    go_wp2_with fail
    refine KL.out.mono ?_
    rintro e w' ⟨rfl, rfl⟩
    go_wp2
    go_ret
    exact ⟨ret_int (by unfold CubeV; rw [if_neg (by rw [KM.out]; simp)]), Ext.alloc w _⟩
  all_goals
    have hc := HC.out
    clear k3
    go_enter Tryd.func27, Tryd.ntmps27
    go_wp2_with fail
    refine HL.out.mono ?_
    rintro e w' ⟨rfl, rfl⟩
    go_wp2
    go_ret
    exact ⟨ret_int (by unfold CubeV; rw [if_neg (by rw [HM.out]; simp)]), Ext.alloc w _⟩

end Go.Proofs.YteokoaggkpjdeaaDoor
namespace Go.Proofs.YteokoaggkpjdeaaDoor
open Go.RowKit

theorem info_int : (Tryd.prog.info? 3).map (fun i => (i.zero, i.size, i.bytes)) = some (some (.int .i64 0), 1, 8) := by kernel_rfl
theorem info_ints : (Tryd.prog.info? 22).map (fun i => (i.zero, i.size, i.bytes)) = some (some (.slice none 0 0), 1, 24) := by kernel_rfl

theorem Row.nil {w : World} {vs : List Value} (h : Row w none vs) : vs = [] := by
  cases vs with
  | nil => rfl
  | cons x xs => obtain ⟨ad, h, _⟩ := h 0 (by simp); cases h

theorem Row.cells {w : World} {ad : Addr} {vs : List Value} (h3 : Row w (some ad) vs) : ∀ j u, vs[j]? = some u → w.cell? (ad.add j) = some u := fun j u hu => by
  obtain ⟨hj, he⟩ := List.getElem?_eq_some_iff.1 hu
  obtain ⟨ad', h, hc⟩ := h3 j hj
  cases h
  rw [hc, he]

/-- A new block of no cells is a row of the call's own. -/
theorem own_none (w : World) (e : TypeId) (base : Nat) (hb : base ≤ w.heap.size) : (w.alloc (.cells #[] e)).ownsRow base e 1 (.slice (some ⟨w.heap.size, 0, none⟩) 0 0) 0 [] :=
  World.ownsRow_made w #[] 0 hb (by simp [maxLen]) (by simp)

set_option maxHeartbeats 400000 in
theorem cloneRowI (A : Option Addr) (c : Nat) (vs : List Value) (w : World) (h1 : ∀ u ∈ vs, u.oneCell' = true) (h2 : vs.length ≤ 9223372036854775807) (h3 : Row w A vs) (hb : vs.length * 8 ≤ 140737488355328) :
    Calls Tryd.prog 13 #[.slice A vs.length c] w fun e w' => ∃ v', e = .returned v' ∧ w'.ownsRow w.heap.size 3 1 v' vs.length vs ∧ Ext w w' := by
  obtain ⟨i0, hi, hz0, hz1, hz2⟩ := info_parts info_int
  have q : ∀ (w : World) (a : Option Addr) (n c n' c' : Nat), (binOp .eql 22 (.slice a n c) (.slice none n' c')).run Tryd.prog w = .ok (.bool a.isNone) w := fun w a n c n' c' => Lib.run_eql_slice_nil w _ 3 a n c n' c' Tryd.underlying22
  cases A with
  | none =>
    have hx := h3.nil
    subst hx
    go_enter Tryd.func13, Tryd.ntmps13
    go_wp2
    go_ret
    exact ⟨_, rfl, World.ownsRow_nil w _ _ 1, Ext.refl _⟩
  | some ad =>
    have H3 := Lib.hid (Row.ext h3 (Ext.alloc w (.cells #[] 3)))
    have H1 := Lib.hid h1
    have HB := Lib.hid hb
    clear h3 h1 hb
    have HZ := Lib.hid hz0
    have HZ1 := Lib.hid hz1
    have HZ2 := Lib.hid hz2
    have HI := Lib.hid hi
    clear hz0 hz1 hz2 hi
    have HOWN := Lib.hid (own_none w 3 w.heap.size (Nat.le_refl _))
    go_enter Tryd.func13, Tryd.ntmps13
    go_wp2_with (at_builtin; refine wpList_append_own _ rfl (.tmp 5) (.tmp 6) 22 rfl w.heap.size 3 i0 (.int .i64 0) 1 8 Tryd.underlying22 HI.out HZ.out HZ1.out HZ2.out rfl (by decide) _ 0 [] rfl HOWN.out ad vs.length c vs rfl (by simp) H3.out.cells H1.out (by unfold maxLen; omega) (by rw [Nat.zero_add]; exact HB.out) (by simp) ?_; intro v' w1 hown hg _; have HO := Lib.hid hown; have HG := Lib.hid hg; clear hown hg)
    go_ret
    refine ⟨_, rfl, ?_, ?_⟩
    · have := HO.out
      rwa [Nat.zero_add, List.nil_append] at this
    · exact (Ext.alloc w _).grown HG.out (fun k hk => by cases hk; exact Nat.le_refl _)
set_option maxHeartbeats 400000 in
theorem cloneRowL (A : Option Addr) (c : Nat) (vs : List Value) (w : World) (h1 : ∀ u ∈ vs, u.oneCell' = true) (h2 : vs.length ≤ 9223372036854775807) (h3 : Row w A vs) (hb : vs.length * 24 ≤ 140737488355328) :
    Calls Tryd.prog 39 #[.slice A vs.length c] w fun e w' => ∃ v', e = .returned v' ∧ w'.ownsRow w.heap.size 22 1 v' vs.length vs ∧ Ext w w' := by
  obtain ⟨i0, hi, hz0, hz1, hz2⟩ := info_parts info_ints
  have q : ∀ (w : World) (a : Option Addr) (n c n' c' : Nat), (binOp .eql 23 (.slice a n c) (.slice none n' c')).run Tryd.prog w = .ok (.bool a.isNone) w := fun w a n c n' c' => Lib.run_eql_slice_nil w _ 22 a n c n' c' Tryd.underlying23
  cases A with
  | none =>
    have hx := h3.nil
    subst hx
    go_enter Tryd.func39, Tryd.ntmps39
    go_wp2
    go_ret
    exact ⟨_, rfl, World.ownsRow_nil w _ _ 1, Ext.refl _⟩
  | some ad =>
    have H3 := Lib.hid (Row.ext h3 (Ext.alloc w (.cells #[] 22)))
    have H1 := Lib.hid h1
    have HB := Lib.hid hb
    clear h3 h1 hb
    have HZ := Lib.hid hz0
    have HZ1 := Lib.hid hz1
    have HZ2 := Lib.hid hz2
    have HI := Lib.hid hi
    clear hz0 hz1 hz2 hi
    have HOWN := Lib.hid (own_none w 22 w.heap.size (Nat.le_refl _))
    go_enter Tryd.func39, Tryd.ntmps39
    go_wp2_with (at_builtin; refine wpList_append_own _ rfl (.tmp 5) (.tmp 6) 23 rfl w.heap.size 22 i0 (.slice none 0 0) 1 24 Tryd.underlying23 HI.out HZ.out HZ1.out HZ2.out rfl (by decide) _ 0 [] rfl HOWN.out ad vs.length c vs rfl (by simp) H3.out.cells H1.out (by unfold maxLen; omega) (by rw [Nat.zero_add]; exact HB.out) (by simp) ?_; intro v' w1 hown hg _; have HO := Lib.hid hown; have HG := Lib.hid hg; clear hown hg)
    go_ret
    refine ⟨_, rfl, ?_, ?_⟩
    · have := HO.out
      rwa [Nat.zero_add, List.nil_append] at this
    · exact (Ext.alloc w _).grown HG.out (fun k hk => by cases hk; exact Nat.le_refl _)

theorem cloneI_any (v : Value) (xs : List Int) (w : World) (hr : RI w v xs) (hb : xs.length * 8 ≤ 140737488355328) :
    Calls Tryd.prog 13 #[v] w fun e w' => ∃ v', e = .returned v' ∧ OwnI w' w.heap.size v' xs ∧ Ext w w' := by
  obtain ⟨A, c, rfl, h1, h2, h3⟩ := hr
  have := cloneRowI A c (xs.map (Value.int .i64)) w (by simp [Value.oneCell']) (by simpa using h2) h3 (by simpa using hb)
  rw [List.length_map] at this
  exact this

theorem getD_val (vs : List Value) (k : Nat) (h : k < vs.length) (d : Value) : vs.getD k d = vs[k] := by
  rw [List.getD_eq_getElem?_getD, List.getElem?_eq_getElem h]; rfl

/-- What has been moved to the front when b elements have been seen. -/
def Moved {α : Type} (enc : α → Value) (p : α → Bool) (xs : List α) (cur : List Value) (a b : Nat) : Prop :=
  cur.take a = ((xs.take b).filter (fun u => !p u)).map enc ∧ (∀ j (h : j < xs.length), b ≤ j → cur[j]? = some (enc xs[j])) ∧ a ≤ b ∧ b ≤ xs.length ∧ xs.length ≤ cur.length

section
variable {α : Type} {enc : α → Value} {p : α → Bool} {xs : List α} {cur : List Value} {a b : Nat}
theorem Moved.keep (h : Moved enc p xs cur a b) (hb : b < xs.length) (hp : p xs[b] = false) : Moved enc p xs (cur.set a (enc xs[b])) (a + 1) (b + 1) := by
  obtain ⟨h1, h2, h3, h4, h5⟩ := h
  refine ⟨?_, fun j hj hj' => ?_, by omega, by omega, by rw [List.length_set]; exact h5⟩
  · have ha : a < (cur.set a (enc xs[b])).length := by rw [List.length_set]; omega
    rw [List.take_succ_eq_append_getElem ha, List.take_set_of_le (Nat.le_refl _), h1, List.take_succ_eq_append_getElem hb, List.filter_append]
    simp [hp]
  · rw [List.getElem?_set_ne (by omega)]
    exact h2 j hj (by omega)

theorem Moved.drop (h : Moved enc p xs cur a b) (hb : b < xs.length) (hp : p xs[b] = true) : Moved enc p xs cur a (b + 1) := by
  obtain ⟨h1, h2, h3, h4, h5⟩ := h
  refine ⟨?_, fun j hj hj' => h2 j hj (by omega), by omega, by omega, h5⟩
  rw [h1, List.take_succ_eq_append_getElem hb, List.filter_append]
  simp [hp]

theorem Moved.start {k : Nat} (hk : k < xs.length) (hp : p xs[k] = true) (hn : ∀ (j : Nat) (hj : j < k), p (xs[j]'(by omega)) = false) (hc : ∀ j (h : j < xs.length), cur[j]? = some (enc xs[j])) (hl : xs.length ≤ cur.length) :
    Moved enc p xs cur k (k + 1) := by
  refine ⟨?_, fun j h _ => hc j h, by omega, by omega, hl⟩
  have h1 : cur.take k = (xs.take k).map enc := by
    apply List.ext_getElem?
    intro j
    simp only [List.getElem?_take, List.getElem?_map]
    split
    · rw [hc j (by omega), List.getElem?_eq_getElem (by omega)]; rfl
    · rfl
  rw [h1, List.take_succ_eq_append_getElem hk, List.filter_append]
  have h2 : (xs.take k).filter (fun u => !p u) = xs.take k := by
    rw [List.filter_eq_self]
    intro u hu
    obtain ⟨j, hj, rfl⟩ := List.getElem_of_mem hu
    rw [List.length_take] at hj
    rw [List.getElem_take, hn j (by omega)]
    rfl
  rw [h2]
  simp [hp]
end

theorem filter_none {α : Type} {p : α → Bool} {xs : List α} (h : ∀ j (hj : j < xs.length), p xs[j] = false) : xs.filter (fun u => !p u) = xs := by
  rw [List.filter_eq_self]
  intro u hu
  obtain ⟨j, hj, rfl⟩ := List.getElem_of_mem hu
  rw [h j hj]; rfl

theorem zero_deleteI : ∀ w, (zeroValue 3).run Tryd.prog w = .ok (Value.int .i64 0) w := fun _ => by kernel_rfl

def PostDel (base : Nat) (e : TypeId) (v : Value) (w : World) (rs : List Value) (en : Ending) (w' : World) : Prop :=
  ∃ v', en = .returned v' ∧ w'.ownsRow base e 1 v' rs.length rs ∧ w.grownBy w' v.ownBlock

set_option maxHeartbeats 1000000 in
theorem deleteI (f : FuncId) (cap : Array Value) (hf : Fv Tryd.prog f) (base : Nat) (v : Value) (xs : List Int) (p : Int → Bool) (w : World)
    (hown : w.ownsRow base 3 1 v xs.length (xs.map (Value.int .i64)))
    (hcl : ∀ u ∈ xs, ∀ w', w.grownBy w' v.ownBlock → Calls Tryd.prog f (#[Value.int .i64 u] ++ cap) w' fun e w'' => e = .returned (.bool (p u)) ∧ Ext w' w'') :
    Calls Tryd.prog 46 #[v, .func (.func f) #[] cap] w (PostDel base 3 v w ((xs.filter fun u => !p u).map (Value.int .i64))) := by
  have HO := Lib.hid hown
  have HCL := Lib.hid hcl
  have hrow := own_row (show w.ownsRow base 3 1 v (xs.map (Value.int .i64)).length (xs.map (Value.int .i64)) by rw [List.length_map]; exact hown)
  rw [List.length_map] at hrow
  obtain ⟨A, c, rfl, hc1, hc2, hrow⟩ := hrow
  clear hown hcl
  have HI := Lib.hid (indexFuncI f cap hf A c (xs.map (Value.int .i64)) (by rw [List.length_map]; exact hc2) (fun k => p (xs.getD k 0)) (fun _ w' => Ext w w') w (fun _ w' hw => hrow.ext hw)
    (fun k hk w' hw => by
      have hk' : k < xs.length := by simpa using hk
      have hg : xs.getD k 0 = xs[k] := by simp [hk']
      rw [List.getElem_map]
      refine (HCL.out _ (List.getElem_mem hk') w' ⟨hw.os, hw.tape, hw.output, hw.size, fun i hi _ => hw.block i hi⟩).mono ?_
      rintro e w'' ⟨rfl, hE⟩
      exact ⟨by rw [hg], hw.trans hE⟩) (Ext.refl w))
  rw [List.length_map] at HI
  clear hrow
  go_enter Tryd.func46, Tryd.ntmps46
  go_wp2_with fail
  refine HI.out.mono ?_
  rintro e w1 ⟨r, rfl, hs⟩
  dsimp only
  rcases hs with ⟨k, hk, hp, hn, rfl, hE⟩ | ⟨hn, rfl, hE⟩
  · have HP := Lib.hid hp
    have HN := Lib.hid hn
    have HE := Lib.hid hE
    clear hp hn hE HI
    obtain ⟨-, h | ⟨g, cap', cur, hv, hb, hg, hn', hm, hsz, ht⟩⟩ := HO.out
    · exact absurd h.2 (by omega)
    cases hv
    have HT := Lib.hid ht
    have HG : Hid (Blk w g 3 cur.toList) := Lib.hid (by unfold Blk; simpa using hg)
    have HSZ := Lib.hid hsz
    clear ht hg hsz
    have hmc : c ≤ 9223372036854775807 := by unfold maxLen at hm; omega
    have hkb : (((k : Nat) : Int) == -1) = false := by simp
    go_wp2
    go_loopw [5, 6] (fun i j wr => ∃ (a b : Nat) (cu : List Value), i = .int .i64 a ∧ j = .int .i64 b ∧ a < b ∧ b ≤ xs.length ∧ Hid (Upd g w wr ∧ Blk wr g 3 cu ∧ cu.length = c ∧ Moved (Value.int .i64) p xs cu a b)) (fun _ j _ => xs.length - (intOf j).toNat)
    case atStart =>
      refine ⟨k, k + 1, cur.toList, rfl, rfl, by omega, by omega, HE.out.upd g, HG.out.ext HE.out, by have := HSZ.out; simpa using this, Moved.start hk ?_ (fun j hj => ?_) (fun j hj => ?_) ?_⟩
      · have := HP.out; simpa [hk] using this
      · have := HN.out j hj; simpa [show j < xs.length by omega] using this
      · have := congrArg (fun l => l[j]?) HT.out
        rw [Nat.mul_one] at this
        simp only [List.getElem?_take, if_pos hj, List.getElem?_map, List.getElem?_eq_getElem hj] at this
        exact this
      · have := HSZ.out; simp; omega
    case round =>
      obtain ⟨a, b, cu, rfl, rfl, hab, hbn, HS⟩ := hrel
      by_cases hlt : b < xs.length
      · have hcell : wr.cell? ⟨g, b, none⟩ = some (Value.int .i64 xs[b]) := by rw [HS.out.2.1.cell, HS.out.2.2.2.2.1 b hlt (Nat.le_refl _)]
        cases hpb : p xs[b]
        all_goals
          have HPB := Lib.hid hpb
          have HC := Lib.hid (HCL.out xs[b] (List.getElem_mem hlt) wr HS.out.1)
          rw [hpb] at HC
          clear hpb
          go_wp2_with (
            refine wpList_callv (.tmp 26) #[.tmp 27] _ rfl rfl cap rfl hf (#[Value.int .i64 xs[b]] ++ cap) (by simp only [List.map_toArray, List.map_cons, List.map_nil]; rfl) ?_
            refine HC.out.mono ?_
            rintro e w2 ⟨rfl, hE2⟩
            refine ⟨_, rfl, ?_⟩
            have HE2 := Lib.hid hE2
            have hB2 := HS.out.2.1.ext hE2
            have hfz := hB2.free a
            obtain ⟨u0, hu0⟩ : ∃ u0, w2.cell? ⟨g, a, none⟩ = some u0 := by
              have h1 := HS.out.2.2.1
              have h2 := HS.out.2.2.2.2.2.2.2
              rw [hB2.cell]
              exact ⟨_, List.getElem?_eq_getElem (by omega)⟩
            have HB2 := Lib.hid hB2
            clear hE2 hB2
            clear hcell)
        · go_round
          case rel => exact ⟨a + 1, b + 1, cu.set a (Value.int .i64 xs[b]), by go_num, by go_num, by omega, by omega, (HS.out.1.trans (HE2.out.upd g)).trans (Upd.set _ g a _), HB2.out.set a _, by rw [List.length_set]; exact HS.out.2.2.1, HS.out.2.2.2.keep hlt HPB.out⟩
          case measure => simp [intOf]; omega
        · go_round
          case rel => exact ⟨a, b + 1, cu, rfl, by go_num, by omega, by omega, HS.out.1.trans (HE2.out.upd g), HB2.out, HS.out.2.2.1, HS.out.2.2.2.drop hlt HPB.out⟩
          case measure => simp [intOf]; omega
      · obtain rfl : b = xs.length := by omega
        have hB := HS.out.2.1
        have hlc : cu.length = c := HS.out.2.2.1
        have hsl1 := slice_from Tryd.underlying22 info_int (some ⟨g, 0, none⟩) xs.length c a (by omega)
        rw [if_neg (by omega), Option.map_some, addr0, Nat.mul_one] at hsl1
        have hsl2 := slice_to Tryd.underlying22 info_int (some ⟨g, 0, none⟩) xs.length c a (by omega)
        have hcl : ∀ ty, (Builtin.clear_ #[22] ty #[.slice (some ⟨g, a, none⟩) (xs.length - a) (c - a)]).run Tryd.prog wr = .ok (.tuple #[]) (wr.setCells g a (List.replicate (xs.length - a) (Value.int .i64 0))) := fun ty =>
          Lib.run_clear_slice wr 22 3 ty _ Tryd.underlying22 zero_deleteI rfl rfl g a (xs.length - a) (c - a) (by omega)
            (fun j hj => by rw [hB.cell, List.getElem?_eq_getElem (by omega)]; rfl) (fun j _ => hB.free _)
        obtain ⟨hU, cu', hB', hlc', htk⟩ := setCells_keep g (List.replicate (xs.length - a) (Value.int .i64 0)) a hB
        have HU := Lib.hid hU
        have HB' := Lib.hid hB'
        have HL' := Lib.hid hlc'
        have HTK := Lib.hid htk
        have HLC := Lib.hid hlc
        have HHB := Lib.hid hB
        clear hU hB' hlc' htk hlc hB
        go_wp2
        go_ret
        have hmv := HS.out.2.2.2.1
        rw [List.take_length] at hmv
        have hlen : a = ((xs.filter fun u => !p u).map (Value.int .i64)).length := by
          rw [← hmv, List.length_take]
          have := HLC.out
          omega
        refine ⟨_, rfl, ?_, HS.out.1.trans HU.out⟩
        have h5 := HB'.out
        unfold Blk at h5
        refine ⟨by simp, .inr ⟨g, c, cu'.toArray, ?_, hb, h5, by rw [← hlen]; omega, hm, ?_, ?_⟩⟩
        · rw [← hlen]; rfl
        · have := HL'.out; have := HLC.out; simp; omega
        · rw [← hlen, Nat.mul_one, ← hmv]
          exact HTK.out
  · go_wp2
    go_ret
    have hfn : xs.filter (fun u => !p u) = xs := filter_none (fun j hj => by have := hn j hj; simpa [hj] using this)
    refine ⟨_, rfl, ?_, hE.os, hE.tape, hE.output, hE.size, fun i hi _ => hE.block i hi⟩
    rw [hfn, List.length_map]
    exact own_ext HO.out hE

end Go.Proofs.YteokoaggkpjdeaaDoor
namespace Go.Proofs.YteokoaggkpjdeaaDoor
open Go.RowKit

theorem fv_under1 : Fv Tryd.prog 47 := ⟨_, Tryd.func47, by kernel_rfl, by kernel_rfl⟩
theorem under_fn (xs : List Int) (lit : Int) (pa : Nat) (v : Value) (w : World) (h64 : All64 xs) (hl : I64 lit) (hr : RI w v xs) (hmay : mayB xs = true) (ha : w.cell? ⟨pa, 0, none⟩ = some v) :
    Calls Tryd.prog 47 #[.int .i64 lit, .pointer (some ⟨pa, 0, none⟩)] w fun e w' => e = .returned (.bool (lookI xs lit == 2)) ∧ Ext w w' := by
  have HM := Lib.hid hmay
  have HR := Lib.hid hr
  clear hmay
  obtain ⟨A, c, rfl, h1, h2, h3⟩ := hr
  clear h3
  go_enter Tryd.func47, Tryd.ntmps47
  go_wp2_with (go_at_call 48; refine (look_any xs lit _ _ h64 hl HR.out HM.out).mono ?_; rintro e w' ⟨rfl, hE⟩)
  go_ret
  exact ⟨rfl, hE⟩

theorem fv_cnf1 : Fv Tryd.prog 52 := ⟨_, Tryd.func52, by kernel_rfl, by kernel_rfl⟩
theorem cnf_fn (xs cs : List Int) (pa : Nat) (v u : Value) (w : World) (h64 : All64 xs) (k64 : All64 cs) (hr : RI w v xs) (kr : RI w u cs) (hmay : mayB xs = true) (ha : w.cell? ⟨pa, 0, none⟩ = some v) :
    Calls Tryd.prog 52 #[u, .pointer (some ⟨pa, 0, none⟩)] w fun e w' => e = .returned (.int .u8 (clauseV xs cs)) ∧ Ext w w' := by
  have HM := Lib.hid hmay
  have HR := Lib.hid hr
  clear hmay
  obtain ⟨A, c, rfl, h1, h2, h3⟩ := hr
  clear h3
  go_enter Tryd.func52, Tryd.ntmps52
  go_wp2_with (go_at_call 45; refine (clause_any xs cs _ _ _ h64 k64 HR.out kr HM.out).mono ?_; rintro e w' ⟨rfl, hE⟩)
  go_ret
  exact ⟨rfl, hE⟩

/-- A one-cell block's fact behind whatever has grown. -/
theorem box_at {w w' : World} {v : Value} {t : TypeId} (h : Ext (w.alloc (.cells #[v] t)) w') : w'.cell? ⟨w.heap.size, 0, none⟩ = some v ∧ Ext w w' :=
  ⟨((Var1.new w t v).ext h).cell, (Ext.alloc w _).trans h⟩

set_option maxHeartbeats 1000000 in
theorem Cnf_any (xs : List Int) (f : List (List Int)) (v u : Value) (w : World) (h64 : All64 xs) (k64 : All64L f) (hr : RI w v xs) (kr : RLL w u f) (ht : f.length ≤ 20000 → total f ≤ 9223372036854775807) :
    Calls Tryd.prog 17 #[v, u] w fun e w' => e = .returned (.int .u8 (CnfV xs f)) ∧ Ext w w' := by
  cases hm : mayB xs <;> cases km : mayCnfB f
  all_goals
    have HM := Lib.hid hm
    have KM := Lib.hid km
    have HR := Lib.hid hr
    have KR := Lib.hid kr
    have HT := Lib.hid ht
    clear ht kr
    obtain ⟨A, c, rfl, h1, h2, h3⟩ := hr
    have HC := Lib.hid (Var1.new w 22 (.slice A xs.length c)).cell
    have HL := Lib.hid (may_any _ xs _ (HR.out.ext (Ext.alloc w (.cells #[.slice A xs.length c] 22))) h64)
    have KL := Lib.hid (mayCnf_any _ f _ (KR.out.ext' (Ext.alloc w (.cells #[.slice A xs.length c] 22))) k64 HT.out)
    rw [hm] at HL
    rw [km] at KL
    clear hm km h3
    have hc := HC.out
    go_enter Tryd.func17, Tryd.ntmps17
  case true.true =>
    go_wp2_with fail
    refine HL.out.mono ?_
    rintro e w' ⟨rfl, rfl⟩
    go_wp2_with fail
    refine KL.out.mono ?_
    rintro e w1 ⟨rfl, hE1⟩
    obtain ⟨hc1, hE⟩ := box_at hE1
    have HE1 := Lib.hid hE1
    have HE := Lib.hid hE
    clear hE hE1 hc
    obtain ⟨B, d, vs, rfl, k1, k2, k3, k4, k5⟩ := KR.out
    have HS := Lib.hid (searchL 52 #[.pointer (some ⟨w.heap.size, 0, none⟩)] fv_cnf1 B d vs k2 (fun k => clauseV xs (f.getD k [])) 2 1
      (fun w' => Ext w1 w') w1
      (fun w' hw => k3.ext (HE.out.trans hw))
      (fun k hk w' hw => by
        have hk' : k < f.length := by rw [← k4]; exact hk
        obtain ⟨hcell, hE'⟩ := box_at (HE1.out.trans hw)
        have hg := getD_of f k hk'
        have hc := cnf_fn xs (f.getD k []) w.heap.size _ vs[k] w' h64 (by rw [hg]; exact k64 _ (List.getElem_mem hk')) (HR.out.ext hE') (by rw [hg]; exact (k5 k hk hk').ext hE') HM.out hcell
        refine hc.mono ?_
        rintro e w'' ⟨rfl, hE⟩
        exact ⟨rfl, hw.trans hE⟩)
      (Ext.refl _))
    have K4 := Lib.hid k4
    clear k3 k5 k4
    go_wp2_with (go_at_call 51; refine HS.out.mono ?_; rintro e w' ⟨rfl, hE⟩)
    go_ret
    exact ⟨ret_int (by unfold CnfV; rw [if_pos ⟨HM.out, KM.out⟩, K4.out]; rfl), HE.out.trans hE⟩
  case true.false =>
    go_wp2_with fail
    refine HL.out.mono ?_
    rintro e w' ⟨rfl, rfl⟩
    go_wp2_with fail
    refine KL.out.mono ?_
    rintro e w1 ⟨rfl, hE1⟩
    go_wp2
    go_ret
    exact ⟨ret_int (by unfold CnfV; rw [if_neg (by rw [KM.out]; simp)]), (Ext.alloc w _).trans hE1⟩
  all_goals
    go_wp2_with fail
    refine HL.out.mono ?_
    rintro e w' ⟨rfl, rfl⟩
    go_wp2
    go_ret
    exact ⟨ret_int (by unfold CnfV; rw [if_neg (by rw [HM.out]; simp)]), Ext.alloc w _⟩

def PostUnder (w : World) (r : List (List Int)) (e : Ending) (w' : World) : Prop := ∃ v, e = .returned v ∧ OwnLL w' w.heap.size v r ∧ Ext w w'

set_option maxHeartbeats 2000000 in
theorem Under_any (xs : List Int) (f : List (List Int)) (v u : Value) (w : World) (h64 : All64 xs) (k64 : All64L f) (hr : RI w v xs) (kr : RLL w u f) (ht : f.length ≤ 20000 → total f ≤ 9223372036854775807) :
    Calls Tryd.prog 14 #[v, u] w (PostUnder w (UnderV xs f)) := by
  cases hm : mayB xs <;> cases km : mayCnfB f
  all_goals
    have HM := Lib.hid hm
    have KM := Lib.hid km
    have HR := Lib.hid hr
    have KR := Lib.hid kr
    have HT := Lib.hid ht
    clear ht kr
    obtain ⟨A, c, rfl, h1, h2, h3⟩ := hr
    have HC := Lib.hid (Var1.new w 22 (.slice A xs.length c)).cell
    have HL := Lib.hid (may_any _ xs _ (HR.out.ext (Ext.alloc w (.cells #[.slice A xs.length c] 22))) h64)
    have KL := Lib.hid (mayCnf_any _ f _ (KR.out.ext' (Ext.alloc w (.cells #[.slice A xs.length c] 22))) k64 HT.out)
    rw [hm] at HL
    rw [km] at KL
    clear hm km h3
    have hc := HC.out
    go_enter Tryd.func14, Tryd.ntmps14
  case true.true =>
    go_wp2_with fail
    refine HL.out.mono ?_
    rintro e w' ⟨rfl, rfl⟩
    go_wp2_with fail
    refine KL.out.mono ?_
    rintro e w1 ⟨rfl, hE1⟩
    have HE1 := Lib.hid hE1
    clear hE1 hc
    obtain ⟨B, d, vs, rfl, k1, k2, k3, k4, k5⟩ := KR.out
    have K3 := Lib.hid k3
    have K4 := Lib.hid k4
    have K5 := Lib.hid k5
    clear k3 k5 k4
    obtain ⟨i0, hi, hz0, hz1, hz2⟩ := info_parts info_ints
    have HI := Lib.hid hi
    have HZ := Lib.hid hz0
    have HZ1 := Lib.hid hz1
    have HZ2 := Lib.hid hz2
    clear hi hz0 hz1 hz2
    go_wp2
    go_loopw [5, 18] (fun o i wr => ∃ (k : Nat), k ≤ vs.length ∧ i = .int .i64 k ∧ Hid (Ext (w.alloc (.cells #[.slice A xs.length c] 22)) wr) ∧ Hid (OwnLL wr (w.heap.size + 1) o (underL xs (f.take k)))) (fun _ i _ => vs.length - (intOf i).toNat)
    case atStart => exact ⟨0, Nat.zero_le _, rfl, HE1, OwnLL.nil _ _⟩
    case round =>
      obtain ⟨k, hk, rfl, HK, HP⟩ := hrel
      by_cases hlt : k < vs.length
      · have hkf : k < f.length := by rw [← K4.out]; exact hlt
        obtain ⟨hcell, hE⟩ := box_at HK.out
        have hrow := K3.out.ext hE
        obtain ⟨ad, rfl, hvk⟩ := hrow k hlt
        have HKR := Lib.hid ((K5.out k hlt hkf).ext hE)
        have HKE := Lib.hid hE
        have hk64 := k64 _ (List.getElem_mem hkf)
        clear hrow hE
        have HCL := Lib.hid (clause_any xs f[k] _ _ _ h64 hk64 (HR.out.ext HKE.out) HKR.out HM.out)
        by_cases hcv : clauseV xs f[k] = 1
        · have hcb : (clauseV xs f[k] != 1) = false := by simp [hcv]
          have HCV := Lib.hid hcv
          clear hcv
          go_wp2_with (go_at_call 45; refine HCL.out.mono ?_; rintro e w2 ⟨rfl, hE2⟩; have HE2 := Lib.hid hE2; clear hE2)
          go_round
          case rel => exact ⟨k + 1, by omega, by go_num, HK.out.trans HE2.out, by rw [underL_take xs f k hkf, if_pos HCV.out, List.append_nil]; exact HP.out.ext HE2.out⟩
          case measure => simp [intOf]; omega
        · have hcb : (clauseV xs f[k] != 1) = true := by simp [hcv]
          have HCV := Lib.hid hcv
          clear hcv
          go_wp2_with fail
          refine HCL.out.mono ?_
          rintro e w2 ⟨rfl, hE2⟩
          have HE2 := Lib.hid hE2
          clear hE2 hcell hvk
          go_wp2_with fail
          refine (cloneI_any _ _ _ (HKR.out.ext HE2.out) ?_).mono ?_
          · have := lens_le f (k + 1)
            have := may_len (mayCnfB_get KM.out k hkf)
            omega
          rintro e w3 ⟨cl, rfl, hcl, hE3⟩
          have HCl := Lib.hid hcl
          have HE3 := Lib.hid hE3
          clear hE3 hcl
          go_wp2_with fail
          refine (deleteI 47 _ fv_under1 _ cl f[k] (fun x => lookI xs x == 2) _ HCl.out ?_).mono ?_
          · intro x hx w4 hg
            have hE4 : Ext (w.alloc (.cells #[.slice A xs.length c] 22)) w4 := ((HK.out.trans HE2.out).trans HE3.out).grown hg (fun g hgv => by
              have := (own_typed HCl.out hgv).1
              have := (HK.out.trans HE2.out).size
              omega)
            obtain ⟨hcell4, hE0⟩ := box_at hE4
            exact under_fn xs x _ _ w4 h64 (hk64 x hx) (HR.out.ext hE0) HM.out hcell4
          rintro e w4 ⟨dv, rfl, hdv, hg4⟩
          have HD := Lib.hid hdv
          have HG4 := Lib.hid hg4
          have hE4 : Ext w2 w4 := HE3.out.grown hg4 (fun g hgv => (own_typed HCl.out hgv).1)
          have HE4 := Lib.hid hE4
          clear hdv hg4 hE4
          obtain ⟨DA, dn, dc, rfl⟩ : ∃ A n c, dv = .slice A n c := by obtain ⟨A, c, h, -⟩ := own_row HD.out; exact ⟨A, _, c, h⟩
          obtain ⟨us, ho, hol, hoi⟩ := HP.out.ext (HE2.out.trans HE4.out)
          have HO := Lib.hid (own_ext ho (Ext.alloc w4 (.cells #[.slice DA dn dc] 22)))
          have HOL := Lib.hid hol
          have HOI := Lib.hid hoi
          have HDI : Hid (OwnI w4 (w.heap.size + 1) (.slice DA dn dc) (f[k].filter (fun x => !(lookI xs x == 2)))) := by
            have := HD.out
            rw [List.length_map] at this
            exact own_lower this (Ext.alloc_size (HK.out.trans HE2.out))
          have hul := underL_len xs (f.take k)
          rw [List.length_take] at hul
          have hbase : w.heap.size + 1 ≤ w4.heap.size := Ext.alloc_size ((HK.out.trans HE2.out).trans HE4.out)
          clear ho hol hoi
          dsimp only
          go_wp2_with (at_builtin; refine wpList_append_own _ rfl (.tmp 26) (.tmp 31) 23 rfl (w.heap.size + 1) 22 i0 (.slice none 0 0) 1 24 Tryd.underlying23 HI.out HZ.out HZ1.out HZ2.out rfl (by decide) _ us.length us rfl HO.out ⟨w4.heap.size, 0, none⟩ 1 1 [.slice DA dn dc] rfl rfl (one_cell w4 _ _) (by simp [Value.oneCell']) (by have := HOL.out; have := mayCnfB_len KM.out; unfold maxLen; omega) (by have := HOL.out; have := mayCnfB_len KM.out; omega) (by simp; omega) ?_; intro v' w5 ho5 hg5 _; have HO5 := Lib.hid ho5; have HG5 := Lib.hid hg5; clear ho5 hg5)
          go_round
          case rel =>
            have e4 : Ext w4 (w4.alloc (.cells #[.slice DA dn dc] 22)) := Ext.alloc w4 _
            refine ⟨k + 1, by omega, by go_num, ?_, ?_⟩
            · refine (((HK.out.trans HE2.out).trans HE4.out).trans e4).grown HG5.out (fun g hg => ?_)
              have := (own_typed HO.out hg).1
              simpa using this
            · rw [underL_take xs f k hkf, if_neg HCV.out]
              exact OwnLL.snoc HOL.out (fun j hj hj' => own_ext (HOI.out j hj hj') e4) HO.out (own_ext HDI.out e4) HO5.out HG5.out
          case measure => simp [intOf]; omega
      · obtain rfl : k = vs.length := by omega
        go_wp2
        go_ret
        refine ⟨_, rfl, ?_, (Ext.alloc w _).trans HK.out⟩
        have := HP.out
        rw [K4.out, List.take_length] at this
        unfold UnderV
        rw [if_pos ⟨HM.out, KM.out⟩]
        exact this.lower (by omega)
  case true.false =>
    go_wp2_with fail
    refine HL.out.mono ?_
    rintro e w' ⟨rfl, rfl⟩
    go_wp2_with fail
    refine KL.out.mono ?_
    rintro e w1 ⟨rfl, hE1⟩
    go_wp2
    go_ret
    exact ⟨_, rfl, by unfold UnderV; rw [if_neg (by rw [KM.out]; simp)]; exact OwnLL.nil _ _, (Ext.alloc w _).trans hE1⟩
  all_goals
    go_wp2_with fail
    refine HL.out.mono ?_
    rintro e w' ⟨rfl, rfl⟩
    go_wp2
    go_ret
    exact ⟨_, rfl, by unfold UnderV; rw [if_neg (by rw [HM.out]; simp)]; exact OwnLL.nil _ _, Ext.alloc w _⟩

end Go.Proofs.YteokoaggkpjdeaaDoor
