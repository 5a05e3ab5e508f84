/- Base words for the walks of this seat: what it is for a slice to read as a list of integers, worlds that only grow, small facts. -/
import Derived.Test.YteokoaggkpjdeaaDoorProg
import Derived.Test.YteokoaggkpjdeaaDoorMath
import Derived.WalkKit
import Derived.WalkSpells
import Derived.WalkLawsBesides
import Derived.Deep.LoopGhost
import Derived.Deep.QuietTactic
import Derived.BigQuiet
import Derived.Deep.RegionHeld3
import Derived.Deep.Draws
import Derived.Lib.Hide
import Derived.Lib.SliceRun
import Derived.Deep.AppendLies
import Derived.Deep.RegionLaw
namespace Go.Proofs.YteokoaggkpjdeaaDoor
open Go.RowKit

/-- The world has only grown: every block that was there is as it was. -/
abbrev Ext (w w' : World) : Prop := Below w.heap.size w w'

theorem Ext.refl (w : World) : Ext w w := Below.refl _ _
theorem Ext.trans {a b c : World} (h : Ext a b) (k : Ext b c) : Ext a c := Below.trans h (k.mono h.size)
theorem Ext.cell {w w' : World} (h : Ext w w') {a : Addr} {v : Value} (hc : w.cell? a = some v) : w'.cell? a = some v :=
  (Below.cell h (World.block_lt_of_cell? w a hc)).trans hc
theorem Ext.alloc_size {w w' : World} {o : Obj} (h : Below (w.alloc o).heap.size (w.alloc o) w') : w.heap.size + 1 ≤ w'.heap.size := by
  have := h.size
  simpa using this
theorem Ext.drewN (w : World) (n : Nat) : Ext w (w.drewN n) := ⟨rfl, rfl, rfl, Nat.le_refl _, fun _ _ => rfl⟩
theorem Ext.drew (w : World) : Ext w w.drew := Below.drew (Below.refl _ _)
theorem Ext.alloc (w : World) (o : Obj) : Ext w (w.alloc o) := Below.alloc (Below.refl _ _) (Nat.le_refl _) o

/-- Behind the address lie these cells. -/
def Row (w : World) (A : Option Addr) (vs : List Value) : Prop :=
  ∀ j (h : j < vs.length), ∃ ad, A = some ad ∧ w.cell? (ad.add j) = some vs[j]

theorem Row.ext {w w' : World} {A : Option Addr} {vs : List Value} (h : Row w A vs) (e : Ext w w') : Row w' A vs := fun j hj => by
  obtain ⟨ad, ha, hc⟩ := h j hj
  exact ⟨ad, ha, e.cell hc⟩

/-- A slice value whose elements (of one cell each) read as a list, each by R. -/
def RSl {α : Type} (R : World → Value → α → Prop) (w : World) (v : Value) (xs : List α) : Prop :=
  ∃ A c vs, v = .slice A vs.length c ∧ vs.length ≤ c ∧ vs.length ≤ 9223372036854775807 ∧ Row w A vs ∧ vs.length = xs.length ∧
    ∀ j (h : j < vs.length) (h' : j < xs.length), R w vs[j] xs[j]

theorem RSl.ext {α : Type} {R : World → Value → α → Prop} (hR : ∀ w w' v x, Ext w w' → R w v x → R w' v x) {w w' : World} {v : Value} {xs : List α} (h : RSl R w v xs) (e : Ext w w') : RSl R w' v xs := by
  obtain ⟨A, c, vs, h1, h2, h3, h4, h5, h6⟩ := h
  exact ⟨A, c, vs, h1, h2, h3, h4.ext e, h5, fun j hj hj' => hR _ _ _ _ e (h6 j hj hj')⟩

/-- A slice value reads as a list of 64-bit integers. -/
def RI (w : World) (v : Value) (xs : List Int) : Prop :=
  ∃ A c, v = .slice A xs.length c ∧ xs.length ≤ c ∧ xs.length ≤ 9223372036854775807 ∧ Row w A (xs.map (Value.int .i64))

theorem RI.ext {w w' : World} {v : Value} {xs : List Int} (h : RI w v xs) (e : Ext w w') : RI w' v xs := by
  obtain ⟨A, c, h1, h2, h3, h4⟩ := h
  exact ⟨A, c, h1, h2, h3, h4.ext e⟩

theorem Row.int {w : World} {A : Option Addr} {xs : List Int} (h : Row w A (xs.map (Value.int .i64))) (j : Nat) (hj : j < xs.length) : ∃ ad, A = some ad ∧ w.cell? (ad.add j) = some (.int .i64 xs[j]) := by
  obtain ⟨ad, ha, hc⟩ := h j (by simpa using hj)
  exact ⟨ad, ha, by simpa using hc⟩

/-- A slice of slices of integers. -/
abbrev RLL (w : World) (v : Value) (xss : List (List Int)) : Prop := RSl RI w v xss

theorem RLL.ext' {w w' : World} {v : Value} {xss : List (List Int)} (h : RLL w v xss) (e : Ext w w') : RLL w' v xss :=
  RSl.ext (R := RI) (fun _ _ _ _ e h => RI.ext h e) h e

/-- A function with a body: what a function value of it enters. -/
def Fv (P : Program) (f : FuncId) : Prop := ∃ fn, P.funcs[f]? = some fn ∧ (fn.name == "runtime.NumGoroutine") = false ∧ fn.body.isSome = true

theorem run_enter {P : Program} {f : FuncId} (hf : Fv P f) (args : Array Value) (w : World) : (callFunc f args).run P w = .ok (.enter f args) w := by
  obtain ⟨fn, hf, hname, hb⟩ := hf
  have h1 : fn.name ≠ "runtime.NumGoroutine" := by simpa using hname
  obtain ⟨c, hc⟩ := Option.isSome_iff_exists.1 hb
  simp [callFunc, hf, h1, hc]

/-- At the operation that writes slot N. -/
theorem at_dst {P : Program} {ops : Array Oper} {Q : Exit → Act → World → Prop} {a : Act} {w : World} {rest : List Oper} {o : Oper} (N : Nat) (_hd : o.dst = some N) (h : wpList P ops Q (o :: rest) a w) : wpList P ops Q (o :: rest) a w := h

/-- A call of a function value. -/
theorem wpList_callv {P : Program} {ops : Array Oper} {Q : Exit → Act → World → Prop} {a : Act} {w : World} {rest : List Oper} {o : Oper}
    (x : Operand) (ys : Array Operand) (ts : Array TypeId) (ho : o.op = .call { callee := .value x, args := ys, argTypes := ts }) (hw : Region.wanted o (yielded ops a.tmps) = true)
    {f : FuncId} (cap : Array Value) (hv : a.eval x = .func (.func f) #[] cap) (hf : Fv P f) (args : Array Value) (ha : ys.map a.eval ++ cap = args)
    (h : Calls P f args w fun e w' => ∃ v, e = .returned v ∧ wpList P ops Q rest (a.put o.dst v) w') : wpList P ops Q (o :: rest) a w := by
  refine BigFrame.wpList_want hw fun K hK => ?_
  have hrun : (execOp a.eval o).run P w = .ok (.enter f args) w := by
    unfold execOp
    simp [ho, resolve, Deferred.ofValue, hv, invoke, ha, run_enter hf]
  unfold Oper.wp
  rw [hrun, Oper.upon_enter]
  refine h.mono fun e w'' hh => ?_
  obtain ⟨v, rfl, hk⟩ := hh
  exact hK _ _ hk

/-- Block b is the one variable v of type t. -/
abbrev Var1 (w : World) (b : Nat) (t : TypeId) (v : Value) : Prop := w.heap[b]? = some (.cells #[v] t (0, 0))

theorem Var1.cell {w : World} {b : Nat} {t : TypeId} {v : Value} (h : Var1 w b t v) : w.cell? ⟨b, 0, none⟩ = some v := by
  simp [World.cell?, h]
theorem Var1.free {w : World} {b : Nat} {t : TypeId} {v : Value} (h : Var1 w b t v) : w.frozen? ⟨b, 0, none⟩ = false := by
  simp [World.frozen?, h]
theorem Var1.lt {w : World} {b : Nat} {t : TypeId} {v : Value} (h : Var1 w b t v) : b < w.heap.size := (Array.getElem?_eq_some_iff.1 h).1
theorem Var1.ext {w w' : World} {b : Nat} {t : TypeId} {v : Value} (h : Var1 w b t v) (e : Ext w w') : Var1 w' b t v := (e.block b h.lt).trans h
theorem Var1.set {w : World} {b : Nat} {t : TypeId} {v : Value} (h : Var1 w b t v) (u : Value) : Var1 (w.setCell ⟨b, 0, none⟩ u) b t u := by
  simp only [Var1, World.setCell, Array.getElem?_modify, h]
  simp
theorem Var1.new (w : World) (t : TypeId) (v : Value) : Var1 (w.alloc (.cells #[v] t)) w.heap.size t v := heap_alloc_new w _

/-- A slice of the call's own (its row lies in a block from base on): it reads as a list of integers. -/
def OwnI (w : World) (base : Nat) (v : Value) (xs : List Int) : Prop := w.ownsRow base 3 1 v xs.length (xs.map (Value.int .i64))

theorem addr0 (g j : Nat) : (⟨g, 0, none⟩ : Addr).add j = ⟨g, j, none⟩ := by unfold Addr.add; split <;> simp_all

theorem own_row {w : World} {base : Nat} {e : TypeId} {v : Value} {vs : List Value} (h : w.ownsRow base e 1 v vs.length vs) : ∃ A c, v = .slice A vs.length c ∧ vs.length ≤ c ∧ vs.length ≤ 9223372036854775807 ∧ Row w A vs := by
  obtain ⟨_, h | ⟨g, cap, cur, rfl, hb, hg, hn, hm, hs, ht⟩⟩ := h
  · obtain ⟨rfl, hn⟩ := h
    exact ⟨none, 0, by rw [hn], by omega, by omega, fun j hj => by omega⟩
  · refine ⟨_, cap, rfl, hn, by unfold maxLen at hm; omega, fun j hj => ⟨_, rfl, ?_⟩⟩
    rw [addr0, cell_of_row w g j cur e (0, 0) hg]
    have h1 : (cur.toList.take (vs.length * 1))[j]? = vs[j]? := by rw [ht]
    rw [List.getElem?_take, if_pos (by omega), List.getElem?_eq_getElem hj] at h1
    simpa using h1

theorem OwnI.reads {w : World} {base : Nat} {v : Value} {xs : List Int} (h : OwnI w base v xs) : RI w v xs := by
  unfold OwnI at h
  have h' : w.ownsRow base 3 1 v (xs.map (Value.int .i64)).length (xs.map (Value.int .i64)) := by simpa using h
  obtain ⟨A, c, h1, h2, h3, h4⟩ := own_row h'
  simp only [List.length_map] at h1 h2 h3
  exact ⟨A, c, h1, h2, h3, h4⟩

theorem OwnI.nil (w : World) (base : Nat) : OwnI w base (.slice none 0 0) [] := World.ownsRow_nil w base _ 1

theorem own_lower {w : World} {base base' : Nat} {e : TypeId} {size n : Nat} {v : Value} {xs : List Value} (h : w.ownsRow base e size v n xs) (hb : base' ≤ base) : w.ownsRow base' e size v n xs := by
  obtain ⟨h1, h | ⟨g, cap, cur, h2, h3, h4⟩⟩ := h
  · exact ⟨h1, .inl h⟩
  · exact ⟨h1, .inr ⟨g, cap, cur, h2, by omega, h4⟩⟩

theorem own_ext {w w' : World} {base : Nat} {e : TypeId} {size n : Nat} {v : Value} {xs : List Value} (h : w.ownsRow base e size v n xs) (k : Ext w w') : w'.ownsRow base e size v n xs :=
  h.kept (row := none) ⟨k.os, k.tape, k.output, k.size, fun i hi _ => k.block i hi⟩ (by cases v.ownBlock <;> simp)

theorem Ext.grown {w0 w w' : World} {row : Option Nat} (h : Ext w0 w) (g : w.grownBy w' row) (hr : ∀ k, row = some k → w0.heap.size ≤ k) : Ext w0 w' := Below.grown h g h.size hr

/-- Block g holds these cells, none frozen. -/
def Blk (w : World) (g : Nat) (e : TypeId) (cur : List Value) : Prop := w.heap[g]? = some (.cells cur.toArray e (0, 0))

section
variable {w w' : World} {g : Nat} {e : TypeId} {cur : List Value}
theorem Blk.cell (h : Blk w g e cur) (i : Nat) : w.cell? ⟨g, i, none⟩ = cur[i]? := by rw [cell_of_row w g i cur.toArray e (0, 0) h]; simp
theorem Blk.free (h : Blk w g e cur) (i : Nat) : w.frozen? ⟨g, i, none⟩ = false := by unfold Blk at h; simp [World.frozen?, h]
theorem Blk.lt (h : Blk w g e cur) : g < w.heap.size := (Array.getElem?_eq_some_iff.1 h).1
theorem Blk.ext (h : Blk w g e cur) (k : Ext w w') : Blk w' g e cur := (k.block g h.lt).trans h
theorem Blk.set (h : Blk w g e cur) (i : Nat) (u : Value) : Blk (w.setCell ⟨g, i, none⟩ u) g e (cur.set i u) := by
  unfold Blk at *
  simp only [World.setCell, Array.getElem?_modify, h]
  simp
theorem Blk.new (w : World) (e : TypeId) (cur : List Value) : Blk (w.alloc (.cells cur.toArray e)) w.heap.size e cur := heap_alloc_new w _

/-- Only block g may have been turned; others stand; there may be new ones. -/
abbrev Upd (g : Nat) (w w' : World) : Prop := w.grownBy w' (some g)
theorem Upd.refl (g : Nat) (w : World) : Upd g w w := ⟨rfl, rfl, rfl, Nat.le_refl _, fun _ _ _ => rfl⟩
theorem Upd.trans {a b c : World} (h : Upd g a b) (k : Upd g b c) : Upd g a c :=
  ⟨k.os.trans h.os, k.tape.trans h.tape, k.output.trans h.output, Nat.le_trans h.size k.size, fun i hi hne => (k.block i (Nat.lt_of_lt_of_le hi h.size) hne).trans (h.block i hi hne)⟩
theorem Ext.upd (g : Nat) (h : Ext w w') : Upd g w w' := ⟨h.os, h.tape, h.output, h.size, fun i hi _ => h.block i hi⟩
theorem Upd.set (w : World) (g i : Nat) (u : Value) : Upd g w (w.setCell ⟨g, i, none⟩ u) :=
  ⟨rfl, rfl, rfl, by simp [World.setCell], fun k _ hne => Below.heap_setCell w _ u k (fun e => hne (by rw [e]))⟩
theorem Upd.ext {w0 : World} (h : Ext w0 w) (k : Upd g w w') (hg : w0.heap.size ≤ g) : Ext w0 w' := Below.grown h k h.size (fun i hi => by cases hi; exact hg)

theorem setCells_keep (g : Nat) : ∀ (vs : List Value) (o : Nat) {w : World} {cur : List Value}, Blk w g e cur →
    Upd g w (w.setCells g o vs) ∧ ∃ cur', Blk (w.setCells g o vs) g e cur' ∧ cur'.length = cur.length ∧ cur'.take o = cur.take o
  | [], o, w, cur, h => ⟨Upd.refl _ _, cur, h, rfl, rfl⟩
  | v :: r, o, w, cur, h => by
    obtain ⟨h1, cur', h2, h3, h4⟩ := setCells_keep g r (o + 1) (h.set o v)
    rw [World.setCells]
    refine ⟨(Upd.set w g o v).trans h1, cur', h2, by rw [h3, List.length_set], ?_⟩
    have h5 := congrArg (List.take o) h4
    rw [List.take_take, List.take_take, Nat.min_eq_left (by omega)] at h5
    rw [h5, List.take_set_of_le (Nat.le_refl _)]
end

section
variable {P : Program}
/-- xs[:j] -/
theorem slice_to {t e : TypeId} (ht : P.underlying t = some (.slice e)) {z : Value} {n b : Nat} (hi : (P.info? e).map (fun i => (i.zero, i.size, i.bytes)) = some (some z, n, b)) (A : Option Addr) (l c j : Nat) (hc : j ≤ c) :
    ∀ W : World, (Instr.slice t (.slice A l c) none (some (.int .i64 (j : Int))) none).run P W = .ok (.slice A j c) W := by
  intro W
  obtain ⟨i, hi, _, _, _⟩ := info_parts hi
  have hel : P.elem t = e := by simp [Program.elem, ht]
  have hu : P.underlying t = some (.slice (P.elem t)) := by rw [hel]; exact ht
  have ha : (A.map fun x => x.add 0) = A := by cases A <;> simp [Addr.add]
  rw [run_slice_h W t A l c hu .i64 (j : Int) (Int.natCast_nonneg _) (by omega), hel]
  simp [sizeOf, typeInfo, hi, sliced, Result.andThen, ha]
/-- xs[j:] -/
theorem slice_from {t e : TypeId} (ht : P.underlying t = some (.slice e)) {z : Value} {n b : Nat} (hi : (P.info? e).map (fun i => (i.zero, i.size, i.bytes)) = some (some z, n, b)) (A : Option Addr) (l c j : Nat) (hm : j ≤ l) :
    ∀ W : World, (Instr.slice t (.slice A l c) (some (.int .i64 (j : Int))) none none).run P W = .ok (.slice (if c = j then A else A.map (·.add (j * n))) (l - j) (c - j)) W := by
  intro W
  obtain ⟨i, hi, _, hs, _⟩ := info_parts hi
  have hel : P.elem t = e := by simp [Program.elem, ht]
  have hu : P.underlying t = some (.slice (P.elem t)) := by rw [hel]; exact ht
  rw [run_slice_l W t A l c hu .i64 (j : Int) (Int.natCast_nonneg _) (by omega), hel]
  simp [sizeOf, typeInfo, hi, hs, sliced, Result.andThen]
end

theorem own_typed {w : World} {base : Nat} {e : TypeId} {size n : Nat} {v : Value} {xs : List Value} (h : w.ownsRow base e size v n xs) {g : Nat} (hg : v.ownBlock = some g) :
    base ≤ g ∧ g < w.heap.size ∧ ∃ cur, w.heap[g]? = some (.cells cur e (0, 0)) := by
  obtain ⟨-, ⟨rfl, -⟩ | ⟨g', cap, cur, rfl, hb, hh, -⟩⟩ := h
  · simp [Value.ownBlock] at hg
  · simp [Value.ownBlock] at hg
    subst hg
    exact ⟨hb, (Array.getElem?_eq_some_iff.1 hh).1, cur, hh⟩

theorem own_apart {w : World} {b b' : Nat} {e e' : TypeId} {s s' n n' : Nat} {v v' : Value} {xs xs' : List Value} (h : w.ownsRow b e s v n xs) (h' : w.ownsRow b' e' s' v' n' xs') (hne : e ≠ e') : v.ownBlock = none ∨ v.ownBlock ≠ v'.ownBlock := by
  cases hv : v.ownBlock with
  | none => exact .inl rfl
  | some g =>
    refine .inr fun he => hne ?_
    obtain ⟨-, -, cur, h1⟩ := own_typed h hv
    obtain ⟨-, -, cur', h2⟩ := own_typed h' he.symm
    rw [h1] at h2
    injection h2 with h2
    injection h2

/-- A slice of slices of integers, all of the call's own. -/
def OwnLL (w : World) (base : Nat) (v : Value) (xss : List (List Int)) : Prop :=
  ∃ vs, w.ownsRow base 22 1 v vs.length vs ∧ vs.length = xss.length ∧ ∀ j (h : j < vs.length) (h' : j < xss.length), OwnI w base vs[j] xss[j]

theorem OwnLL.ext {w w' : World} {base : Nat} {v : Value} {xss : List (List Int)} (h : OwnLL w base v xss) (k : Ext w w') : OwnLL w' base v xss := by
  obtain ⟨vs, h1, h2, h3⟩ := h
  exact ⟨vs, own_ext h1 k, h2, fun j hj hj' => own_ext (h3 j hj hj') k⟩

theorem OwnLL.lower {w : World} {base base' : Nat} {v : Value} {xss : List (List Int)} (h : OwnLL w base v xss) (hb : base' ≤ base) : OwnLL w base' v xss := by
  obtain ⟨vs, h1, h2, h3⟩ := h
  exact ⟨vs, own_lower h1 hb, h2, fun j hj hj' => own_lower (h3 j hj hj') hb⟩

theorem OwnLL.nil (w : World) (base : Nat) : OwnLL w base (.slice none 0 0) [] := ⟨[], World.ownsRow_nil w base _ 1, rfl, fun j h => absurd h (Nat.not_lt_zero j)⟩

theorem OwnLL.reads {w : World} {base : Nat} {v : Value} {xss : List (List Int)} (h : OwnLL w base v xss) : RLL w v xss := by
  obtain ⟨vs, h1, h2, h3⟩ := h
  obtain ⟨A, c, h4, h5, h6, h7⟩ := own_row h1
  exact ⟨A, c, vs, h4, h5, h6, h7, h2, fun j hj hj' => (h3 j hj hj').reads⟩

theorem OwnI.one {w : World} {base : Nat} {v : Value} {xs : List Int} (h : OwnI w base v xs) : v.oneCell' = true := by
  obtain ⟨-, ⟨rfl, -⟩ | ⟨g', cap, cur, rfl, -⟩⟩ := h <;> rfl

/-- An element more, behind the append of its value. -/
theorem OwnLL.snoc {w w' : World} {base : Nat} {v v' : Value} {vs : List Value} {xss : List (List Int)} {u : Value} {xs : List Int} (h2 : vs.length = xss.length) (h3 : ∀ j (h : j < vs.length) (h' : j < xss.length), OwnI w base vs[j] xss[j])
    (ho : w.ownsRow base 22 1 v vs.length vs) (hu : OwnI w base u xs) (h' : w'.ownsRow base 22 1 v' (vs.length + 1) (vs ++ [u])) (hg : w.grownBy w' v.ownBlock) : OwnLL w' base v' (xss ++ [xs]) := by
  have keep : ∀ {u : Value} {xs : List Int}, OwnI w base u xs → OwnI w' base u xs := fun h => h.kept hg (own_apart h ho (by decide))
  refine ⟨vs ++ [u], by simpa using h', by simp [h2], fun j hj hj' => ?_⟩
  by_cases hlt : j < vs.length
  · rw [List.getElem_append_left hlt, List.getElem_append_left (by omega)]
    exact keep (h3 j hlt (by omega))
  · have e : j = vs.length := by simp at hj; omega
    subst e
    rw [List.getElem_append_right (Nat.le_refl _), List.getElem_append_right (by omega)]
    simp only [Nat.sub_self, List.getElem_cons_zero, h2]
    exact keep hu

/-- The one cell of a slice literal of one element. -/
theorem one_cell (w : World) (v : Value) (t : TypeId) : ∀ j u, [v][j]? = some u → (w.alloc (.cells #[v] t)).cell? ((⟨w.heap.size, 0, none⟩ : Addr).add j) = some u := fun j u hu => by
  obtain ⟨hj, he⟩ := List.getElem?_eq_some_iff.1 hu
  obtain rfl : j = 0 := by simpa using hj
  simp only [List.getElem_cons_zero] at he
  rw [addr0, ← he]
  exact (Var1.new w t v).cell

/-- Only blocks of S may have been turned; there may be new ones. -/
structure Chg (S : Nat → Prop) (w w' : World) : Prop where
  os : w'.os = w.os
  tape : w'.tape = w.tape
  output : w'.output = w.output
  size : w.heap.size ≤ w'.heap.size
  block : ∀ k, k < w.heap.size → ¬ S k → w'.heap[k]? = w.heap[k]?

section
variable {S S' : Nat → Prop} {w w' a b c : World}
theorem Chg.refl (S : Nat → Prop) (w : World) : Chg S w w := ⟨rfl, rfl, rfl, Nat.le_refl _, fun _ _ _ => rfl⟩
theorem Chg.then (h : Chg S a b) (k : Chg S' b c) (hs : ∀ i, S' i → S i ∨ a.heap.size ≤ i) : Chg S a c :=
  ⟨k.os.trans h.os, k.tape.trans h.tape, k.output.trans h.output, Nat.le_trans h.size k.size, fun i hi hn =>
    (k.block i (Nat.lt_of_lt_of_le hi h.size) (fun hs' => (hs i hs').elim hn (fun h' => absurd h' (by omega)))).trans (h.block i hi hn)⟩
theorem Chg.trans (h : Chg S a b) (k : Chg S b c) : Chg S a c := h.then k fun _ h => .inl h
theorem Chg.mono (h : Chg S w w') (hs : ∀ i, S i → S' i) : Chg S' w w' := ⟨h.os, h.tape, h.output, h.size, fun i hi hn => h.block i hi fun h' => hn (hs i h')⟩
theorem Ext.chg (S : Nat → Prop) (h : Ext w w') : Chg S w w' := ⟨h.os, h.tape, h.output, h.size, fun i hi _ => h.block i hi⟩
theorem Chg.ext (h : Chg S a b) (k : Ext b c) : Chg S a c := h.trans (k.chg S)
theorem grown_chg {row : Option Nat} (h : w.grownBy w' row) : Chg (fun i => some i = row) w w' := ⟨h.os, h.tape, h.output, h.size, h.block⟩
theorem Upd.chg {g : Nat} (h : Upd g w w') : Chg (fun i => i = g) w w' := ⟨h.os, h.tape, h.output, h.size, fun i hi hn => h.block i hi (fun e => hn (by injection e))⟩
theorem Chg.set (w : World) (g i : Nat) (u : Value) : Chg (fun k => k = g) w (w.setCell ⟨g, i, none⟩ u) := (Upd.set w g i u).chg
theorem Chg.blk (h : Chg S w w') {g : Nat} {e : TypeId} {cur : List Value} (hb : Blk w g e cur) (hn : ¬ S g) : Blk w' g e cur := (h.block g hb.lt hn).trans hb
theorem Chg.own (h : Chg S w w') {base : Nat} {e : TypeId} {size n : Nat} {v : Value} {xs : List Value} (ho : w.ownsRow base e size v n xs) (hn : ∀ k, v.ownBlock = some k → ¬ S k) : w'.ownsRow base e size v n xs := by
  obtain ⟨h1, h2 | ⟨g, cap, cur, rfl, hb, hg, r⟩⟩ := ho
  · exact ⟨h1, .inl h2⟩
  · exact ⟨h1, .inr ⟨g, cap, cur, rfl, hb, (h.block g (Array.getElem?_eq_some_iff.1 hg).1 (hn g rfl)).trans hg, r⟩⟩
theorem Chg.toExt {w0 : World} (h : Ext w0 w) (k : Chg S w w') (hs : ∀ i, S i → w0.heap.size ≤ i) : Ext w0 w' :=
  ⟨k.os.trans h.os, k.tape.trans h.tape, k.output.trans h.output, Nat.le_trans h.size k.size, fun i hi => (k.block i (Nat.lt_of_lt_of_le hi h.size) fun hn => by have := hs i hn; omega).trans (h.block i hi)⟩
end

end Go.Proofs.YteokoaggkpjdeaaDoor
