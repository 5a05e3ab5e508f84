/- Base words for the walks of this seat: what it is for a slice to read as a list of integers, worlds that only grow, small facts. Walks of lits.size, lits.Var, lits.May. Library functions that are handed a function value: IndexFunc, ContainsFunc. Walks of lits.MayCnf and its function literal. Common words for the walks of a seat: literals in memory, boxes, the function value of the law's variable. What the package-level variables hold, and that it lasts. Walks of slices.Clone and slices.DeleteFunc. Appends onto rows of integers of the call's own: one element, a whole slice (nil too), in the walk and in a region that draws. -/
import Derived.Test.YtlompphnngnaiaaGreatDoorProg
import Derived.Test.YtlompphnngnaiaaGreatDoorLa
import Derived.WalkKit
import Derived.WalkSpells
import Derived.WalkLawsBesides
import Derived.Deep.LoopGhost
import Derived.Deep.QuietTactic
import Derived.BigQuiet
import Derived.Deep.RegionHeld3
import Derived.Deep.Draws
import Derived.Lib.Hide
import Derived.Lib.SliceRun
import Derived.Deep.AppendLies
import Derived.Deep.RegionLaw
import Derived.Shelf.Unicode.PredsPay
import Derived.Lib.ItoaNum
import Derived.Lib.LaidTab
import Derived.Laws.AppendOwnNone
namespace Go.Proofs.YtlompphnngnaiaaGreatDoor
open Go.RowKit

/-- The world has only grown: every block that was there is as it was. -/
abbrev Ext (w w' : World) : Prop := Below w.heap.size w w'

theorem Ext.refl (w : World) : Ext w w := Below.refl _ _
theorem Ext.trans {a b c : World} (h : Ext a b) (k : Ext b c) : Ext a c := Below.trans h (k.mono h.size)
theorem Ext.cell {w w' : World} (h : Ext w w') {a : Addr} {v : Value} (hc : w.cell? a = some v) : w'.cell? a = some v :=
  (Below.cell h (World.block_lt_of_cell? w a hc)).trans hc
theorem Ext.alloc_size {w w' : World} {o : Obj} (h : Below (w.alloc o).heap.size (w.alloc o) w') : w.heap.size + 1 ≤ w'.heap.size := by
  have := h.size
  simpa using this
theorem Ext.drewN (w : World) (n : Nat) : Ext w (w.drewN n) := ⟨rfl, rfl, rfl, Nat.le_refl _, fun _ _ => rfl⟩
theorem Ext.drew (w : World) : Ext w w.drew := Below.drew (Below.refl _ _)
theorem Ext.alloc (w : World) (o : Obj) : Ext w (w.alloc o) := Below.alloc (Below.refl _ _) (Nat.le_refl _) o

/-- Behind the address lie these cells. -/
def Row (w : World) (A : Option Addr) (vs : List Value) : Prop :=
  ∀ j (h : j < vs.length), ∃ ad, A = some ad ∧ w.cell? (ad.add j) = some vs[j]

theorem Row.ext {w w' : World} {A : Option Addr} {vs : List Value} (h : Row w A vs) (e : Ext w w') : Row w' A vs := fun j hj => by
  obtain ⟨ad, ha, hc⟩ := h j hj
  exact ⟨ad, ha, e.cell hc⟩

/-- A slice value whose elements (of one cell each) read as a list, each by R. -/
def RSl {α : Type} (R : World → Value → α → Prop) (w : World) (v : Value) (xs : List α) : Prop :=
  ∃ A c vs, v = .slice A vs.length c ∧ vs.length ≤ c ∧ vs.length ≤ 9223372036854775807 ∧ Row w A vs ∧ vs.length = xs.length ∧
    ∀ j (h : j < vs.length) (h' : j < xs.length), R w vs[j] xs[j]

theorem RSl.ext {α : Type} {R : World → Value → α → Prop} (hR : ∀ w w' v x, Ext w w' → R w v x → R w' v x) {w w' : World} {v : Value} {xs : List α} (h : RSl R w v xs) (e : Ext w w') : RSl R w' v xs := by
  obtain ⟨A, c, vs, h1, h2, h3, h4, h5, h6⟩ := h
  exact ⟨A, c, vs, h1, h2, h3, h4.ext e, h5, fun j hj hj' => hR _ _ _ _ e (h6 j hj hj')⟩

/-- A slice value reads as a list of 64-bit integers. -/
def RI (w : World) (v : Value) (xs : List Int) : Prop :=
  ∃ A c, v = .slice A xs.length c ∧ xs.length ≤ c ∧ xs.length ≤ 9223372036854775807 ∧ Row w A (xs.map (Value.int .i64))

theorem RI.ext {w w' : World} {v : Value} {xs : List Int} (h : RI w v xs) (e : Ext w w') : RI w' v xs := by
  obtain ⟨A, c, h1, h2, h3, h4⟩ := h
  exact ⟨A, c, h1, h2, h3, h4.ext e⟩

theorem Row.int {w : World} {A : Option Addr} {xs : List Int} (h : Row w A (xs.map (Value.int .i64))) (j : Nat) (hj : j < xs.length) : ∃ ad, A = some ad ∧ w.cell? (ad.add j) = some (.int .i64 xs[j]) := by
  obtain ⟨ad, ha, hc⟩ := h j (by simpa using hj)
  exact ⟨ad, ha, by simpa using hc⟩

/-- A slice of slices of integers. -/
abbrev RLL (w : World) (v : Value) (xss : List (List Int)) : Prop := RSl RI w v xss

theorem RLL.ext' {w w' : World} {v : Value} {xss : List (List Int)} (h : RLL w v xss) (e : Ext w w') : RLL w' v xss :=
  RSl.ext (R := RI) (fun _ _ _ _ e h => RI.ext h e) h e

/-- A function with a body: what a function value of it enters. -/
def Fv (P : Program) (f : FuncId) : Prop := ∃ fn, P.funcs[f]? = some fn ∧ (fn.name == "runtime.NumGoroutine") = false ∧ fn.body.isSome = true

theorem run_enter {P : Program} {f : FuncId} (hf : Fv P f) (args : Array Value) (w : World) : (callFunc f args).run P w = .ok (.enter f args) w := by
  obtain ⟨fn, hf, hname, hb⟩ := hf
  have h1 : fn.name ≠ "runtime.NumGoroutine" := by simpa using hname
  obtain ⟨c, hc⟩ := Option.isSome_iff_exists.1 hb
  simp [callFunc, hf, h1, hc]

/-- At the operation that writes slot N. -/
theorem at_dst {P : Program} {ops : Array Oper} {Q : Exit → Act → World → Prop} {a : Act} {w : World} {rest : List Oper} {o : Oper} (N : Nat) (_hd : o.dst = some N) (h : wpList P ops Q (o :: rest) a w) : wpList P ops Q (o :: rest) a w := h

/-- A call of a function value. -/
theorem wpList_callv {P : Program} {ops : Array Oper} {Q : Exit → Act → World → Prop} {a : Act} {w : World} {rest : List Oper} {o : Oper}
    (x : Operand) (ys : Array Operand) (ts : Array TypeId) (ho : o.op = .call { callee := .value x, args := ys, argTypes := ts }) (hw : Region.wanted o (yielded ops a.tmps) = true)
    {f : FuncId} (cap : Array Value) (hv : a.eval x = .func (.func f) #[] cap) (hf : Fv P f) (args : Array Value) (ha : ys.map a.eval ++ cap = args)
    (h : Calls P f args w fun e w' => ∃ v, e = .returned v ∧ wpList P ops Q rest (a.put o.dst v) w') : wpList P ops Q (o :: rest) a w := by
  refine BigFrame.wpList_want hw fun K hK => ?_
  have hrun : (execOp a.eval o).run P w = .ok (.enter f args) w := by
    unfold execOp
    simp [ho, resolve, Deferred.ofValue, hv, invoke, ha, run_enter hf]
  unfold Oper.wp
  rw [hrun, Oper.upon_enter]
  refine h.mono fun e w'' hh => ?_
  obtain ⟨v, rfl, hk⟩ := hh
  exact hK _ _ hk

/-- Block b is the one variable v of type t. -/
abbrev Var1 (w : World) (b : Nat) (t : TypeId) (v : Value) : Prop := w.heap[b]? = some (.cells #[v] t (0, 0))

theorem Var1.cell {w : World} {b : Nat} {t : TypeId} {v : Value} (h : Var1 w b t v) : w.cell? ⟨b, 0, none⟩ = some v := by
  simp [World.cell?, h]
theorem Var1.free {w : World} {b : Nat} {t : TypeId} {v : Value} (h : Var1 w b t v) : w.frozen? ⟨b, 0, none⟩ = false := by
  simp [World.frozen?, h]
theorem Var1.lt {w : World} {b : Nat} {t : TypeId} {v : Value} (h : Var1 w b t v) : b < w.heap.size := (Array.getElem?_eq_some_iff.1 h).1
theorem Var1.ext {w w' : World} {b : Nat} {t : TypeId} {v : Value} (h : Var1 w b t v) (e : Ext w w') : Var1 w' b t v := (e.block b h.lt).trans h
theorem Var1.set {w : World} {b : Nat} {t : TypeId} {v : Value} (h : Var1 w b t v) (u : Value) : Var1 (w.setCell ⟨b, 0, none⟩ u) b t u := by
  simp only [Var1, World.setCell, Array.getElem?_modify, h]
  simp
theorem Var1.new (w : World) (t : TypeId) (v : Value) : Var1 (w.alloc (.cells #[v] t)) w.heap.size t v := heap_alloc_new w _

/-- A slice of the call's own (its row lies in a block from base on): it reads as a list of integers. -/
def OwnI (w : World) (base : Nat) (v : Value) (xs : List Int) : Prop := w.ownsRow base 3 1 v xs.length (xs.map (Value.int .i64))

theorem addr0 (g j : Nat) : (⟨g, 0, none⟩ : Addr).add j = ⟨g, j, none⟩ := by unfold Addr.add; split <;> simp_all

theorem own_row {w : World} {base : Nat} {e : TypeId} {v : Value} {vs : List Value} (h : w.ownsRow base e 1 v vs.length vs) : ∃ A c, v = .slice A vs.length c ∧ vs.length ≤ c ∧ vs.length ≤ 9223372036854775807 ∧ Row w A vs := by
  obtain ⟨_, h | ⟨g, cap, cur, rfl, hb, hg, hn, hm, hs, ht⟩⟩ := h
  · obtain ⟨rfl, hn⟩ := h
    exact ⟨none, 0, by rw [hn], by omega, by omega, fun j hj => by omega⟩
  · refine ⟨_, cap, rfl, hn, by unfold maxLen at hm; omega, fun j hj => ⟨_, rfl, ?_⟩⟩
    rw [addr0, cell_of_row w g j cur e (0, 0) hg]
    have h1 : (cur.toList.take (vs.length * 1))[j]? = vs[j]? := by rw [ht]
    rw [List.getElem?_take, if_pos (by omega), List.getElem?_eq_getElem hj] at h1
    simpa using h1

theorem OwnI.reads {w : World} {base : Nat} {v : Value} {xs : List Int} (h : OwnI w base v xs) : RI w v xs := by
  unfold OwnI at h
  have h' : w.ownsRow base 3 1 v (xs.map (Value.int .i64)).length (xs.map (Value.int .i64)) := by simpa using h
  obtain ⟨A, c, h1, h2, h3, h4⟩ := own_row h'
  simp only [List.length_map] at h1 h2 h3
  exact ⟨A, c, h1, h2, h3, h4⟩

theorem OwnI.nil (w : World) (base : Nat) : OwnI w base (.slice none 0 0) [] := World.ownsRow_nil w base _ 1

theorem own_lower {w : World} {base base' : Nat} {e : TypeId} {size n : Nat} {v : Value} {xs : List Value} (h : w.ownsRow base e size v n xs) (hb : base' ≤ base) : w.ownsRow base' e size v n xs := by
  obtain ⟨h1, h | ⟨g, cap, cur, h2, h3, h4⟩⟩ := h
  · exact ⟨h1, .inl h⟩
  · exact ⟨h1, .inr ⟨g, cap, cur, h2, by omega, h4⟩⟩

theorem own_ext {w w' : World} {base : Nat} {e : TypeId} {size n : Nat} {v : Value} {xs : List Value} (h : w.ownsRow base e size v n xs) (k : Ext w w') : w'.ownsRow base e size v n xs :=
  h.kept (row := none) ⟨k.os, k.tape, k.output, k.size, fun i hi _ => k.block i hi⟩ (by cases v.ownBlock <;> simp)

theorem Ext.grown {w0 w w' : World} {row : Option Nat} (h : Ext w0 w) (g : w.grownBy w' row) (hr : ∀ k, row = some k → w0.heap.size ≤ k) : Ext w0 w' := Below.grown h g h.size hr

/-- Block g holds these cells, none frozen. -/
def Blk (w : World) (g : Nat) (e : TypeId) (cur : List Value) : Prop := w.heap[g]? = some (.cells cur.toArray e (0, 0))

section
variable {w w' : World} {g : Nat} {e : TypeId} {cur : List Value}
theorem Blk.cell (h : Blk w g e cur) (i : Nat) : w.cell? ⟨g, i, none⟩ = cur[i]? := by rw [cell_of_row w g i cur.toArray e (0, 0) h]; simp
theorem Blk.free (h : Blk w g e cur) (i : Nat) : w.frozen? ⟨g, i, none⟩ = false := by unfold Blk at h; simp [World.frozen?, h]
theorem Blk.lt (h : Blk w g e cur) : g < w.heap.size := (Array.getElem?_eq_some_iff.1 h).1
theorem Blk.ext (h : Blk w g e cur) (k : Ext w w') : Blk w' g e cur := (k.block g h.lt).trans h
theorem Blk.set (h : Blk w g e cur) (i : Nat) (u : Value) : Blk (w.setCell ⟨g, i, none⟩ u) g e (cur.set i u) := by
  unfold Blk at *
  simp only [World.setCell, Array.getElem?_modify, h]
  simp
theorem Blk.new (w : World) (e : TypeId) (cur : List Value) : Blk (w.alloc (.cells cur.toArray e)) w.heap.size e cur := heap_alloc_new w _

/-- Only block g may have been turned; others stand; there may be new ones. -/
abbrev Upd (g : Nat) (w w' : World) : Prop := w.grownBy w' (some g)
theorem Upd.refl (g : Nat) (w : World) : Upd g w w := ⟨rfl, rfl, rfl, Nat.le_refl _, fun _ _ _ => rfl⟩
theorem Upd.trans {a b c : World} (h : Upd g a b) (k : Upd g b c) : Upd g a c :=
  ⟨k.os.trans h.os, k.tape.trans h.tape, k.output.trans h.output, Nat.le_trans h.size k.size, fun i hi hne => (k.block i (Nat.lt_of_lt_of_le hi h.size) hne).trans (h.block i hi hne)⟩
theorem Ext.upd (g : Nat) (h : Ext w w') : Upd g w w' := ⟨h.os, h.tape, h.output, h.size, fun i hi _ => h.block i hi⟩
theorem Upd.set (w : World) (g i : Nat) (u : Value) : Upd g w (w.setCell ⟨g, i, none⟩ u) :=
  ⟨rfl, rfl, rfl, by simp [World.setCell], fun k _ hne => Below.heap_setCell w _ u k (fun e => hne (by rw [e]))⟩
theorem Upd.ext {w0 : World} (h : Ext w0 w) (k : Upd g w w') (hg : w0.heap.size ≤ g) : Ext w0 w' := Below.grown h k h.size (fun i hi => by cases hi; exact hg)

theorem setCells_keep (g : Nat) : ∀ (vs : List Value) (o : Nat) {w : World} {cur : List Value}, Blk w g e cur →
    Upd g w (w.setCells g o vs) ∧ ∃ cur', Blk (w.setCells g o vs) g e cur' ∧ cur'.length = cur.length ∧ cur'.take o = cur.take o
  | [], o, w, cur, h => ⟨Upd.refl _ _, cur, h, rfl, rfl⟩
  | v :: r, o, w, cur, h => by
    obtain ⟨h1, cur', h2, h3, h4⟩ := setCells_keep g r (o + 1) (h.set o v)
    rw [World.setCells]
    refine ⟨(Upd.set w g o v).trans h1, cur', h2, by rw [h3, List.length_set], ?_⟩
    have h5 := congrArg (List.take o) h4
    rw [List.take_take, List.take_take, Nat.min_eq_left (by omega)] at h5
    rw [h5, List.take_set_of_le (Nat.le_refl _)]
end

section
variable {P : Program}
/-- xs[:j] -/
theorem slice_to {t e : TypeId} (ht : P.underlying t = some (.slice e)) {z : Value} {n b : Nat} (hi : (P.info? e).map (fun i => (i.zero, i.size, i.bytes)) = some (some z, n, b)) (A : Option Addr) (l c j : Nat) (hc : j ≤ c) :
    ∀ W : World, (Instr.slice t (.slice A l c) none (some (.int .i64 (j : Int))) none).run P W = .ok (.slice A j c) W := by
  intro W
  obtain ⟨i, hi, _, _, _⟩ := info_parts hi
  have hel : P.elem t = e := by simp [Program.elem, ht]
  have hu : P.underlying t = some (.slice (P.elem t)) := by rw [hel]; exact ht
  have ha : (A.map fun x => x.add 0) = A := by cases A <;> simp [Addr.add]
  rw [run_slice_h W t A l c hu .i64 (j : Int) (Int.natCast_nonneg _) (by omega), hel]
  simp [sizeOf, typeInfo, hi, sliced, Result.andThen, ha]
/-- xs[j:] -/
theorem slice_from {t e : TypeId} (ht : P.underlying t = some (.slice e)) {z : Value} {n b : Nat} (hi : (P.info? e).map (fun i => (i.zero, i.size, i.bytes)) = some (some z, n, b)) (A : Option Addr) (l c j : Nat) (hm : j ≤ l) :
    ∀ W : World, (Instr.slice t (.slice A l c) (some (.int .i64 (j : Int))) none none).run P W = .ok (.slice (if c = j then A else A.map (·.add (j * n))) (l - j) (c - j)) W := by
  intro W
  obtain ⟨i, hi, _, hs, _⟩ := info_parts hi
  have hel : P.elem t = e := by simp [Program.elem, ht]
  have hu : P.underlying t = some (.slice (P.elem t)) := by rw [hel]; exact ht
  rw [run_slice_l W t A l c hu .i64 (j : Int) (Int.natCast_nonneg _) (by omega), hel]
  simp [sizeOf, typeInfo, hi, hs, sliced, Result.andThen]
end

theorem own_typed {w : World} {base : Nat} {e : TypeId} {size n : Nat} {v : Value} {xs : List Value} (h : w.ownsRow base e size v n xs) {g : Nat} (hg : v.ownBlock = some g) :
    base ≤ g ∧ g < w.heap.size ∧ ∃ cur, w.heap[g]? = some (.cells cur e (0, 0)) := by
  obtain ⟨-, ⟨rfl, -⟩ | ⟨g', cap, cur, rfl, hb, hh, -⟩⟩ := h
  · simp [Value.ownBlock] at hg
  · simp [Value.ownBlock] at hg
    subst hg
    exact ⟨hb, (Array.getElem?_eq_some_iff.1 hh).1, cur, hh⟩

theorem own_apart {w : World} {b b' : Nat} {e e' : TypeId} {s s' n n' : Nat} {v v' : Value} {xs xs' : List Value} (h : w.ownsRow b e s v n xs) (h' : w.ownsRow b' e' s' v' n' xs') (hne : e ≠ e') : v.ownBlock = none ∨ v.ownBlock ≠ v'.ownBlock := by
  cases hv : v.ownBlock with
  | none => exact .inl rfl
  | some g =>
    refine .inr fun he => hne ?_
    obtain ⟨-, -, cur, h1⟩ := own_typed h hv
    obtain ⟨-, -, cur', h2⟩ := own_typed h' he.symm
    rw [h1] at h2
    injection h2 with h2
    injection h2

/-- A slice of slices of integers, all of the call's own. -/
def OwnLL (w : World) (base : Nat) (v : Value) (xss : List (List Int)) : Prop :=
  ∃ vs, w.ownsRow base 22 1 v vs.length vs ∧ vs.length = xss.length ∧ ∀ j (h : j < vs.length) (h' : j < xss.length), OwnI w base vs[j] xss[j]

theorem OwnLL.ext {w w' : World} {base : Nat} {v : Value} {xss : List (List Int)} (h : OwnLL w base v xss) (k : Ext w w') : OwnLL w' base v xss := by
  obtain ⟨vs, h1, h2, h3⟩ := h
  exact ⟨vs, own_ext h1 k, h2, fun j hj hj' => own_ext (h3 j hj hj') k⟩

theorem OwnLL.lower {w : World} {base base' : Nat} {v : Value} {xss : List (List Int)} (h : OwnLL w base v xss) (hb : base' ≤ base) : OwnLL w base' v xss := by
  obtain ⟨vs, h1, h2, h3⟩ := h
  exact ⟨vs, own_lower h1 hb, h2, fun j hj hj' => own_lower (h3 j hj hj') hb⟩

theorem OwnLL.nil (w : World) (base : Nat) : OwnLL w base (.slice none 0 0) [] := ⟨[], World.ownsRow_nil w base _ 1, rfl, fun j h => absurd h (Nat.not_lt_zero j)⟩

theorem OwnLL.reads {w : World} {base : Nat} {v : Value} {xss : List (List Int)} (h : OwnLL w base v xss) : RLL w v xss := by
  obtain ⟨vs, h1, h2, h3⟩ := h
  obtain ⟨A, c, h4, h5, h6, h7⟩ := own_row h1
  exact ⟨A, c, vs, h4, h5, h6, h7, h2, fun j hj hj' => (h3 j hj hj').reads⟩

theorem OwnI.one {w : World} {base : Nat} {v : Value} {xs : List Int} (h : OwnI w base v xs) : v.oneCell' = true := by
  obtain ⟨-, ⟨rfl, -⟩ | ⟨g', cap, cur, rfl, -⟩⟩ := h <;> rfl

/-- An element more, behind the append of its value. -/
theorem OwnLL.snoc {w w' : World} {base : Nat} {v v' : Value} {vs : List Value} {xss : List (List Int)} {u : Value} {xs : List Int} (h2 : vs.length = xss.length) (h3 : ∀ j (h : j < vs.length) (h' : j < xss.length), OwnI w base vs[j] xss[j])
    (ho : w.ownsRow base 22 1 v vs.length vs) (hu : OwnI w base u xs) (h' : w'.ownsRow base 22 1 v' (vs.length + 1) (vs ++ [u])) (hg : w.grownBy w' v.ownBlock) : OwnLL w' base v' (xss ++ [xs]) := by
  have keep : ∀ {u : Value} {xs : List Int}, OwnI w base u xs → OwnI w' base u xs := fun h => h.kept hg (own_apart h ho (by decide))
  refine ⟨vs ++ [u], by simpa using h', by simp [h2], fun j hj hj' => ?_⟩
  by_cases hlt : j < vs.length
  · rw [List.getElem_append_left hlt, List.getElem_append_left (by omega)]
    exact keep (h3 j hlt (by omega))
  · have e : j = vs.length := by simp at hj; omega
    subst e
    rw [List.getElem_append_right (Nat.le_refl _), List.getElem_append_right (by omega)]
    simp only [Nat.sub_self, List.getElem_cons_zero, h2]
    exact keep hu

/-- The one cell of a slice literal of one element. -/
theorem one_cell (w : World) (v : Value) (t : TypeId) : ∀ j u, [v][j]? = some u → (w.alloc (.cells #[v] t)).cell? ((⟨w.heap.size, 0, none⟩ : Addr).add j) = some u := fun j u hu => by
  obtain ⟨hj, he⟩ := List.getElem?_eq_some_iff.1 hu
  obtain rfl : j = 0 := by simpa using hj
  simp only [List.getElem_cons_zero] at he
  rw [addr0, ← he]
  exact (Var1.new w t v).cell

/-- Only blocks of S may have been turned; there may be new ones. -/
structure Chg (S : Nat → Prop) (w w' : World) : Prop where
  os : w'.os = w.os
  tape : w'.tape = w.tape
  output : w'.output = w.output
  size : w.heap.size ≤ w'.heap.size
  block : ∀ k, k < w.heap.size → ¬ S k → w'.heap[k]? = w.heap[k]?

section
variable {S S' : Nat → Prop} {w w' a b c : World}
theorem Chg.refl (S : Nat → Prop) (w : World) : Chg S w w := ⟨rfl, rfl, rfl, Nat.le_refl _, fun _ _ _ => rfl⟩
theorem Chg.then (h : Chg S a b) (k : Chg S' b c) (hs : ∀ i, S' i → S i ∨ a.heap.size ≤ i) : Chg S a c :=
  ⟨k.os.trans h.os, k.tape.trans h.tape, k.output.trans h.output, Nat.le_trans h.size k.size, fun i hi hn =>
    (k.block i (Nat.lt_of_lt_of_le hi h.size) (fun hs' => (hs i hs').elim hn (fun h' => absurd h' (by omega)))).trans (h.block i hi hn)⟩
theorem Chg.trans (h : Chg S a b) (k : Chg S b c) : Chg S a c := h.then k fun _ h => .inl h
theorem Chg.mono (h : Chg S w w') (hs : ∀ i, S i → S' i) : Chg S' w w' := ⟨h.os, h.tape, h.output, h.size, fun i hi hn => h.block i hi fun h' => hn (hs i h')⟩
theorem Ext.chg (S : Nat → Prop) (h : Ext w w') : Chg S w w' := ⟨h.os, h.tape, h.output, h.size, fun i hi _ => h.block i hi⟩
theorem Chg.ext (h : Chg S a b) (k : Ext b c) : Chg S a c := h.trans (k.chg S)
theorem grown_chg {row : Option Nat} (h : w.grownBy w' row) : Chg (fun i => some i = row) w w' := ⟨h.os, h.tape, h.output, h.size, h.block⟩
theorem Upd.chg {g : Nat} (h : Upd g w w') : Chg (fun i => i = g) w w' := ⟨h.os, h.tape, h.output, h.size, fun i hi hn => h.block i hi (fun e => hn (by injection e))⟩
theorem Chg.set (w : World) (g i : Nat) (u : Value) : Chg (fun k => k = g) w (w.setCell ⟨g, i, none⟩ u) := (Upd.set w g i u).chg
theorem Chg.blk (h : Chg S w w') {g : Nat} {e : TypeId} {cur : List Value} (hb : Blk w g e cur) (hn : ¬ S g) : Blk w' g e cur := (h.block g hb.lt hn).trans hb
theorem Chg.own (h : Chg S w w') {base : Nat} {e : TypeId} {size n : Nat} {v : Value} {xs : List Value} (ho : w.ownsRow base e size v n xs) (hn : ∀ k, v.ownBlock = some k → ¬ S k) : w'.ownsRow base e size v n xs := by
  obtain ⟨h1, h2 | ⟨g, cap, cur, rfl, hb, hg, r⟩⟩ := ho
  · exact ⟨h1, .inl h2⟩
  · exact ⟨h1, .inr ⟨g, cap, cur, rfl, hb, (h.block g (Array.getElem?_eq_some_iff.1 hg).1 (hn g rfl)).trans hg, r⟩⟩
theorem Chg.toExt {w0 : World} (h : Ext w0 w) (k : Chg S w w') (hs : ∀ i, S i → w0.heap.size ≤ i) : Ext w0 w' :=
  ⟨k.os.trans h.os, k.tape.trans h.tape, k.output.trans h.output, Nat.le_trans h.size k.size, fun i hi => (k.block i (Nat.lt_of_lt_of_le hi h.size) fun hn => by have := hs i hn; omega).trans (h.block i hi)⟩
end

end Go.Proofs.YtlompphnngnaiaaGreatDoor
namespace Go.Proofs.YtlompphnngnaiaaGreatDoor
open Go.RowKit

theorem ret_int {k : IntKind} {a b : Int} (h : a = b) : Ending.returned (.int k a) = .returned (.int k b) := by rw [h]

theorem ret_bool {a b : Bool} (h : a = b) : Ending.returned (.bool a) = .returned (.bool b) := by rw [h]
theorem wrapu (n : Int) : IntKind.u64.wrap n = n % 18446744073709551616 := by
  simp [IntKind.wrap, IntKind.signed, IntKind.bits]

set_option maxHeartbeats 400000 in
theorem size_any (n : Int) (hn : I64 n) (w : World) :
    Calls Tryz.prog 76 #[.int .i64 n] w fun e w' => e = .returned (.int .u64 (n.natAbs : Int)) ∧ w = w' := by
  unfold I64 at hn
  go_enter Tryz.func76, Tryz.ntmps76
  go_wp2
  all_goals
    go_ret
    refine ⟨ret_int ?_, rfl⟩
    try simp only [wrapu]
    omega

set_option maxHeartbeats 400000 in
theorem var_any (n : Int) (hn : I64 n) (w : World) :
    Calls Tryz.prog 33 #[.int .i64 n] w fun e w' => e = .returned (.int .i64 (varOf n)) ∧ w = w' := by
  have hn' := hn
  unfold I64 at hn'
  go_enter Tryz.func33, Tryz.ntmps33
  go_wp2_with (go_at_call 76; refine (size_any _ hn _).mono ?_; rintro e w' ⟨rfl, rfl⟩)
  all_goals
    go_ret
    refine ⟨ret_int ?_, rfl⟩
    unfold varOf
    first | rw [if_pos (by omega)] | rw [if_neg (by omega)]

theorem var_still (n : Int) (hn : I64 n) (w : World) :
    Calls Tryz.prog 33 #[.int .i64 n] w fun e w' => e = .returned (.int .i64 (varOf n)) ∧ w' = w := (var_any n hn w).mono fun _ _ ⟨h1, h2⟩ => ⟨h1, h2.symm⟩

set_option maxHeartbeats 400000 in
theorem may_any (v : Value) (xs : List Int) (w : World) (hr : RI w v xs) (h64 : All64 xs) :
    Calls Tryz.prog 35 #[v] w fun e w' => e = .returned (.bool (mayB xs)) ∧ w = w' := by
  obtain ⟨A, c, rfl, hc, hm, hcell⟩ := hr
  have HC := Lib.hid hcell
  clear hcell
  go_enter Tryz.func35, Tryz.ntmps35
  go_wp2
  go_loop [3, 9] (fun l i => ∃ (k : Nat) (last : Int), k ≤ xs.length ∧ i = .int .i64 k ∧ l = .int .i64 last ∧ Hid (mayFrom last (xs.drop k) = mayB xs)) (fun _ i => xs.length - (intOf i).toNat)
  case atStart => exact ⟨0, 0, Nat.zero_le _, rfl, rfl, rfl⟩
  case round =>
    obtain ⟨k, last, hk, rfl, rfl, HI⟩ := hrel
    by_cases hlt : k < xs.length
    · obtain ⟨ad, rfl, hcell⟩ := HC.out.int k hlt
      have hx := h64 _ (List.getElem_mem hlt)
      have HD := Lib.hid (mayFrom_drop last xs k hlt)
      go_wp2_with (go_at_call 33; refine (var_any _ hx _).mono ?_; rintro e w' ⟨rfl, rfl⟩)
      · go_ret
        have hle : varOf xs[k] ≤ last := by assumption
        refine ⟨ret_bool ?_, rfl⟩
        rw [← HI.out, HD.out, if_pos hle]
      · go_round
        case rel =>
          have hgt : last < varOf xs[k] := by assumption
          exact ⟨k + 1, varOf xs[k], by omega, by go_num, rfl, by rw [← HI.out, HD.out, if_neg (by omega)]; rfl⟩
        case measure => simp [intOf]; omega
    · go_wp2
      go_ret
      refine ⟨ret_bool ?_, rfl⟩
      rw [← HI.out, List.drop_eq_nil_of_le (by omega)]; rfl

end Go.Proofs.YtlompphnngnaiaaGreatDoor
namespace Go.Proofs.YtlompphnngnaiaaGreatDoor
open Go.RowKit

/-- What IndexFunc comes to: the first place of n at which p holds, or -1. -/
def IdxOf (p : Nat → Bool) (n : Nat) (r : Int) : Prop :=
  (∃ k, k < n ∧ p k = true ∧ (∀ j, j < k → p j = false) ∧ r = (k : Int)) ∨ ((∀ j, j < n → p j = false) ∧ r = -1)

/-- .. with a state that each call turns. -/
def IdxSt (p : Nat → Bool) (n : Nat) (J : Nat → World → Prop) (r : Int) (w : World) : Prop :=
  (∃ k, k < n ∧ p k = true ∧ (∀ j, j < k → p j = false) ∧ r = (k : Int) ∧ J (k + 1) w) ∨ ((∀ j, j < n → p j = false) ∧ r = -1 ∧ J n w)

def PostIdx (p : Nat → Bool) (n : Nat) (J : Nat → World → Prop) (e : Ending) (w : World) : Prop := ∃ r : Int, e = .returned (.int .i64 r) ∧ IdxSt p n J r w

set_option maxHeartbeats 400000 in
theorem indexFuncI (f : FuncId) (cap : Array Value) (hf : Fv Tryz.prog f) (A : Option Addr) (c : Nat) (vs : List Value) (hm : vs.length ≤ 9223372036854775807) (p : Nat → Bool) (J : Nat → World → Prop) (w : World)
    (hJ : ∀ k w', J k w' → Row w' A vs)
    (hcl : ∀ k (h : k < vs.length) w', J k w' → Calls Tryz.prog f (#[vs[k]] ++ cap) w' fun e w'' => e = .returned (.bool (p k)) ∧ J (k + 1) w'')
    (h0 : J 0 w) :
    Calls Tryz.prog 67 #[.slice A vs.length c, .func (.func f) #[] cap] w (PostIdx p vs.length J) := by
  have HJ := Lib.hid hJ
  have HCL := Lib.hid hcl
  have H0 := Lib.hid h0
  clear hJ hcl h0
  go_enter Tryz.func67, Tryz.ntmps67
  go_wp2
  go_loopw [8] (fun i wr => ∃ k : Nat, k ≤ vs.length ∧ i = .int .i64 k ∧ Hid (J k wr) ∧ Hid (∀ j, j < k → p j = false)) (fun i _ => vs.length - (intOf i).toNat)
  case atStart => exact ⟨0, Nat.zero_le _, rfl, H0, fun j h => absurd h (Nat.not_lt_zero j)⟩
  case round =>
    obtain ⟨k, hk, rfl, HK, HP⟩ := hrel
    by_cases hlt : k < vs.length
    · obtain ⟨ad, rfl, hcell⟩ := HJ.out k _ HK.out k hlt
      go_wp2_with (refine wpList_callv (.tmp 11) #[.tmp 15] _ rfl rfl cap rfl hf (#[vs[k]] ++ cap) (by simp only [List.map_toArray, List.map_cons, List.map_nil]; rfl) ?_; refine (HCL.out k hlt _ HK.out).mono ?_; rintro e w' ⟨rfl, hJ'⟩; refine ⟨_, rfl, ?_⟩; have HJ' := Lib.hid hJ'; clear hJ')
      · go_ret
        exact ⟨k, rfl, .inl ⟨k, hlt, by assumption, HP.out, rfl, HJ'.out⟩⟩
      · have hpk : p k = false := by assumption
        go_round
        case rel => exact ⟨k + 1, by omega, by go_num, HJ', fun j hj => if h : j = k then h ▸ hpk else HP.out j (by omega)⟩
        case measure => simp [intOf]; omega
    · go_wp2
      go_ret
      obtain rfl : k = vs.length := by omega
      exact ⟨-1, rfl, .inr ⟨HP.out, rfl, HK.out⟩⟩
set_option maxHeartbeats 400000 in
theorem indexFuncL (f : FuncId) (cap : Array Value) (hf : Fv Tryz.prog f) (A : Option Addr) (c : Nat) (vs : List Value) (hm : vs.length ≤ 9223372036854775807) (p : Nat → Bool) (J : Nat → World → Prop) (w : World)
    (hJ : ∀ k w', J k w' → Row w' A vs)
    (hcl : ∀ k (h : k < vs.length) w', J k w' → Calls Tryz.prog f (#[vs[k]] ++ cap) w' fun e w'' => e = .returned (.bool (p k)) ∧ J (k + 1) w'')
    (h0 : J 0 w) :
    Calls Tryz.prog 87 #[.slice A vs.length c, .func (.func f) #[] cap] w (PostIdx p vs.length J) := by
  have HJ := Lib.hid hJ
  have HCL := Lib.hid hcl
  have H0 := Lib.hid h0
  clear hJ hcl h0
  go_enter Tryz.func87, Tryz.ntmps87
  go_wp2
  go_loopw [8] (fun i wr => ∃ k : Nat, k ≤ vs.length ∧ i = .int .i64 k ∧ Hid (J k wr) ∧ Hid (∀ j, j < k → p j = false)) (fun i _ => vs.length - (intOf i).toNat)
  case atStart => exact ⟨0, Nat.zero_le _, rfl, H0, fun j h => absurd h (Nat.not_lt_zero j)⟩
  case round =>
    obtain ⟨k, hk, rfl, HK, HP⟩ := hrel
    by_cases hlt : k < vs.length
    · obtain ⟨ad, rfl, hcell⟩ := HJ.out k _ HK.out k hlt
      go_wp2_with (refine wpList_callv (.tmp 11) #[.tmp 15] _ rfl rfl cap rfl hf (#[vs[k]] ++ cap) (by simp only [List.map_toArray, List.map_cons, List.map_nil]; rfl) ?_; refine (HCL.out k hlt _ HK.out).mono ?_; rintro e w' ⟨rfl, hJ'⟩; refine ⟨_, rfl, ?_⟩; have HJ' := Lib.hid hJ'; clear hJ')
      · go_ret
        exact ⟨k, rfl, .inl ⟨k, hlt, by assumption, HP.out, rfl, HJ'.out⟩⟩
      · have hpk : p k = false := by assumption
        go_round
        case rel => exact ⟨k + 1, by omega, by go_num, HJ', fun j hj => if h : j = k then h ▸ hpk else HP.out j (by omega)⟩
        case measure => simp [intOf]; omega
    · go_wp2
      go_ret
      obtain rfl : k = vs.length := by omega
      exact ⟨-1, rfl, .inr ⟨HP.out, rfl, HK.out⟩⟩

def PostCont (p : Nat → Bool) (n : Nat) (J : Nat → World → Prop) (e : Ending) (w : World) : Prop := ∃ r : Int, e = .returned (.bool (decide (0 ≤ r))) ∧ IdxSt p n J r w

set_option maxHeartbeats 400000 in
theorem containsFuncI (f : FuncId) (cap : Array Value) (hf : Fv Tryz.prog f) (A : Option Addr) (c : Nat) (vs : List Value) (hm : vs.length ≤ 9223372036854775807) (p : Nat → Bool) (J : Nat → World → Prop) (w : World)
    (hJ : ∀ k w', J k w' → Row w' A vs)
    (hcl : ∀ k (h : k < vs.length) w', J k w' → Calls Tryz.prog f (#[vs[k]] ++ cap) w' fun e w'' => e = .returned (.bool (p k)) ∧ J (k + 1) w'')
    (h0 : J 0 w) :
    Calls Tryz.prog 72 #[.slice A vs.length c, .func (.func f) #[] cap] w (PostCont p vs.length J) := by
  have H := Lib.hid (indexFuncI f cap hf A c vs hm p J w hJ hcl h0)
  clear hJ hcl h0
  go_enter Tryz.func72, Tryz.ntmps72
  go_wp2_with (go_at_call 67; refine H.out.mono ?_; rintro e w' ⟨r, rfl, hs⟩; have HS := Lib.hid hs; clear hs)
  go_ret
  exact ⟨r, rfl, HS.out⟩
set_option maxHeartbeats 400000 in
theorem containsFuncL (f : FuncId) (cap : Array Value) (hf : Fv Tryz.prog f) (A : Option Addr) (c : Nat) (vs : List Value) (hm : vs.length ≤ 9223372036854775807) (p : Nat → Bool) (J : Nat → World → Prop) (w : World)
    (hJ : ∀ k w', J k w' → Row w' A vs)
    (hcl : ∀ k (h : k < vs.length) w', J k w' → Calls Tryz.prog f (#[vs[k]] ++ cap) w' fun e w'' => e = .returned (.bool (p k)) ∧ J (k + 1) w'')
    (h0 : J 0 w) :
    Calls Tryz.prog 50 #[.slice A vs.length c, .func (.func f) #[] cap] w (PostCont p vs.length J) := by
  have H := Lib.hid (indexFuncL f cap hf A c vs hm p J w hJ hcl h0)
  clear hJ hcl h0
  go_enter Tryz.func50, Tryz.ntmps50
  go_wp2_with (go_at_call 87; refine H.out.mono ?_; rintro e w' ⟨r, rfl, hs⟩; have HS := Lib.hid hs; clear hs)
  go_ret
  exact ⟨r, rfl, HS.out⟩

end Go.Proofs.YtlompphnngnaiaaGreatDoor
namespace Go.Proofs.YtlompphnngnaiaaGreatDoor
open Go.RowKit

set_option maxHeartbeats 400000 in
/-- The literal's own walk: the counter lies in block B. -/
theorem mayCnf_fn (w0 : World) (B : Nat) (n : Int) (v : Value) (xs : List Int) (w : World) (hr : RI w0 v xs) (h64 : All64 xs) (hE : Ext w0 w) (hB0 : w0.heap.size ≤ B) (hB : Var1 w B 3 (.int .i64 n)) (hn : 0 ≤ n) (hs : n + xs.length ≤ 9223372036854775807) :
    Calls Tryz.prog 58 #[v, .pointer (some ⟨B, 0, none⟩)] w fun e w' => e = .returned (.bool (decide (200000 < n + xs.length) || !mayB xs)) ∧ w' = w.setCell ⟨B, 0, none⟩ (.int .i64 (n + xs.length)) := by
  have hc := hB.cell
  have hf := hB.free
  have HR := Lib.hid (hr.ext (Below.setCell hE (p := ⟨B, 0, none⟩) hB0 (.int .i64 (n + xs.length))))
  obtain ⟨A, c, rfl, h1, h2, h3⟩ := hr
  clear h3 hB hE
  by_cases hbig : 200000 < n + xs.length
  · have hd : decide (200000 < n + (xs.length : Int)) = true := by simpa using hbig
    go_enter Tryz.func58, Tryz.ntmps58
    go_wp2_with fail
    go_ret
    exact ⟨by simp [hd], rfl⟩
  · have hd : decide (200000 < n + (xs.length : Int)) = false := by simpa using hbig
    go_enter Tryz.func58, Tryz.ntmps58
    go_wp2_with (go_at_call 35; refine (may_any _ xs _ HR.out h64).mono ?_; rintro e w' ⟨rfl, rfl⟩)
    go_ret
    exact ⟨by simp [hd], rfl⟩

theorem fv_mayCnf1 : Fv Tryz.prog 58 := ⟨_, Tryz.func58, by kernel_rfl, by kernel_rfl⟩

theorem mayCnfB_of (xss : List (List Int)) (J : Nat → World → Prop) (r : Int) (w : World) (hl : xss.length ≤ 20000)
    (h : IdxSt (fun k => decide (200000 < (lens xss k : Int) + (xss.getD k []).length) || !mayB (xss.getD k [])) xss.length J r w) : (!decide (0 ≤ r)) = mayCnfB xss := by
  have key : ∀ k, k < xss.length → (decide (lens xss (k + 1) ≤ 200000) && mayB (xss.getD k [])) = !(decide (200000 < (lens xss k : Int) + (xss.getD k []).length) || !mayB (xss.getD k [])) := fun k hk => by
    rw [lens_succ xss k hk, getD_of xss k hk, Bool.not_or, Bool.not_not, ← decide_not]
    congr 1
    simp only [decide_eq_decide]
    omega
  unfold mayCnfB
  rcases h with ⟨k, hk, hp, _, rfl, _⟩ | ⟨hp, rfl, _⟩
  · have hz : (List.range xss.length).all (fun k => decide (lens xss (k + 1) ≤ 200000) && mayB (xss.getD k [])) = false := by
      rw [List.all_eq_false]
      exact ⟨k, by simpa using hk, by rw [key k hk, show (_ || _) = true from hp]; simp⟩
    rw [hz]; simp
  · have hz : (List.range xss.length).all (fun k => decide (lens xss (k + 1) ≤ 200000) && mayB (xss.getD k [])) = true := by
      rw [List.all_eq_true]
      intro j hj
      have hj' : j < xss.length := by simpa using hj
      rw [key j hj', show (_ || _) = false from hp j hj']; rfl
    rw [hz]; simp [hl]

set_option maxHeartbeats 400000 in
theorem mayCnf_any (v : Value) (xss : List (List Int)) (w : World) (hr : RLL w v xss) (h64 : All64L xss) (ht : xss.length ≤ 20000 → total xss ≤ 9223372036854775807) :
    Calls Tryz.prog 17 #[v] w fun e w' => e = .returned (.bool (mayCnfB xss)) ∧ Ext w w' := by
  obtain ⟨A, c, vs, rfl, h1, h2, h3, h4, h5⟩ := hr
  have H4 := Lib.hid h4
  have H5 := Lib.hid h5
  have H3 := Lib.hid h3
  have HT := Lib.hid ht
  clear h4 h5 h3 ht
  by_cases hlen : vs.length ≤ 20000
  · have hd : decide (((vs.length : Nat) : Int) ≤ 20000) = true := by simp; omega
    have HCF := containsFuncL 58 #[.pointer (some ⟨w.heap.size, 0, none⟩)] fv_mayCnf1 A c vs h2
      (fun k => decide (200000 < (lens xss k : Int) + (xss.getD k []).length) || !mayB (xss.getD k []))
      (fun k w' => Ext w w' ∧ Var1 w' w.heap.size 3 (.int .i64 (lens xss k))) (w.alloc (.cells #[.int .i64 0] 3))
      (fun k w' h => H3.out.ext h.1)
      (fun k hk w' hJ => by
        have hk' : k < xss.length := by rw [← H4.out]; exact hk
        have hg := getD_of xss k hk'
        have hle := lens_le xss (k + 1)
        have hsu := lens_succ xss k hk'
        have := HT.out (by rw [← H4.out]; exact hlen)
        have hcl := mayCnf_fn w w.heap.size (lens xss k) vs[k] xss[k] w' (H5.out k hk hk') (h64 _ (List.getElem_mem hk')) hJ.1 (Nat.le_refl _) hJ.2 (by omega) (by omega)
        refine hcl.mono ?_
        rintro e w'' ⟨rfl, rfl⟩
        refine ⟨by rw [hg], hJ.1.setCell (Nat.le_refl _) _, ?_⟩
        rw [hsu]
        exact hJ.2.set _)
      ⟨Ext.alloc w _, Var1.new w _ _⟩
    have HC := Lib.hid HCF
    clear HCF
    go_enter Tryz.func17, Tryz.ntmps17
    go_wp2_with (go_at_call 50; refine HC.out.mono ?_; rintro e w' ⟨r, rfl, hs⟩; have HS := Lib.hid hs; clear hs)
    go_ret
    refine ⟨ret_bool (mayCnfB_of xss _ r w' (by rw [← H4.out]; exact hlen) (by rw [← H4.out]; exact HS.out)), ?_⟩
    rcases HS.out with ⟨k, _, _, _, _, h⟩ | ⟨_, _, h⟩
    · exact h.1
    · exact h.1
  · have hd : decide (((vs.length : Nat) : Int) ≤ 20000) = false := by simp; omega
    go_enter Tryz.func17, Tryz.ntmps17
    go_wp2_with fail
    go_ret
    refine ⟨ret_bool ?_, Ext.alloc w _⟩
    have := H4.out
    unfold mayCnfB
    rw [decide_eq_false (by omega)]
    rfl

end Go.Proofs.YtlompphnngnaiaaGreatDoor
namespace Go.Proofs.YtlompphnngnaiaaGreatDoor
open Go.RowKit

theorem quiet_same {P : Program} {f : FuncId} {args : Array Value} {w : World} {n : Nat} {v : Value}
    (h : Calls P f args (w.drewN n) fun e w' => e = .returned v ∧ w.drewN n = w') : Calls P f args (w.drewN n) fun e w'' => e = .returned v ∧ ∃ m, w'' = w.drewN m :=
  h.mono fun _ _ ⟨he, hm⟩ => ⟨he, n, hm.symm⟩
theorem shr1 (x : Int) : x / 2 ^ 1 = x / 2 := by simp
/-- look's two variables, boxed. -/
theorem boxes (w w' : World) (a b : Value) (t u : TypeId) (h : Ext ((w.alloc (.cells #[a] t)).alloc (.cells #[b] u)) w') :
    w'.cell? ⟨w.heap.size, 0, none⟩ = some a ∧ w'.cell? ⟨w.heap.size + 1, 0, none⟩ = some b ∧ Ext w w' := by
  refine ⟨?_, ?_, ((Ext.alloc w _).trans (Ext.alloc _ _)).trans h⟩
  · exact (((Var1.new w t a).ext (Ext.alloc _ (.cells #[b] u))).ext h).cell
  · have hs : (w.alloc (.cells #[a] t)).heap.size = w.heap.size + 1 := Array.size_push _
    have := ((Var1.new (w.alloc (.cells #[a] t)) u b).ext h).cell
    rwa [hs] at this
theorem All64.getD {xs : List Int} (h : All64 xs) (k : Nat) (hk : k < xs.length) : I64 (xs.getD k 0) := by rw [getD_int xs k hk]; exact h _ (List.getElem_mem hk)
/-- What asg.clause and its twins ask of a boxed assignment. -/
theorem RI.row {w : World} {A : Option Addr} {n c : Nat} {xs : List Int} (h : RI w (.slice A n c) xs) : n = xs.length ∧ xs.length ≤ c ∧ xs.length ≤ 9223372036854775807 ∧ Row w A (xs.map (Value.int .i64)) := by
  obtain ⟨A', c', e, h1, h2, h3⟩ := h
  cases e
  exact ⟨rfl, h1, h2, h3⟩
theorem RI.mk {w : World} {A : Option Addr} {c : Nat} {xs : List Int} (h1 : xs.length ≤ c) (h2 : xs.length ≤ 9223372036854775807) (h3 : Row w A (xs.map (Value.int .i64))) : RI w (.slice A xs.length c) xs := ⟨A, c, rfl, h1, h2, h3⟩
/-- A one-cell block's fact behind whatever has grown. -/
theorem box_at {w w' : World} {v : Value} {t : TypeId} (h : Ext (w.alloc (.cells #[v] t)) w') : w'.cell? ⟨w.heap.size, 0, none⟩ = some v ∧ Ext w w' :=
  ⟨((Var1.new w t v).ext h).cell, (Ext.alloc w _).trans h⟩
theorem Blk.new' {w : World} {g : Nat} {e : TypeId} {cur : List Value} (h : g = w.heap.size) : Blk (w.alloc (.cells cur.toArray e)) g e cur := h ▸ Blk.new w e cur
theorem Blk.RI {w : World} {g : Nat} {xs : List Int} (h : Blk w g 3 (xs.map (Value.int .i64))) (hl : xs.length ≤ 9223372036854775807) : RI w (.slice (some ⟨g, 0, none⟩) xs.length xs.length) xs := by
  refine ⟨_, _, rfl, Nat.le_refl _, hl, fun j hj => ⟨_, rfl, ?_⟩⟩
  have hadd : (⟨g, 0, none⟩ : Addr).add j = ⟨g, j, none⟩ := by unfold Addr.add; split <;> simp_all
  rw [hadd, h.cell, List.getElem?_eq_getElem hj]
theorem RI.none (w : World) : RI w (.slice Option.none 0 0) [] := ⟨Option.none, 0, rfl, Nat.le_refl _, by simp, fun j hj => by simp at hj⟩
theorem RLL.none (w : World) : RLL w (.slice Option.none 0 0) [] := ⟨Option.none, 0, [], rfl, Nat.le_refl _, by simp, fun j hj => by simp at hj, rfl, fun j hj => by simp at hj⟩
theorem Blk.RLL {w : World} {g : Nat} {vs : List Value} {f : List (List Int)} (h : Blk w g 22 vs) (hl : vs.length ≤ 9223372036854775807) (hf : vs.length = f.length) (hr : ∀ j (h : j < vs.length) (h' : j < f.length), Go.Proofs.YtlompphnngnaiaaGreatDoor.RI w vs[j] f[j]) :
    RLL w (.slice (some ⟨g, 0, Option.none⟩) vs.length vs.length) f := by
  refine ⟨_, _, vs, rfl, Nat.le_refl _, hl, fun j hj => ⟨_, rfl, ?_⟩, hf, hr⟩
  have hadd : (⟨g, 0, Option.none⟩ : Addr).add j = ⟨g, j, Option.none⟩ := by unfold Addr.add; split <;> simp_all
  rw [hadd, h.cell, List.getElem?_eq_getElem hj]
/-- The world holds the variable 'same' as the program's text lays it. -/
def HasSame (w : World) : Prop := w.cell? ⟨0, 0, Option.none⟩ = some (.func (.func 86) #[] #[])
theorem all64_of (xs : List Int) (h : (xs.all fun x => decide (-9223372036854775808 ≤ x ∧ x ≤ 9223372036854775807)) = true) : All64 xs := fun x hx =>
  show -9223372036854775808 ≤ x ∧ x ≤ 9223372036854775807 from of_decide_eq_true (List.all_eq_true.1 h x hx)
theorem all64L_of (f : List (List Int)) (h : (f.all fun xs => xs.all fun x => decide (-9223372036854775808 ≤ x ∧ x ≤ 9223372036854775807)) = true) : All64L f := fun xs hx => all64_of xs (List.all_eq_true.1 h xs hx)
abbrev rowO (xs : List Int) : Obj := .cells (xs.map (Value.int .i64)).toArray 3
abbrev slV (g n : Nat) : Value := .slice (some ⟨g, 0, Option.none⟩) n n
theorem lit0 (w : World) (xs : List Int) (h : xs.length ≤ 100) : RI (w.alloc (rowO xs)) (slV w.heap.size xs.length) xs := (Blk.new w _ _).RI (by omega)
theorem RLL.one {w : World} {g : Nat} {v0 : Value} {xs : List Int} (h : Blk w g 22 [v0]) (h0 : Go.Proofs.YtlompphnngnaiaaGreatDoor.RI w v0 xs) : RLL w (slV g 1) [xs] :=
  h.RLL (by simp) rfl fun j hj hj' => by
    obtain rfl : j = 0 := by simp at hj'; omega
    exact h0
theorem RLL.two {w : World} {g : Nat} {v0 v1 : Value} {xs ys : List Int} (h : Blk w g 22 [v0, v1]) (h0 : Go.Proofs.YtlompphnngnaiaaGreatDoor.RI w v0 xs) (h1 : Go.Proofs.YtlompphnngnaiaaGreatDoor.RI w v1 ys) : RLL w (slV g 2) [xs, ys] :=
  h.RLL (by simp) rfl fun j hj hj' => by
    match j, hj, hj' with
    | 0, _, _ => exact h0
    | 1, _, _ => exact h1
    | j + 2, _, hj' => exact absurd hj' (by simp)
theorem RLL.three {w : World} {g : Nat} {v0 v1 v2 : Value} {xs ys zs : List Int} (h : Blk w g 22 [v0, v1, v2]) (h0 : Go.Proofs.YtlompphnngnaiaaGreatDoor.RI w v0 xs) (h1 : Go.Proofs.YtlompphnngnaiaaGreatDoor.RI w v1 ys) (h2 : Go.Proofs.YtlompphnngnaiaaGreatDoor.RI w v2 zs) : RLL w (slV g 3) [xs, ys, zs] :=
  h.RLL (by simp) rfl fun j hj hj' => by
    match j, hj, hj' with
    | 0, _, _ => exact h0
    | 1, _, _ => exact h1
    | 2, _, _ => exact h2
    | j + 3, _, hj' => exact absurd hj' (by simp)
theorem lit1 (w : World) (xs : List Int) (h : xs.length ≤ 100) : RLL ((w.alloc (rowO xs)).alloc (.cells #[slV w.heap.size xs.length] 22)) (slV (w.heap.size + 1) 1) [xs] :=
  .one (Blk.new' (by simp)) ((lit0 w xs h).ext (Ext.alloc _ _))
theorem lit2 (w : World) (xs ys : List Int) (h : xs.length ≤ 100) (h' : ys.length ≤ 100) : RLL (((w.alloc (rowO xs)).alloc (rowO ys)).alloc (.cells #[slV w.heap.size xs.length, slV (w.heap.size + 1) ys.length] 22)) (slV (w.heap.size + 1 + 1) 2) [xs, ys] := by
  have e : (w.alloc (rowO xs)).heap.size = w.heap.size + 1 := by simp
  refine .two (Blk.new' (by simp)) (((lit0 w xs h).ext (Ext.alloc _ _)).ext (Ext.alloc _ _)) ?_
  have := (lit0 (w.alloc (rowO xs)) ys h')
  rw [e] at this
  exact this.ext (Ext.alloc _ _)
theorem lit3 (w : World) (xs ys zs : List Int) (h : xs.length ≤ 100) (h' : ys.length ≤ 100) (h'' : zs.length ≤ 100) :
    RLL ((((w.alloc (rowO xs)).alloc (rowO ys)).alloc (rowO zs)).alloc (.cells #[slV w.heap.size xs.length, slV (w.heap.size + 1) ys.length, slV (w.heap.size + 1 + 1) zs.length] 22)) (slV (w.heap.size + 1 + 1 + 1) 3) [xs, ys, zs] := by
  have e : (w.alloc (rowO xs)).heap.size = w.heap.size + 1 := by simp
  have e2 : ((w.alloc (rowO xs)).alloc (rowO ys)).heap.size = w.heap.size + 1 + 1 := by simp
  have h1 := (lit0 (w.alloc (rowO xs)) ys h')
  rw [e] at h1
  have h2 := (lit0 ((w.alloc (rowO xs)).alloc (rowO ys)) zs h'')
  rw [e2] at h2
  exact .three (Blk.new' (by simp)) ((((lit0 w xs h).ext (Ext.alloc _ _)).ext (Ext.alloc _ _)).ext (Ext.alloc _ _)) ((h1.ext (Ext.alloc _ _)).ext (Ext.alloc _ _)) (h2.ext (Ext.alloc _ _))
theorem HasSame.ext {w w' : World} (h : HasSame w) (k : Ext w w') : HasSame w' := k.cell h
theorem fv_same : Fv Tryz.prog 86 := ⟨_, Tryz.func86, by kernel_rfl, by kernel_rfl⟩
theorem idx_cont {p : Nat → Bool} {n : Nat} {r : Int} (h : IdxOf p n r) : decide (0 ≤ r) = (List.range n).any p := by
  rcases h with ⟨k, hk, hp, hb, rfl⟩ | ⟨hno, rfl⟩
  · have : (List.range n).any p = true := List.any_eq_true.2 ⟨k, by simpa using hk, hp⟩
    rw [this]; simp
  · have : (List.range n).any p = false := List.any_eq_false.2 fun k hk => by rw [hno k (by simpa using hk)]; simp
    rw [this]; rfl
theorem range_any_get (xs : List Int) (q : Int → Bool) : (List.range xs.length).any (fun j => q (xs.getD j 0)) = xs.any q := by
  rw [Bool.eq_iff_iff, List.any_eq_true, List.any_eq_true]
  constructor
  · rintro ⟨k, hk, hq⟩
    have hk' : k < xs.length := by simpa using hk
    exact ⟨xs[k], List.getElem_mem hk', by simpa [hk'] using hq⟩
  · rintro ⟨x, hx, hq⟩
    obtain ⟨k, hk, rfl⟩ := List.mem_iff_getElem.1 hx
    exact ⟨k, by simpa using hk, by simpa [hk] using hq⟩
end Go.Proofs.YtlompphnngnaiaaGreatDoor
namespace Go.Proofs.YtlompphnngnaiaaGreatDoor
open Go.RowKit

structure LW (w : World) : Prop where
  same : HasSame w
  tab : Lib.TabIs Tryz.prog w "internal/strconv.uint64pow10" .u64 Lib.pow10Tab
  syn : ∃ te pe, w.cell? ⟨1, 0, none⟩ = some (.iface te pe)
  rng : ∃ te pe, w.cell? ⟨2, 0, none⟩ = some (.iface te pe)
  maxl : ∃ m, w.cell? ⟨4, 0, none⟩ = some (.int .i64 m)

theorem named_pow10 : Tryz.prog.globalNamed "internal/strconv.uint64pow10" = some 3 := by kernel_rfl

theorem LW.ext {w w' : World} (h : LW w) (k : Ext w w') : LW w' := by
  obtain ⟨h1, h2, ⟨t1, p1, h3⟩, ⟨t2, p2, h4⟩, ⟨m, h5⟩⟩ := h
  exact ⟨h1.ext k, TabIs_below named_pow10 h2 k, ⟨t1, p1, k.cell h3⟩, ⟨t2, p2, k.cell h4⟩, ⟨m, k.cell h5⟩⟩
end Go.Proofs.YtlompphnngnaiaaGreatDoor
namespace Go.Proofs.YtlompphnngnaiaaGreatDoor
open Go.RowKit

theorem info_int : (Tryz.prog.info? 3).map (fun i => (i.zero, i.size, i.bytes)) = some (some (.int .i64 0), 1, 8) := by kernel_rfl
theorem info_ints : (Tryz.prog.info? 22).map (fun i => (i.zero, i.size, i.bytes)) = some (some (.slice none 0 0), 1, 24) := by kernel_rfl

theorem Row.nil {w : World} {vs : List Value} (h : Row w none vs) : vs = [] := by
  cases vs with
  | nil => rfl
  | cons x xs => obtain ⟨ad, h, _⟩ := h 0 (by simp); cases h

theorem Row.cells {w : World} {ad : Addr} {vs : List Value} (h3 : Row w (some ad) vs) : ∀ j u, vs[j]? = some u → w.cell? (ad.add j) = some u := fun j u hu => by
  obtain ⟨hj, he⟩ := List.getElem?_eq_some_iff.1 hu
  obtain ⟨ad', h, hc⟩ := h3 j hj
  cases h
  rw [hc, he]

/-- A new block of no cells is a row of the call's own. -/
theorem own_none (w : World) (e : TypeId) (base : Nat) (hb : base ≤ w.heap.size) : (w.alloc (.cells #[] e)).ownsRow base e 1 (.slice (some ⟨w.heap.size, 0, none⟩) 0 0) 0 [] :=
  World.ownsRow_made w #[] 0 hb (by simp [maxLen]) (by simp)

set_option maxHeartbeats 400000 in
theorem cloneRowI (A : Option Addr) (c : Nat) (vs : List Value) (w : World) (h1 : ∀ u ∈ vs, u.oneCell' = true) (h2 : vs.length ≤ 9223372036854775807) (h3 : Row w A vs) (hb : vs.length * 8 ≤ 140737488355328) :
    Calls Tryz.prog 43 #[.slice A vs.length c] w fun e w' => ∃ v', e = .returned v' ∧ w'.ownsRow w.heap.size 3 1 v' vs.length vs ∧ Ext w w' := by
  obtain ⟨i0, hi, hz0, hz1, hz2⟩ := info_parts info_int
  have q : ∀ (w : World) (a : Option Addr) (n c n' c' : Nat), (binOp .eql 22 (.slice a n c) (.slice none n' c')).run Tryz.prog w = .ok (.bool a.isNone) w := fun w a n c n' c' => Lib.run_eql_slice_nil w _ 3 a n c n' c' Tryz.underlying22
  cases A with
  | none =>
    have hx := h3.nil
    subst hx
    go_enter Tryz.func43, Tryz.ntmps43
    go_wp2
    go_ret
    exact ⟨_, rfl, World.ownsRow_nil w _ _ 1, Ext.refl _⟩
  | some ad =>
    have H3 := Lib.hid (Row.ext h3 (Ext.alloc w (.cells #[] 3)))
    have H1 := Lib.hid h1
    have HB := Lib.hid hb
    clear h3 h1 hb
    have HZ := Lib.hid hz0
    have HZ1 := Lib.hid hz1
    have HZ2 := Lib.hid hz2
    have HI := Lib.hid hi
    clear hz0 hz1 hz2 hi
    have HOWN := Lib.hid (own_none w 3 w.heap.size (Nat.le_refl _))
    go_enter Tryz.func43, Tryz.ntmps43
    go_wp2_with (at_builtin; refine wpList_append_own _ rfl (.tmp 5) (.tmp 6) 22 rfl w.heap.size 3 i0 (.int .i64 0) 1 8 Tryz.underlying22 HI.out HZ.out HZ1.out HZ2.out rfl (by decide) _ 0 [] rfl HOWN.out ad vs.length c vs rfl (by simp) H3.out.cells H1.out (by unfold maxLen; omega) (by rw [Nat.zero_add]; exact HB.out) (by simp) ?_; intro v' w1 hown hg _; have HO := Lib.hid hown; have HG := Lib.hid hg; clear hown hg)
    go_ret
    refine ⟨_, rfl, ?_, ?_⟩
    · have := HO.out
      rwa [Nat.zero_add, List.nil_append] at this
    · exact (Ext.alloc w _).grown HG.out (fun k hk => by cases hk; exact Nat.le_refl _)
set_option maxHeartbeats 400000 in
theorem cloneRowL (A : Option Addr) (c : Nat) (vs : List Value) (w : World) (h1 : ∀ u ∈ vs, u.oneCell' = true) (h2 : vs.length ≤ 9223372036854775807) (h3 : Row w A vs) (hb : vs.length * 24 ≤ 140737488355328) :
    Calls Tryz.prog 81 #[.slice A vs.length c] w fun e w' => ∃ v', e = .returned v' ∧ w'.ownsRow w.heap.size 22 1 v' vs.length vs ∧ Ext w w' := by
  obtain ⟨i0, hi, hz0, hz1, hz2⟩ := info_parts info_ints
  have q : ∀ (w : World) (a : Option Addr) (n c n' c' : Nat), (binOp .eql 33 (.slice a n c) (.slice none n' c')).run Tryz.prog w = .ok (.bool a.isNone) w := fun w a n c n' c' => Lib.run_eql_slice_nil w _ 22 a n c n' c' Tryz.underlying33
  cases A with
  | none =>
    have hx := h3.nil
    subst hx
    go_enter Tryz.func81, Tryz.ntmps81
    go_wp2
    go_ret
    exact ⟨_, rfl, World.ownsRow_nil w _ _ 1, Ext.refl _⟩
  | some ad =>
    have H3 := Lib.hid (Row.ext h3 (Ext.alloc w (.cells #[] 22)))
    have H1 := Lib.hid h1
    have HB := Lib.hid hb
    clear h3 h1 hb
    have HZ := Lib.hid hz0
    have HZ1 := Lib.hid hz1
    have HZ2 := Lib.hid hz2
    have HI := Lib.hid hi
    clear hz0 hz1 hz2 hi
    have HOWN := Lib.hid (own_none w 22 w.heap.size (Nat.le_refl _))
    go_enter Tryz.func81, Tryz.ntmps81
    go_wp2_with (at_builtin; refine wpList_append_own _ rfl (.tmp 5) (.tmp 6) 33 rfl w.heap.size 22 i0 (.slice none 0 0) 1 24 Tryz.underlying33 HI.out HZ.out HZ1.out HZ2.out rfl (by decide) _ 0 [] rfl HOWN.out ad vs.length c vs rfl (by simp) H3.out.cells H1.out (by unfold maxLen; omega) (by rw [Nat.zero_add]; exact HB.out) (by simp) ?_; intro v' w1 hown hg _; have HO := Lib.hid hown; have HG := Lib.hid hg; clear hown hg)
    go_ret
    refine ⟨_, rfl, ?_, ?_⟩
    · have := HO.out
      rwa [Nat.zero_add, List.nil_append] at this
    · exact (Ext.alloc w _).grown HG.out (fun k hk => by cases hk; exact Nat.le_refl _)

theorem cloneI_any (v : Value) (xs : List Int) (w : World) (hr : RI w v xs) (hb : xs.length * 8 ≤ 140737488355328) :
    Calls Tryz.prog 43 #[v] w fun e w' => ∃ v', e = .returned v' ∧ OwnI w' w.heap.size v' xs ∧ Ext w w' := by
  obtain ⟨A, c, rfl, h1, h2, h3⟩ := hr
  have := cloneRowI A c (xs.map (Value.int .i64)) w (by simp [Value.oneCell']) (by simpa using h2) h3 (by simpa using hb)
  rw [List.length_map] at this
  exact this

theorem getD_val (vs : List Value) (k : Nat) (h : k < vs.length) (d : Value) : vs.getD k d = vs[k] := by
  rw [List.getD_eq_getElem?_getD, List.getElem?_eq_getElem h]; rfl

/-- What has been moved to the front when b elements have been seen. -/
def Moved {α : Type} (enc : α → Value) (p : α → Bool) (xs : List α) (cur : List Value) (a b : Nat) : Prop :=
  cur.take a = ((xs.take b).filter (fun u => !p u)).map enc ∧ (∀ j (h : j < xs.length), b ≤ j → cur[j]? = some (enc xs[j])) ∧ a ≤ b ∧ b ≤ xs.length ∧ xs.length ≤ cur.length

section
variable {α : Type} {enc : α → Value} {p : α → Bool} {xs : List α} {cur : List Value} {a b : Nat}
theorem Moved.keep (h : Moved enc p xs cur a b) (hb : b < xs.length) (hp : p xs[b] = false) : Moved enc p xs (cur.set a (enc xs[b])) (a + 1) (b + 1) := by
  obtain ⟨h1, h2, h3, h4, h5⟩ := h
  refine ⟨?_, fun j hj hj' => ?_, by omega, by omega, by rw [List.length_set]; exact h5⟩
  · have ha : a < (cur.set a (enc xs[b])).length := by rw [List.length_set]; omega
    rw [List.take_succ_eq_append_getElem ha, List.take_set_of_le (Nat.le_refl _), h1, List.take_succ_eq_append_getElem hb, List.filter_append]
    simp [hp]
  · rw [List.getElem?_set_ne (by omega)]
    exact h2 j hj (by omega)

theorem Moved.drop (h : Moved enc p xs cur a b) (hb : b < xs.length) (hp : p xs[b] = true) : Moved enc p xs cur a (b + 1) := by
  obtain ⟨h1, h2, h3, h4, h5⟩ := h
  refine ⟨?_, fun j hj hj' => h2 j hj (by omega), by omega, by omega, h5⟩
  rw [h1, List.take_succ_eq_append_getElem hb, List.filter_append]
  simp [hp]

theorem Moved.start {k : Nat} (hk : k < xs.length) (hp : p xs[k] = true) (hn : ∀ (j : Nat) (hj : j < k), p (xs[j]'(by omega)) = false) (hc : ∀ j (h : j < xs.length), cur[j]? = some (enc xs[j])) (hl : xs.length ≤ cur.length) :
    Moved enc p xs cur k (k + 1) := by
  refine ⟨?_, fun j h _ => hc j h, by omega, by omega, hl⟩
  have h1 : cur.take k = (xs.take k).map enc := by
    apply List.ext_getElem?
    intro j
    simp only [List.getElem?_take, List.getElem?_map]
    split
    · rw [hc j (by omega), List.getElem?_eq_getElem (by omega)]; rfl
    · rfl
  rw [h1, List.take_succ_eq_append_getElem hk, List.filter_append]
  have h2 : (xs.take k).filter (fun u => !p u) = xs.take k := by
    rw [List.filter_eq_self]
    intro u hu
    obtain ⟨j, hj, rfl⟩ := List.getElem_of_mem hu
    rw [List.length_take] at hj
    rw [List.getElem_take, hn j (by omega)]
    rfl
  rw [h2]
  simp [hp]
end

theorem filter_none {α : Type} {p : α → Bool} {xs : List α} (h : ∀ j (hj : j < xs.length), p xs[j] = false) : xs.filter (fun u => !p u) = xs := by
  rw [List.filter_eq_self]
  intro u hu
  obtain ⟨j, hj, rfl⟩ := List.getElem_of_mem hu
  rw [h j hj]; rfl


end Go.Proofs.YtlompphnngnaiaaGreatDoor
namespace Go.Proofs.YtlompphnngnaiaaGreatDoor
open Go.RowKit

/-- The append of a nil slice, whatever its capacity is said to be. -/
theorem run_append_none {P : Program} {w : World} {base : Nat} {t ty e : TypeId} {i : TypeInfo} {size : Nat} (ht : P.underlying t = some (.slice e)) (hi : P.info? e = some i) {v : Value} {n : Nat} {xs : List Value} (hown : w.ownsRow base e size v n xs) (c : Nat) :
    (Builtin.append_ #[t, t] ty #[v, .slice none 0 c]).run P w = .ok v w := by
  rcases hown.2 with ⟨rfl, rfl⟩ | ⟨g, cap, cur, rfl, _, _, hnc, _⟩
  · simp [Builtin.append_, run_underlying ht, sizeOf, typeInfo, hi, Builtin.lenOf, Builtin.firstCells]
  · simp [Builtin.append_, run_underlying ht, sizeOf, typeInfo, hi, Builtin.lenOf, Builtin.firstCells, hnc, storeCells]

/-- append(out, xs...), both of integers. -/
theorem app_I {ops : Array Oper} {rest : List Oper} {o : Oper} {a : Act} {Q : Exit → Act → World → Prop} {w : World} (hgd : o.guard = none) (s x : Operand)
    (ho : o.op = .call { callee := .builtin .append, args := #[s, x], argTypes := #[22, 22] })
    {base : Nat} {v u : Value} {xs ys : List Int} (hs : a.eval s = v) (hx : a.eval x = u) (hown : OwnI w base v xs) (hsrc : RI w u ys) (hl : xs.length + ys.length ≤ 10000000) (hbase : base ≤ w.heap.size)
    (h : ∀ v' w', OwnI w' base v' (xs ++ ys) → w.grownBy w' v.ownBlock → wpList Tryz.prog ops Q rest (a.put o.dst v') w') : wpList Tryz.prog ops Q (o :: rest) a w := by
  obtain ⟨i0, hi, hz0, hz1, hz2⟩ := info_parts info_int
  obtain ⟨A, c, rfl, h1, h2, h3⟩ := hsrc
  cases A with
  | none =>
    have h4 := h3.nil
    have h5 : ys = [] := by simpa using h4
    subst h5
    refine wpList_plain hgd fun K hK => ?_
    have hrun := run_append_none (ty := o.type) Tryz.underlying22 hi hown c
    unfold Oper.wp
    simp [execOp, ho, resolve, invoke, builtin, hs, hx, hrun, Result.andThen]
    exact hK _ _ (h v w (by rw [List.append_nil]; exact hown) ⟨rfl, rfl, rfl, Nat.le_refl _, fun _ _ _ => rfl⟩)
  | some ad =>
    refine wpList_append_own w hgd s x 22 ho base 3 i0 (.int .i64 0) 1 8 Tryz.underlying22 hi hz0 hz1 hz2 rfl (by decide) v xs.length (xs.map (Value.int .i64)) hs hown ad ys.length c (ys.map (Value.int .i64)) hx (by simp) h3.cells (by simp [Value.oneCell']) (by unfold maxLen; omega) (by omega) hbase ?_
    intro v' w' ho' hg _
    exact h v' w' (by unfold OwnI; rw [List.length_append, List.map_append]; exact ho') hg

theorem app_1w {o : Oper} {a : Act} {K : Act → World → Prop} {Q : Exit → Act → World → Prop} {w : World} (s x : Operand)
    (ho : o.op = .call { callee := .builtin .append, args := #[s, x], argTypes := #[22, 22] })
    {base g : Nat} {v : Value} {xs : List Int} {y : Int} (hs : a.eval s = v) (hx : a.eval x = .slice (some ⟨g, 0, none⟩) 1 1) (hc : w.cell? ⟨g, 0, none⟩ = some (.int .i64 y)) (hown : OwnI w base v xs) (hl : xs.length ≤ 10000000) (hbase : base ≤ w.heap.size)
    (h : ∀ v' w', OwnI w' base v' (xs ++ [y]) → w.grownBy w' v.ownBlock → K (a.put o.dst v') w') : o.wp Tryz.prog a w K Q := by
  obtain ⟨i0, hi, hz0, hz1, hz2⟩ := info_parts info_int
  refine wp_append_own w s x 22 ho base 3 i0 (.int .i64 0) 1 8 Tryz.underlying22 hi hz0 hz1 hz2 rfl (by decide) v xs.length (xs.map (Value.int .i64)) hs hown ⟨g, 0, none⟩ 1 1 [.int .i64 y] hx rfl (fun j u hj => ?_) (by simp [Value.oneCell']) (by unfold maxLen; omega) (by omega) hbase ?_
  · obtain ⟨hj, he⟩ := List.getElem?_eq_some_iff.1 hj
    obtain rfl : j = 0 := by simpa using hj
    rw [addr0, hc]; simpa using he
  · intro v' w' ho' hg _
    exact h v' w' (by unfold OwnI; rw [List.length_append, List.map_append]; exact ho') hg

/-- append(out, y): the world behind the making of the one-cell slice. -/
theorem app_1 {ops : Array Oper} {rest : List Oper} {o : Oper} {a : Act} {Q : Exit → Act → World → Prop} {w : World} (hgd : o.guard = none) (s x : Operand)
    (ho : o.op = .call { callee := .builtin .append, args := #[s, x], argTypes := #[22, 22] })
    {base : Nat} {v : Value} {xs : List Int} {y : Int} (hs : a.eval s = v) (hx : a.eval x = .slice (some ⟨w.heap.size, 0, none⟩) 1 1) (hown : OwnI w base v xs) (hl : xs.length ≤ 10000000) (hbase : base ≤ w.heap.size)
    (h : ∀ v' w', OwnI w' base v' (xs ++ [y]) → Chg (fun i => some i = v.ownBlock) w w' → wpList Tryz.prog ops Q rest (a.put o.dst v') w') : wpList Tryz.prog ops Q (o :: rest) a (w.alloc (.cells #[.int .i64 y] 3)) :=
  wpList_plain hgd fun _ hK => app_1w s x ho hs hx (Var1.new w 3 (.int .i64 y)).cell (own_ext hown (Ext.alloc w _)) hl (by simp; omega) fun v' w' h1 h2 => hK _ _ (h v' w' h1 (((Ext.alloc w _).chg _).trans (grown_chg h2)))

/-- .. at a step of a region that draws. -/
theorem step_app_1 {ops : Array Oper} {o : Oper} {a : Act} {K : Act → World → Prop} {Q : Exit → Act → World → Prop} {E : Prop} {w : World} (hgd : o.guard = none) (s x : Operand)
    (ho : o.op = .call { callee := .builtin .append, args := #[s, x], argTypes := #[22, 22] })
    {base g : Nat} {v : Value} {xs : List Int} {y : Int} (hs : a.eval s = v) (hx : a.eval x = .slice (some ⟨g, 0, none⟩) 1 1) (hc : w.cell? ⟨g, 0, none⟩ = some (.int .i64 y)) (hown : OwnI w base v xs) (hl : xs.length ≤ 10000000) (hbase : base ≤ w.heap.size)
    (h : ∀ v' w', OwnI w' base v' (xs ++ [y]) → w.grownBy w' v.ownBlock → K (a.put o.dst v') w') :
    if Region.wanted o (yielded ops a.tmps) = true then Oper.wp Tryz.prog o a w K Q else E := by
  have hw : Region.wanted o (yielded ops a.tmps) = true := by simp [Region.wanted, hgd]
  rw [if_pos hw]
  exact app_1w s x ho hs hx hc hown hl hbase h

/-- xs[1:] of a slice that reads as x :: xs. -/
theorem RI.tail {w : World} {A : Option Addr} {c : Nat} {x : Int} {xs : List Int} (h : RI w (.slice A (xs.length + 1) c) (x :: xs)) : RI w (.slice (if c = 1 then A else A.map (·.add 1)) xs.length (c - 1)) xs := by
  obtain ⟨-, h1, h2, h3⟩ := h.row
  simp only [List.length_cons] at h1 h2
  refine ⟨_, _, rfl, by omega, by omega, fun j hj => ?_⟩
  rw [List.length_map] at hj
  rw [if_neg (by omega)]
  obtain ⟨ad, rfl, hc⟩ := h3 (j + 1) (by simpa using hj)
  refine ⟨ad.add 1, rfl, ?_⟩
  rw [show (ad.add 1).add j = ad.add (j + 1) by unfold Addr.add; split <;> simp_all <;> omega, hc]
  simp
theorem RI.head {w : World} {A : Option Addr} {n c : Nat} {x : Int} {xs : List Int} (h : RI w (.slice A n c) (x :: xs)) : n = xs.length + 1 ∧ xs.length + 1 ≤ c ∧ xs.length + 1 ≤ 9223372036854775807 ∧ ∃ ad, A = some ad ∧ w.cell? ad = some (.int .i64 x) ∧ w.cell? (ad.add 0) = some (.int .i64 x) := by
  obtain ⟨h0, h1, h2, h3⟩ := h.row
  obtain ⟨ad, rfl, hc⟩ := h3.int 0 (by simp)
  simp only [List.length_cons] at h0 h1 h2
  refine ⟨h0, h1, h2, ad, rfl, ?_, by simpa using hc⟩
  rw [show ad.add 0 = ad by unfold Addr.add; split <;> simp_all] at hc
  simpa using hc

/-- A call of a function value in a quiet region. -/
theorem wpQuiet_callv {P : Program} {ops : Array Oper} {W : World} {Q : Act → Prop} {rest : List Oper} {o : Oper} {a : Act} (x : Operand) (ys : Array Operand) (ts : Array TypeId)
    (ho : o.op = .call { callee := .value x, args := ys, argTypes := ts }) (hw : Region.wanted o (yielded ops a.tmps) = true) {f : FuncId} (cap : Array Value) (hv : a.eval x = .func (.func f) #[] cap) (hf : Fv P f)
    (args : Array Value) (ha : ys.map a.eval ++ cap = args) (v : Value) (h : ∀ n, Calls P f args (W.drewN n) fun e w' => e = .returned v ∧ ∃ m, w' = W.drewN m)
    (hk : wpQuiet P ops (fun w' => ∃ n, w' = W.drewN n) Q rest (a.put o.dst v)) : wpQuiet P ops (fun w' => ∃ n, w' = W.drewN n) Q (o :: rest) a := by
  refine wpQuiet_step fun K hK => ?_
  rw [if_pos hw]
  refine ⟨v, fun w' hw' => ?_, hK _ hk⟩
  obtain ⟨n, rfl⟩ := hw'
  unfold Oper.quietAt
  have hrun : (execOp a.eval o).run P (W.drewN n) = .ok (.enter f args) (W.drewN n) := by
    unfold execOp
    simp [ho, resolve, Deferred.ofValue, hv, invoke, ha, run_enter hf]
  rw [hrun]
  exact ⟨rfl, h n⟩

theorem grow_ext {w0 w1 w' : World} {v : Value} {xs : List Int} (h : Ext w0 w1) (ho : OwnI w1 w0.heap.size v xs) (g : w1.grownBy w' v.ownBlock) : Ext w0 w' := h.grown g (fun _ hk => (own_typed ho hk).1)
end Go.Proofs.YtlompphnngnaiaaGreatDoor
