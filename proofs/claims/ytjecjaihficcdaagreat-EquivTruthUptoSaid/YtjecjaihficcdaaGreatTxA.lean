/- Walks and plain laws that this claim uses. -/
import Derived.Test.YtjecjaihficcdaaGreatProg
import Derived.WalkKit
import Derived.WalkSpells
import Derived.WalkLawsBesides
import Derived.Deep.LoopGhost
import Derived.Deep.QuietTactic
import Derived.BigQuiet
import Derived.Deep.RegionHeld3
import Derived.Deep.Draws
import Derived.Lib.Hide
import Derived.Lib.SliceRun
import Derived.Deep.AppendLies
import Derived.Deep.RegionLaw
import Derived.MapKept
import Derived.Deep.Cut
import Derived.Laws.AppendOwnNone
namespace Go.Proofs.YtjecjaihficcdaaGreat
def I64 (n : Int) : Prop := -9223372036854775808 ≤ n ∧ n ≤ 9223372036854775807
def All64 (xs : List Int) : Prop := ∀ x ∈ xs, I64 x
def All64L (xss : List (List Int)) : Prop := ∀ xs ∈ xss, All64 xs
def varOf (n : Int) : Int := if n.natAbs ≤ 65536 then (n.natAbs : Int) else 0
theorem varOf_range (n : Int) : 0 ≤ varOf n ∧ varOf n ≤ 65536 := by unfold varOf; split <;> omega
theorem varOf_neg (n : Int) : varOf (-n) = varOf n := by unfold varOf; rw [Int.natAbs_neg]
theorem varOf_eq {n : Int} (h : varOf n ≠ 0) : (n.natAbs : Int) = varOf n ∧ n ≠ 0 := by unfold varOf at *; split at h <;> simp_all
def mayFrom : Int → List Int → Bool
 | _, [] => true
 | last, x :: xs => if varOf x ≤ last then false else mayFrom (varOf x) xs
def mayB (xs : List Int) : Bool := mayFrom 0 xs
theorem mayFrom_drop (last : Int) (xs : List Int) (k : Nat) (h : k < xs.length) :
 mayFrom last (xs.drop k) = if varOf xs[k] ≤ last then false else mayFrom (varOf xs[k]) (xs.drop (k + 1)) := by
 rw [List.drop_eq_getElem_cons h]; rfl
def Asc (xs : List Int) : Prop := xs.Pairwise (fun a b => varOf a < varOf b) ∧ ∀ x ∈ xs, 0 < varOf x
theorem mayFrom_iff (xs : List Int) : ∀ last, 0 ≤ last → (mayFrom last xs = true ↔ xs.Pairwise (fun a b => varOf a < varOf b) ∧ ∀ x ∈ xs, last < varOf x) := by
 induction xs with
 | nil => intro last _; simp [mayFrom]
 | cons x xs ih =>
   intro last h0
   unfold mayFrom
   by_cases h : varOf x ≤ last
   · rw [if_pos h]
     simp only [Bool.false_eq_true, false_iff]
     rintro ⟨_, h2⟩
     have := h2 x (by simp)
     omega
   · rw [if_neg h, ih _ (by omega), List.pairwise_cons]
     constructor
     · rintro ⟨h1, h2⟩
       refine ⟨⟨h2, h1⟩, fun y hy => ?_⟩
       rcases List.mem_cons.1 hy with rfl | hy
       · omega
       · have := h2 y hy; omega
     · rintro ⟨⟨h1, h2⟩, h3⟩
       exact ⟨h2, h1⟩
theorem mayB_iff (xs : List Int) : mayB xs = true ↔ Asc xs := mayFrom_iff xs 0 (Int.le_refl _)
theorem asc_len_from : ∀ (xs : List Int) (last : Int), 0 ≤ last → xs.Pairwise (fun a b => varOf a < varOf b) → (∀ x ∈ xs, last < varOf x) → last ≤ 65536 → last + xs.length ≤ 65536 := by
 intro xs
 induction xs with
 | nil => intro last _ _ _ h; simpa using h
 | cons x xs ih =>
   intro last h0 hp hl hm
   rw [List.pairwise_cons] at hp
   have h1 := hl x (by simp)
   have h2 := varOf_range x
   have := ih (varOf x) (by omega) hp.2 hp.1 h2.2
   simp only [List.length_cons]
   omega
theorem Asc.len {xs : List Int} (h : Asc xs) : xs.length ≤ 65536 := by
 have := asc_len_from xs 0 (Int.le_refl _) h.1 h.2 (by omega)
 omega
theorem Asc.lt {xs : List Int} (h : Asc xs) (i j : Nat) (hij : i < j) (hj : j < xs.length) : varOf xs[i] < varOf xs[j] :=
 List.pairwise_iff_getElem.1 h.1 i j (by omega) hj hij
def lens (xss : List (List Int)) (k : Nat) : Nat := ((xss.take k).map List.length).sum
def mayCnfB (xss : List (List Int)) : Bool := decide (xss.length ≤ 20000) && (List.range xss.length).all fun k => decide (lens xss (k + 1) ≤ 200000) && mayB (xss.getD k [])
theorem lens_succ (xss : List (List Int)) (k : Nat) (h : k < xss.length) : lens xss (k + 1) = lens xss k + xss[k].length := by
 unfold lens
 rw [List.take_succ_eq_append_getElem h, List.map_append, List.sum_append]; simp
def total (xss : List (List Int)) : Nat := lens xss xss.length
theorem lens_le (xss : List (List Int)) (k : Nat) : lens xss k ≤ total xss := by
 unfold total lens
 rw [List.take_length]
 conv => rhs; rw [← List.take_append_drop k xss, List.map_append, List.sum_append]
 omega
theorem mayCnfB_get {f : List (List Int)} (h : mayCnfB f = true) (k : Nat) (hk : k < f.length) : mayB f[k] = true := by
 unfold mayCnfB at h
 rw [Bool.and_eq_true, List.all_eq_true] at h
 have := h.2 k (by simpa using hk)
 rw [Bool.and_eq_true] at this
 simpa [hk] using this.2
theorem mayCnfB_len {f : List (List Int)} (h : mayCnfB f = true) : f.length ≤ 20000 := by
 unfold mayCnfB at h
 rw [Bool.and_eq_true] at h
 simpa using h.1
theorem getD_of (xss : List (List Int)) (k : Nat) (h : k < xss.length) : xss.getD k [] = xss[k] := by simp [h]
theorem getD_int (xs : List Int) (k : Nat) (h : k < xs.length) : xs.getD k 0 = xs[k] := by simp [h]
end Go.Proofs.YtjecjaihficcdaaGreat
namespace Go.Proofs.YtjecjaihficcdaaGreat
open Go.RowKit
abbrev Ext (w w' : World) : Prop := Below w.heap.size w w'
theorem Ext.refl (w : World) : Ext w w := Below.refl _ _
theorem Ext.trans {a b c : World} (h : Ext a b) (k : Ext b c) : Ext a c := Below.trans h (k.mono h.size)
theorem Ext.cell {w w' : World} (h : Ext w w') {a : Addr} {v : Value} (hc : w.cell? a = some v) : w'.cell? a = some v :=
 (Below.cell h (World.block_lt_of_cell? w a hc)).trans hc
theorem Ext.drewN (w : World) (n : Nat) : Ext w (w.drewN n) := ⟨rfl, rfl, rfl, Nat.le_refl _, fun _ _ => rfl⟩
theorem Ext.drew (w : World) : Ext w w.drew := Below.drew (Below.refl _ _)
theorem Ext.alloc (w : World) (o : Obj) : Ext w (w.alloc o) := Below.alloc (Below.refl _ _) (Nat.le_refl _) o
def Row (w : World) (A : Option Addr) (vs : List Value) : Prop :=
 ∀ j (h : j < vs.length), ∃ ad, A = some ad ∧ w.cell? (ad.add j) = some vs[j]
theorem Row.ext {w w' : World} {A : Option Addr} {vs : List Value} (h : Row w A vs) (e : Ext w w') : Row w' A vs := fun j hj => by
 obtain ⟨ad, ha, hc⟩ := h j hj
 exact ⟨ad, ha, e.cell hc⟩
def RSl {α : Type} (R : World → Value → α → Prop) (w : World) (v : Value) (xs : List α) : Prop :=
 ∃ A c vs, v = .slice A vs.length c ∧ vs.length ≤ c ∧ vs.length ≤ 9223372036854775807 ∧ Row w A vs ∧ vs.length = xs.length ∧
  ∀ j (h : j < vs.length) (h' : j < xs.length), R w vs[j] xs[j]
theorem RSl.ext {α : Type} {R : World → Value → α → Prop} (hR : ∀ w w' v x, Ext w w' → R w v x → R w' v x) {w w' : World} {v : Value} {xs : List α} (h : RSl R w v xs) (e : Ext w w') : RSl R w' v xs := by
 obtain ⟨A, c, vs, h1, h2, h3, h4, h5, h6⟩ := h
 exact ⟨A, c, vs, h1, h2, h3, h4.ext e, h5, fun j hj hj' => hR _ _ _ _ e (h6 j hj hj')⟩
def RI (w : World) (v : Value) (xs : List Int) : Prop :=
 ∃ A c, v = .slice A xs.length c ∧ xs.length ≤ c ∧ xs.length ≤ 9223372036854775807 ∧ Row w A (xs.map (Value.int .i64))
theorem RI.ext {w w' : World} {v : Value} {xs : List Int} (h : RI w v xs) (e : Ext w w') : RI w' v xs := by
 obtain ⟨A, c, h1, h2, h3, h4⟩ := h
 exact ⟨A, c, h1, h2, h3, h4.ext e⟩
theorem Row.int {w : World} {A : Option Addr} {xs : List Int} (h : Row w A (xs.map (Value.int .i64))) (j : Nat) (hj : j < xs.length) : ∃ ad, A = some ad ∧ w.cell? (ad.add j) = some (.int .i64 xs[j]) := by
 obtain ⟨ad, ha, hc⟩ := h j (by simpa using hj)
 exact ⟨ad, ha, by simpa using hc⟩
abbrev RLL (w : World) (v : Value) (xss : List (List Int)) : Prop := RSl RI w v xss
theorem RLL.ext' {w w' : World} {v : Value} {xss : List (List Int)} (h : RLL w v xss) (e : Ext w w') : RLL w' v xss :=
 RSl.ext (R := RI) (fun _ _ _ _ e h => RI.ext h e) h e
def Fv (P : Program) (f : FuncId) : Prop := ∃ fn, P.funcs[f]? = some fn ∧ (fn.name == "runtime.NumGoroutine") = false ∧ fn.body.isSome = true
theorem run_enter {P : Program} {f : FuncId} (hf : Fv P f) (args : Array Value) (w : World) : (callFunc f args).run P w = .ok (.enter f args) w := by
 obtain ⟨fn, hf, hname, hb⟩ := hf
 have h1 : fn.name ≠ "runtime.NumGoroutine" := by simpa using hname
 obtain ⟨c, hc⟩ := Option.isSome_iff_exists.1 hb
 simp [callFunc, hf, h1, hc]
theorem wpList_callv {P : Program} {ops : Array Oper} {Q : Exit → Act → World → Prop} {a : Act} {w : World} {rest : List Oper} {o : Oper}
 (x : Operand) (ys : Array Operand) (ts : Array TypeId) (ho : o.op = .call { callee := .value x, args := ys, argTypes := ts }) (hw : Region.wanted o (yielded ops a.tmps) = true)
 {f : FuncId} (cap : Array Value) (hv : a.eval x = .func (.func f) #[] cap) (hf : Fv P f) (args : Array Value) (ha : ys.map a.eval ++ cap = args)
 (h : Calls P f args w fun e w' => ∃ v, e = .returned v ∧ wpList P ops Q rest (a.put o.dst v) w') : wpList P ops Q (o :: rest) a w := by
 refine BigFrame.wpList_want hw fun K hK => ?_
 have hrun : (execOp a.eval o).run P w = .ok (.enter f args) w := by
  unfold execOp
  simp [ho, resolve, Deferred.ofValue, hv, invoke, ha, run_enter hf]
 unfold Oper.wp
 rw [hrun, Oper.upon_enter]
 refine h.mono fun e w'' hh => ?_
 obtain ⟨v, rfl, hk⟩ := hh
 exact hK _ _ hk
abbrev Var1 (w : World) (b : Nat) (t : TypeId) (v : Value) : Prop := w.heap[b]? = some (.cells #[v] t (0, 0))
theorem Var1.cell {w : World} {b : Nat} {t : TypeId} {v : Value} (h : Var1 w b t v) : w.cell? ⟨b, 0, none⟩ = some v := by
 simp [World.cell?, h]
theorem Var1.free {w : World} {b : Nat} {t : TypeId} {v : Value} (h : Var1 w b t v) : w.frozen? ⟨b, 0, none⟩ = false := by
 simp [World.frozen?, h]
theorem Var1.lt {w : World} {b : Nat} {t : TypeId} {v : Value} (h : Var1 w b t v) : b < w.heap.size := (Array.getElem?_eq_some_iff.1 h).1
theorem Var1.ext {w w' : World} {b : Nat} {t : TypeId} {v : Value} (h : Var1 w b t v) (e : Ext w w') : Var1 w' b t v := (e.block b h.lt).trans h
theorem Var1.set {w : World} {b : Nat} {t : TypeId} {v : Value} (h : Var1 w b t v) (u : Value) : Var1 (w.setCell ⟨b, 0, none⟩ u) b t u := by
 simp only [Var1, World.setCell, Array.getElem?_modify, h]
 simp
theorem Var1.new (w : World) (t : TypeId) (v : Value) : Var1 (w.alloc (.cells #[v] t)) w.heap.size t v := heap_alloc_new w _
def OwnI (w : World) (base : Nat) (v : Value) (xs : List Int) : Prop := w.ownsRow base 3 1 v xs.length (xs.map (Value.int .i64))
theorem addr0 (g j : Nat) : (⟨g, 0, none⟩ : Addr).add j = ⟨g, j, none⟩ := by unfold Addr.add; split <;> simp_all
theorem own_row {w : World} {base : Nat} {e : TypeId} {v : Value} {vs : List Value} (h : w.ownsRow base e 1 v vs.length vs) : ∃ A c, v = .slice A vs.length c ∧ vs.length ≤ c ∧ vs.length ≤ 9223372036854775807 ∧ Row w A vs := by
 obtain ⟨_, h | ⟨g, cap, cur, rfl, hb, hg, hn, hm, hs, ht⟩⟩ := h
 · obtain ⟨rfl, hn⟩ := h
   exact ⟨none, 0, by rw [hn], by omega, by omega, fun j hj => by omega⟩
 · refine ⟨_, cap, rfl, hn, by unfold maxLen at hm; omega, fun j hj => ⟨_, rfl, ?_⟩⟩
   rw [addr0, cell_of_row w g j cur e (0, 0) hg]
   have h1 : (cur.toList.take (vs.length * 1))[j]? = vs[j]? := by rw [ht]
   rw [List.getElem?_take, if_pos (by omega), List.getElem?_eq_getElem hj] at h1
   simpa using h1
theorem OwnI.reads {w : World} {base : Nat} {v : Value} {xs : List Int} (h : OwnI w base v xs) : RI w v xs := by
 unfold OwnI at h
 have h' : w.ownsRow base 3 1 v (xs.map (Value.int .i64)).length (xs.map (Value.int .i64)) := by simpa using h
 obtain ⟨A, c, h1, h2, h3, h4⟩ := own_row h'
 simp only [List.length_map] at h1 h2 h3
 exact ⟨A, c, h1, h2, h3, h4⟩
theorem OwnI.nil (w : World) (base : Nat) : OwnI w base (.slice none 0 0) [] := World.ownsRow_nil w base _ 1
theorem own_lower {w : World} {base base' : Nat} {e : TypeId} {size n : Nat} {v : Value} {xs : List Value} (h : w.ownsRow base e size v n xs) (hb : base' ≤ base) : w.ownsRow base' e size v n xs := by
 obtain ⟨h1, h | ⟨g, cap, cur, h2, h3, h4⟩⟩ := h
 · exact ⟨h1, .inl h⟩
 · exact ⟨h1, .inr ⟨g, cap, cur, h2, by omega, h4⟩⟩
theorem own_ext {w w' : World} {base : Nat} {e : TypeId} {size n : Nat} {v : Value} {xs : List Value} (h : w.ownsRow base e size v n xs) (k : Ext w w') : w'.ownsRow base e size v n xs :=
 h.kept (row := none) ⟨k.os, k.tape, k.output, k.size, fun i hi _ => k.block i hi⟩ (by cases v.ownBlock <;> simp)
theorem Ext.grown {w0 w w' : World} {row : Option Nat} (h : Ext w0 w) (g : w.grownBy w' row) (hr : ∀ k, row = some k → w0.heap.size ≤ k) : Ext w0 w' := Below.grown h g h.size hr
def Blk (w : World) (g : Nat) (e : TypeId) (cur : List Value) : Prop := w.heap[g]? = some (.cells cur.toArray e (0, 0))
section
variable {w w' : World} {g : Nat} {e : TypeId} {cur : List Value}
theorem Blk.cell (h : Blk w g e cur) (i : Nat) : w.cell? ⟨g, i, none⟩ = cur[i]? := by rw [cell_of_row w g i cur.toArray e (0, 0) h]; simp
theorem Blk.free (h : Blk w g e cur) (i : Nat) : w.frozen? ⟨g, i, none⟩ = false := by unfold Blk at h; simp [World.frozen?, h]
theorem Blk.lt (h : Blk w g e cur) : g < w.heap.size := (Array.getElem?_eq_some_iff.1 h).1
theorem Blk.ext (h : Blk w g e cur) (k : Ext w w') : Blk w' g e cur := (k.block g h.lt).trans h
theorem Blk.set (h : Blk w g e cur) (i : Nat) (u : Value) : Blk (w.setCell ⟨g, i, none⟩ u) g e (cur.set i u) := by
 unfold Blk at *
 simp only [World.setCell, Array.getElem?_modify, h]
 simp
theorem Blk.new (w : World) (e : TypeId) (cur : List Value) : Blk (w.alloc (.cells cur.toArray e)) w.heap.size e cur := heap_alloc_new w _
abbrev Upd (g : Nat) (w w' : World) : Prop := w.grownBy w' (some g)
theorem Upd.refl (g : Nat) (w : World) : Upd g w w := ⟨rfl, rfl, rfl, Nat.le_refl _, fun _ _ _ => rfl⟩
theorem Upd.trans {a b c : World} (h : Upd g a b) (k : Upd g b c) : Upd g a c :=
 ⟨k.os.trans h.os, k.tape.trans h.tape, k.output.trans h.output, Nat.le_trans h.size k.size, fun i hi hne => (k.block i (Nat.lt_of_lt_of_le hi h.size) hne).trans (h.block i hi hne)⟩
theorem Ext.upd (g : Nat) (h : Ext w w') : Upd g w w' := ⟨h.os, h.tape, h.output, h.size, fun i hi _ => h.block i hi⟩
theorem Upd.set (w : World) (g i : Nat) (u : Value) : Upd g w (w.setCell ⟨g, i, none⟩ u) :=
 ⟨rfl, rfl, rfl, by simp [World.setCell], fun k _ hne => Below.heap_setCell w _ u k (fun e => hne (by rw [e]))⟩
theorem Upd.ext {w0 : World} (h : Ext w0 w) (k : Upd g w w') (hg : w0.heap.size ≤ g) : Ext w0 w' := Below.grown h k h.size (fun i hi => by cases hi; exact hg)
theorem setCells_keep (g : Nat) : ∀ (vs : List Value) (o : Nat) {w : World} {cur : List Value}, Blk w g e cur →
 Upd g w (w.setCells g o vs) ∧ ∃ cur', Blk (w.setCells g o vs) g e cur' ∧ cur'.length = cur.length ∧ cur'.take o = cur.take o
 | [], o, w, cur, h => ⟨Upd.refl _ _, cur, h, rfl, rfl⟩
 | v :: r, o, w, cur, h => by
   obtain ⟨h1, cur', h2, h3, h4⟩ := setCells_keep g r (o + 1) (h.set o v)
   rw [World.setCells]
   refine ⟨(Upd.set w g o v).trans h1, cur', h2, by rw [h3, List.length_set], ?_⟩
   have h5 := congrArg (List.take o) h4
   rw [List.take_take, List.take_take, Nat.min_eq_left (by omega)] at h5
   rw [h5, List.take_set_of_le (Nat.le_refl _)]
end
section
variable {P : Program}
theorem slice_to {t e : TypeId} (ht : P.underlying t = some (.slice e)) {z : Value} {n b : Nat} (hi : (P.info? e).map (fun i => (i.zero, i.size, i.bytes)) = some (some z, n, b)) (A : Option Addr) (l c j : Nat) (hc : j ≤ c) :
 ∀ W : World, (Instr.slice t (.slice A l c) none (some (.int .i64 (j : Int))) none).run P W = .ok (.slice A j c) W := by
 intro W
 obtain ⟨i, hi, _, _, _⟩ := info_parts hi
 have hel : P.elem t = e := by simp [Program.elem, ht]
 have hu : P.underlying t = some (.slice (P.elem t)) := by rw [hel]; exact ht
 have ha : (A.map fun x => x.add 0) = A := by cases A <;> simp [Addr.add]
 rw [run_slice_h W t A l c hu .i64 (j : Int) (Int.natCast_nonneg _) (by omega), hel]
 simp [sizeOf, typeInfo, hi, sliced, Result.andThen, ha]
theorem slice_from {t e : TypeId} (ht : P.underlying t = some (.slice e)) {z : Value} {n b : Nat} (hi : (P.info? e).map (fun i => (i.zero, i.size, i.bytes)) = some (some z, n, b)) (A : Option Addr) (l c j : Nat) (hm : j ≤ l) :
 ∀ W : World, (Instr.slice t (.slice A l c) (some (.int .i64 (j : Int))) none none).run P W = .ok (.slice (if c = j then A else A.map (·.add (j * n))) (l - j) (c - j)) W := by
 intro W
 obtain ⟨i, hi, _, hs, _⟩ := info_parts hi
 have hel : P.elem t = e := by simp [Program.elem, ht]
 have hu : P.underlying t = some (.slice (P.elem t)) := by rw [hel]; exact ht
 rw [run_slice_l W t A l c hu .i64 (j : Int) (Int.natCast_nonneg _) (by omega), hel]
 simp [sizeOf, typeInfo, hi, hs, sliced, Result.andThen]
end
theorem own_typed {w : World} {base : Nat} {e : TypeId} {size n : Nat} {v : Value} {xs : List Value} (h : w.ownsRow base e size v n xs) {g : Nat} (hg : v.ownBlock = some g) :
 base ≤ g ∧ g < w.heap.size ∧ ∃ cur, w.heap[g]? = some (.cells cur e (0, 0)) := by
 obtain ⟨-, ⟨rfl, -⟩ | ⟨g', cap, cur, rfl, hb, hh, -⟩⟩ := h
 · simp [Value.ownBlock] at hg
 · simp [Value.ownBlock] at hg
   subst hg
   exact ⟨hb, (Array.getElem?_eq_some_iff.1 hh).1, cur, hh⟩
theorem own_apart {w : World} {b b' : Nat} {e e' : TypeId} {s s' n n' : Nat} {v v' : Value} {xs xs' : List Value} (h : w.ownsRow b e s v n xs) (h' : w.ownsRow b' e' s' v' n' xs') (hne : e ≠ e') : v.ownBlock = none ∨ v.ownBlock ≠ v'.ownBlock := by
 cases hv : v.ownBlock with
 | none => exact .inl rfl
 | some g =>
   refine .inr fun he => hne ?_
   obtain ⟨-, -, cur, h1⟩ := own_typed h hv
   obtain ⟨-, -, cur', h2⟩ := own_typed h' he.symm
   rw [h1] at h2
   injection h2 with h2
   injection h2
def OwnLL (w : World) (base : Nat) (v : Value) (xss : List (List Int)) : Prop :=
 ∃ vs, w.ownsRow base 24 1 v vs.length vs ∧ vs.length = xss.length ∧ ∀ j (h : j < vs.length) (h' : j < xss.length), OwnI w base vs[j] xss[j]
theorem OwnLL.ext {w w' : World} {base : Nat} {v : Value} {xss : List (List Int)} (h : OwnLL w base v xss) (k : Ext w w') : OwnLL w' base v xss := by
 obtain ⟨vs, h1, h2, h3⟩ := h
 exact ⟨vs, own_ext h1 k, h2, fun j hj hj' => own_ext (h3 j hj hj') k⟩
theorem OwnLL.lower {w : World} {base base' : Nat} {v : Value} {xss : List (List Int)} (h : OwnLL w base v xss) (hb : base' ≤ base) : OwnLL w base' v xss := by
 obtain ⟨vs, h1, h2, h3⟩ := h
 exact ⟨vs, own_lower h1 hb, h2, fun j hj hj' => own_lower (h3 j hj hj') hb⟩
theorem OwnLL.nil (w : World) (base : Nat) : OwnLL w base (.slice none 0 0) [] := ⟨[], World.ownsRow_nil w base _ 1, rfl, fun j h => absurd h (Nat.not_lt_zero j)⟩
theorem OwnLL.reads {w : World} {base : Nat} {v : Value} {xss : List (List Int)} (h : OwnLL w base v xss) : RLL w v xss := by
 obtain ⟨vs, h1, h2, h3⟩ := h
 obtain ⟨A, c, h4, h5, h6, h7⟩ := own_row h1
 exact ⟨A, c, vs, h4, h5, h6, h7, h2, fun j hj hj' => (h3 j hj hj').reads⟩
theorem OwnI.one {w : World} {base : Nat} {v : Value} {xs : List Int} (h : OwnI w base v xs) : v.oneCell' = true := by
 obtain ⟨-, ⟨rfl, -⟩ | ⟨g', cap, cur, rfl, -⟩⟩ := h <;> rfl
theorem OwnLL.snoc {w w' : World} {base : Nat} {v v' : Value} {vs : List Value} {xss : List (List Int)} {u : Value} {xs : List Int} (h2 : vs.length = xss.length) (h3 : ∀ j (h : j < vs.length) (h' : j < xss.length), OwnI w base vs[j] xss[j])
 (ho : w.ownsRow base 24 1 v vs.length vs) (hu : OwnI w base u xs) (h' : w'.ownsRow base 24 1 v' (vs.length + 1) (vs ++ [u])) (hg : w.grownBy w' v.ownBlock) : OwnLL w' base v' (xss ++ [xs]) := by
 have keep : ∀ {u : Value} {xs : List Int}, OwnI w base u xs → OwnI w' base u xs := fun h => h.kept hg (own_apart h ho (by decide))
 refine ⟨vs ++ [u], by simpa using h', by simp [h2], fun j hj hj' => ?_⟩
 by_cases hlt : j < vs.length
 · rw [List.getElem_append_left hlt, List.getElem_append_left (by omega)]
   exact keep (h3 j hlt (by omega))
 · have e : j = vs.length := by simp at hj; omega
   subst e
   rw [List.getElem_append_right (Nat.le_refl _), List.getElem_append_right (by omega)]
   simp only [Nat.sub_self, List.getElem_cons_zero, h2]
   exact keep hu
theorem one_cell (w : World) (v : Value) (t : TypeId) : ∀ j u, [v][j]? = some u → (w.alloc (.cells #[v] t)).cell? ((⟨w.heap.size, 0, none⟩ : Addr).add j) = some u := fun j u hu => by
 obtain ⟨hj, he⟩ := List.getElem?_eq_some_iff.1 hu
 obtain rfl : j = 0 := by simpa using hj
 simp only [List.getElem_cons_zero] at he
 rw [addr0, ← he]
 exact (Var1.new w t v).cell
structure Chg (S : Nat → Prop) (w w' : World) : Prop where
 os : w'.os = w.os
 tape : w'.tape = w.tape
 output : w'.output = w.output
 size : w.heap.size ≤ w'.heap.size
 block : ∀ k, k < w.heap.size → ¬ S k → w'.heap[k]? = w.heap[k]?
section
variable {S S' : Nat → Prop} {w w' a b c : World}
theorem Chg.refl (S : Nat → Prop) (w : World) : Chg S w w := ⟨rfl, rfl, rfl, Nat.le_refl _, fun _ _ _ => rfl⟩
theorem Chg.then (h : Chg S a b) (k : Chg S' b c) (hs : ∀ i, S' i → S i ∨ a.heap.size ≤ i) : Chg S a c :=
 ⟨k.os.trans h.os, k.tape.trans h.tape, k.output.trans h.output, Nat.le_trans h.size k.size, fun i hi hn =>
  (k.block i (Nat.lt_of_lt_of_le hi h.size) (fun hs' => (hs i hs').elim hn (fun h' => absurd h' (by omega)))).trans (h.block i hi hn)⟩
theorem Chg.trans (h : Chg S a b) (k : Chg S b c) : Chg S a c := h.then k fun _ h => .inl h
theorem Chg.mono (h : Chg S w w') (hs : ∀ i, S i → S' i) : Chg S' w w' := ⟨h.os, h.tape, h.output, h.size, fun i hi hn => h.block i hi fun h' => hn (hs i h')⟩
theorem Ext.chg (S : Nat → Prop) (h : Ext w w') : Chg S w w' := ⟨h.os, h.tape, h.output, h.size, fun i hi _ => h.block i hi⟩
theorem Chg.ext (h : Chg S a b) (k : Ext b c) : Chg S a c := h.trans (k.chg S)
theorem grown_chg {row : Option Nat} (h : w.grownBy w' row) : Chg (fun i => some i = row) w w' := ⟨h.os, h.tape, h.output, h.size, h.block⟩
theorem Upd.chg {g : Nat} (h : Upd g w w') : Chg (fun i => i = g) w w' := ⟨h.os, h.tape, h.output, h.size, fun i hi hn => h.block i hi (fun e => hn (by injection e))⟩
theorem Chg.set (w : World) (g i : Nat) (u : Value) : Chg (fun k => k = g) w (w.setCell ⟨g, i, none⟩ u) := (Upd.set w g i u).chg
theorem Chg.blk (h : Chg S w w') {g : Nat} {e : TypeId} {cur : List Value} (hb : Blk w g e cur) (hn : ¬ S g) : Blk w' g e cur := (h.block g hb.lt hn).trans hb
theorem Chg.own (h : Chg S w w') {base : Nat} {e : TypeId} {size n : Nat} {v : Value} {xs : List Value} (ho : w.ownsRow base e size v n xs) (hn : ∀ k, v.ownBlock = some k → ¬ S k) : w'.ownsRow base e size v n xs := by
 obtain ⟨h1, h2 | ⟨g, cap, cur, rfl, hb, hg, r⟩⟩ := ho
 · exact ⟨h1, .inl h2⟩
 · exact ⟨h1, .inr ⟨g, cap, cur, rfl, hb, (h.block g (Array.getElem?_eq_some_iff.1 hg).1 (hn g rfl)).trans hg, r⟩⟩
theorem Chg.toExt {w0 : World} (h : Ext w0 w) (k : Chg S w w') (hs : ∀ i, S i → w0.heap.size ≤ i) : Ext w0 w' :=
 ⟨k.os.trans h.os, k.tape.trans h.tape, k.output.trans h.output, Nat.le_trans h.size k.size, fun i hi => (k.block i (Nat.lt_of_lt_of_le hi h.size) fun hn => by have := hs i hn; omega).trans (h.block i hi)⟩
end
end Go.Proofs.YtjecjaihficcdaaGreat
namespace Go.Proofs.YtjecjaihficcdaaGreat
open Go.RowKit
def lookL : List MapEntry → Int → Option Value
 | [], _ => none
 | e :: es, n => match e.key with
   | .int .i64 k => if n == k then some e.val else lookL es n
   | _ => none
def KeysInt (es : List MapEntry) : Prop := ∀ e ∈ es, ∃ n, e.key = .int .i64 n
def MapAt (w : World) (g : Nat) (m : Int → Option Value) : Prop :=
 ∃ (es : Array MapEntry) (clock : Nat), w.heap[g]? = some (.map es clock) ∧ KeysInt es.toList ∧ ∀ n, m n = lookL es.toList n
def mset (m : Int → Option Value) (n : Int) (v : Value) : Int → Option Value := fun k => if k = n then some v else m k
def idxL : List MapEntry → Int → Nat → Option (Nat × Value)
 | [], _, _ => none
 | e :: es, n, i => match e.key with
   | .int .i64 k => if n == k then some (i, e.val) else idxL es n (i + 1)
   | _ => none
theorem findNow_int (es : List MapEntry) (h : KeysInt es) (n : Int) : ∀ i, Instr.findNow (.int .i64) (.int .i64 n) es i = some (idxL es n i) := by
 induction es with
 | nil => intro i; rfl
 | cons e es ih =>
   intro i
   obtain ⟨k, hk⟩ := h e (by simp)
   have ih' := ih (fun e he => h e (by simp [he])) (i + 1)
   simp only [Instr.findNow, Instr.sameNow, hk, if_true, idxL]
   cases hb : n == k
   · simp [ih']
   · simp
theorem idxL_val (es : List MapEntry) (h : KeysInt es) (n : Int) : ∀ i, (idxL es n i).map (·.2) = lookL es n := by
 induction es with
 | nil => intro i; rfl
 | cons e es ih =>
   intro i
   obtain ⟨k, hk⟩ := h e (by simp)
   simp only [idxL, lookL, hk]
   cases hb : n == k
   · simpa using ih (fun e he => h e (by simp [he])) (i + 1)
   · simp
theorem idxL_spec (es : List MapEntry) (h : KeysInt es) (n : Int) : ∀ i j v, idxL es n i = some (j, v) → i ≤ j ∧ ∃ hj : j - i < es.length, es[j - i].key = .int .i64 n ∧ (∀ q, q < j - i → ∀ hq : q < es.length, es[q].key ≠ .int .i64 n) := by
 induction es with
 | nil => intro i j v h; simp [idxL] at h
 | cons e es ih =>
   intro i j v hi
   obtain ⟨k, hk⟩ := h e (by simp)
   simp only [idxL, hk] at hi
   by_cases hb : n = k
   · simp [hb] at hi
     obtain ⟨rfl, -⟩ := hi
     refine ⟨Nat.le_refl _, by simp, ?_, fun q hq => by omega⟩
     simp [hk, hb]
   · have hb' : (n == k) = false := by simpa using hb
     simp only [hb'] at hi
     obtain ⟨h1, h2, h3, h4⟩ := ih (fun e he => h e (by simp [he])) (i + 1) j v hi
     refine ⟨by omega, by simp; omega, ?_, ?_⟩
     · have : j - i = (j - (i + 1)) + 1 := by omega
       simp only [this, List.getElem_cons_succ]
       exact h3
     · intro q hq hq'
       cases q with
       | zero => simp [hk]; exact fun h => hb h.symm
       | succ q => simp only [List.getElem_cons_succ]; exact h4 q (by omega) (by simpa using hq')
theorem idxL_none (es : List MapEntry) (h : KeysInt es) (n : Int) : ∀ i, idxL es n i = none → ∀ e ∈ es, e.key ≠ .int .i64 n := by
 induction es with
 | nil => intro i _ e he; cases he
 | cons e es ih =>
   intro i hi e' he'
   obtain ⟨k, hk⟩ := h e (by simp)
   simp only [idxL, hk] at hi
   by_cases hb : n = k
   · simp [hb] at hi
   · have hb' : (n == k) = false := by simpa using hb
     simp only [hb'] at hi
     rcases List.mem_cons.1 he' with rfl | he'
     · simp [hk]; exact fun h => hb h.symm
     · exact ih (fun e he => h e (by simp [he])) (i + 1) hi e' he'
theorem lookL_append (es fs : List MapEntry) (h : KeysInt es) (n : Int) : lookL (es ++ fs) n = (lookL es n).or (lookL fs n) := by
 induction es with
 | nil => simp [lookL]
 | cons e es ih =>
   obtain ⟨k, hk⟩ := h e (by simp)
   simp only [List.cons_append, lookL, hk]
   cases hb : n == k
   · simpa using ih (fun e he => h e (by simp [he]))
   · simp
theorem lookL_none (es : List MapEntry) (h : KeysInt es) (n : Int) (hn : ∀ e ∈ es, e.key ≠ .int .i64 n) : lookL es n = none := by
 induction es with
 | nil => rfl
 | cons e es ih =>
   obtain ⟨k, hk⟩ := h e (by simp)
   have hne := hn e (by simp)
   rw [hk] at hne
   have hb : (n == k) = false := by simp; exact fun h => hne (by rw [h])
   simp only [lookL, hk, hb]
   exact ih (fun e he => h e (by simp [he])) (fun e he => hn e (by simp [he]))
theorem lookL_set (es : List MapEntry) (h : KeysInt es) (n : Int) (v : Value) (j : Nat) (hj : j < es.length) (hk : es[j].key = .int .i64 n) (hq : ∀ q, q < j → ∀ hq : q < es.length, es[q].key ≠ .int .i64 n) (m : Int) :
 lookL (es.set j { es[j] with key := .int .i64 n, val := v }) m = if m = n then some v else lookL es m := by
 induction es generalizing j with
 | nil => simp at hj
 | cons e es ih =>
   obtain ⟨k, hke⟩ := h e (by simp)
   cases j with
   | zero =>
     simp only [List.getElem_cons_zero] at hk
     simp only [List.set_cons_zero, lookL, List.getElem_cons_zero, hk]
     by_cases hm : m = n
     · simp [hm]
     · simp [hm]
   | succ j =>
     have hne := hq 0 (by omega) (by simp)
     simp only [List.getElem_cons_zero, hke] at hne
     simp only [List.set_cons_succ, lookL, hke, List.getElem_cons_succ]
     have ih' := ih (fun e he => h e (by simp [he])) j (by simpa using hj) (by simpa using hk) (fun q hq' hql => by have := hq (q + 1) (by omega) (by simpa using hql); simpa using this)
     rw [ih']
     by_cases hb : m = k
     · have : m ≠ n := fun h => hne (by rw [← h, hb])
       simp [hb, hb ▸ this]
     · simp [hb]
theorem keysInt_set {es : List MapEntry} (h : KeysInt es) (j : Nat) (e : MapEntry) (n : Int) (he : e.key = .int .i64 n) : KeysInt (es.set j e) := fun e' he' => by
 rcases List.mem_or_eq_of_mem_set he' with h1 | h1
 · exact h e' h1
 · subst h1; exact ⟨n, he⟩
section
variable {P : Program} {T K E : TypeId} {w : World} {g : Nat} {m : Int → Option Value}
theorem run_findKey (hK : P.underlying K = some (.int .i64)) (es : List MapEntry) (h : KeysInt es) (n : Int) : (Instr.findKey K (.int .i64 n) es).run P w = .ok (idxL es n 0) w := by
 simp [Instr.findKey, run_underlying hK, findNow_int es h n 0]
theorem run_checkKey' (hK : P.underlying K = some (.int .i64)) (b : Bool) (n : Int) (f : Nat) : (Instr.checkKey b (f + 1) K (.int .i64 n)).run P w = .ok () w := by
 simp [Instr.checkKey, run_underlying hK]
theorem run_checkKey (hK : P.underlying K = some (.int .i64)) (b : Bool) (n : Int) : (Instr.checkKey b 10000 K (.int .i64 n)).run P w = .ok () w := run_checkKey' hK b n 9999
theorem MapAt.lookup (h : MapAt w g m) (hT : P.underlying T = some (.map K E)) (hK : P.underlying K = some (.int .i64)) {z : Value} (hz : (zeroValue E).run P w = .ok z w) (n : Int) :
 (Instr.lookup T (.map (some g)) (.int .i64 n) false).run P w = .ok ((m n).getD z) w := by
 obtain ⟨es, clock, hg, hk, hm⟩ := h
 rw [hm, ← idxL_val es.toList hk n 0]
 have hf := run_findKey (P := P) (w := w) hK es.toList hk n
 have hc := run_checkKey (P := P) (w := w) hK es.isEmpty n
 cases hi : idxL es.toList n 0 with
 | none => rw [hi] at hf; simp [Instr.lookup, run_underlying hT, MapKept.run_getObj_map hg, hc, hf, hz, Result.andThen]
 | some jv => rw [hi] at hf; simp [Instr.lookup, run_underlying hT, MapKept.run_getObj_map hg, hc, hf, Result.andThen]
theorem MapAt.lookup_ok (h : MapAt w g m) (hT : P.underlying T = some (.map K E)) (hK : P.underlying K = some (.int .i64)) {z : Value} (hz : (zeroValue E).run P w = .ok z w) (n : Int) :
 (Instr.lookup T (.map (some g)) (.int .i64 n) true).run P w = .ok (.tuple #[(m n).getD z, .bool (m n).isSome]) w := by
 obtain ⟨es, clock, hg, hk, hm⟩ := h
 rw [hm, ← idxL_val es.toList hk n 0]
 have hf := run_findKey (P := P) (w := w) hK es.toList hk n
 have hc := run_checkKey (P := P) (w := w) hK es.isEmpty n
 cases hi : idxL es.toList n 0 with
 | none => rw [hi] at hf; simp [Instr.lookup, run_underlying hT, MapKept.run_getObj_map hg, hc, hf, hz, Result.andThen]
 | some jv => rw [hi] at hf; simp [Instr.lookup, run_underlying hT, MapKept.run_getObj_map hg, hc, hf, Result.andThen]
def setObjW (w : World) (g : Nat) (o : Obj) : World := { w with heap := w.heap.setIfInBounds g o }
theorem setObjW_chg (w : World) (g : Nat) (o : Obj) : Chg (fun k => k = g) w (setObjW w g o) :=
 ⟨rfl, rfl, rfl, by simp [setObjW], fun k _ hn => by simp only [setObjW]; rw [Array.getElem?_setIfInBounds_ne (fun e => hn e.symm)]⟩
theorem setObjW_at {w : World} {g : Nat} {o o' : Obj} (h : w.heap[g]? = some o) : (setObjW w g o').heap[g]? = some o' := by
 have hl := (Array.getElem?_eq_some_iff.1 h).1
 simp [setObjW, hl]
theorem sameBits_int (f : Nat) (n : Int) : Instr.sameBits f (.int .i64 n) (.int .i64 n) = true := by
 cases f <;> simp [Instr.sameBits]
theorem run_keyStays (n : Int) : (Instr.keyThatStays (.int .i64 n) (.int .i64 n)).run P w = .ok (.int .i64 n) w := by
 simp [Instr.keyThatStays, sameBits_int]
theorem modify_set (es : List MapEntry) (j : Nat) (f : MapEntry → MapEntry) (hj : j < es.length) : es.modify j f = es.set j (f es[j]) := by
 apply List.ext_getElem?
 intro i
 rw [List.getElem?_modify, List.getElem?_set]
 by_cases h : j = i
 · subst h; simp [hj]
 · simp [h]
theorem MapAt.update (h : MapAt w g m) (hT : P.underlying T = some (.map K E)) (hK : P.underlying K = some (.int .i64)) (n : Int) (v : Value) :
 ∃ w', (Instr.mapUpdate T (.map (some g)) (.int .i64 n) v).run P w = .ok () w' ∧ MapAt w' g (mset m n v) ∧ Chg (fun k => k = g) w w' := by
 obtain ⟨es, clock, hg, hk, hm⟩ := h
 have hf := run_findKey (P := P) (w := w) hK es.toList hk n
 have hc := run_checkKey (P := P) (w := w) hK false n
 cases hi : idxL es.toList n 0 with
 | none =>
   rw [hi] at hf
   refine ⟨setObjW w g (.map (es.push { key := .int .i64 n, val := v, born := clock }) (clock + 1)), ?_, ⟨_, _, setObjW_at hg, ?_, ?_⟩, setObjW_chg w g _⟩
   · simp [Instr.mapUpdate, run_underlying hT, MapKept.run_getObj_map hg, hc, hf, Result.andThen, MapKept.run_setObj_map _ hg, setObjW]
   · intro e he
     simp only [Array.toList_push, List.mem_append, List.mem_singleton] at he
     rcases he with he | rfl
     · exact hk e he
     · exact ⟨n, rfl⟩
   · intro k
     have hno := idxL_none es.toList hk n 0 hi
     rw [Array.toList_push, lookL_append _ _ hk]
     simp only [mset, lookL]
     by_cases hkn : k = n
     · subst hkn
       rw [lookL_none _ hk k hno]; simp
     · rw [if_neg hkn, hm k]
       simp [hkn]
 | some jv =>
   obtain ⟨j, ov⟩ := jv
   rw [hi] at hf
   obtain ⟨-, h2, h3, h4⟩ := idxL_spec es.toList hk n 0 j ov hi
   simp only [Nat.sub_zero] at h2 h3 h4
   have hj : j < es.size := by simpa using h2
   have hkj : es[j].key = .int .i64 n := by simpa using h3
   have hes : (es.modify j fun e => { e with key := .int .i64 n, val := v }).toList = es.toList.set j { es.toList[j] with key := .int .i64 n, val := v } := by
    rw [Array.toList_modify, modify_set _ _ _ h2]
   refine ⟨setObjW w g (.map (es.modify j fun e => { e with key := .int .i64 n, val := v }) clock), ?_, ⟨_, _, setObjW_at hg, ?_, ?_⟩, setObjW_chg w g _⟩
   · simp [Instr.mapUpdate, run_underlying hT, MapKept.run_getObj_map hg, hc, hf, Result.andThen, MapKept.run_setObj_map _ hg, setObjW, hj, hkj, run_keyStays]
   · rw [hes]; exact keysInt_set hk _ _ n rfl
   · intro k
     rw [hes, lookL_set es.toList hk n v j h2 h3 h4]
     simp only [mset, hm]
theorem MapAt.new (w : World) : MapAt (w.alloc (.map #[] 0)) w.heap.size (fun _ => none) := ⟨#[], 0, heap_alloc_new w _, fun _ he => absurd he (by simp), fun _ => rfl⟩
theorem MapAt.keep {S : Nat → Prop} {w' : World} (h : MapAt w g m) (k : Chg S w w') (hn : ¬ S g) : MapAt w' g m := by
 obtain ⟨es, clock, hg, r⟩ := h
 exact ⟨es, clock, (k.block g (Array.getElem?_eq_some_iff.1 hg).1 hn).trans hg, r⟩
theorem MapAt.ext {w' : World} (h : MapAt w g m) (k : Ext w w') : MapAt w' g m := h.keep (k.chg (fun _ => False)) id
theorem MapAt.lt (h : MapAt w g m) : g < w.heap.size := by
 obtain ⟨es, clock, hg, -⟩ := h
 exact (Array.getElem?_eq_some_iff.1 hg).1
end
end Go.Proofs.YtjecjaihficcdaaGreat
namespace Go.Proofs.YtjecjaihficcdaaGreat
open Go.RowKit
theorem ret_int {k : IntKind} {a b : Int} (h : a = b) : Ending.returned (.int k a) = .returned (.int k b) := by rw [h]
theorem ret_bool {a b : Bool} (h : a = b) : Ending.returned (.bool a) = .returned (.bool b) := by rw [h]
theorem wrapu (n : Int) : IntKind.u64.wrap n = n % 18446744073709551616 := by
 simp [IntKind.wrap, IntKind.signed, IntKind.bits]
set_option maxHeartbeats 400000 in
theorem size_any (n : Int) (hn : I64 n) (w : World) :
 Calls Tryz.prog 88 #[.int .i64 n] w fun e w' => e = .returned (.int .u64 (n.natAbs : Int)) ∧ w = w' := by
 unfold I64 at hn
 go_enter Tryz.func88, Tryz.ntmps88
 go_wp2
 all_goals
  go_ret
  refine ⟨ret_int ?_, rfl⟩
  try simp only [wrapu]
  omega
set_option maxHeartbeats 400000 in
theorem var_any (n : Int) (hn : I64 n) (w : World) :
 Calls Tryz.prog 36 #[.int .i64 n] w fun e w' => e = .returned (.int .i64 (varOf n)) ∧ w = w' := by
 have hn' := hn
 unfold I64 at hn'
 go_enter Tryz.func36, Tryz.ntmps36
 go_wp2_with (go_at_call 88; refine (size_any _ hn _).mono ?_; rintro e w' ⟨rfl, rfl⟩)
 all_goals
  go_ret
  refine ⟨ret_int ?_, rfl⟩
  unfold varOf
  first | rw [if_pos (by omega)] | rw [if_neg (by omega)]
set_option maxHeartbeats 400000 in
theorem may_any (v : Value) (xs : List Int) (w : World) (hr : RI w v xs) (h64 : All64 xs) :
 Calls Tryz.prog 76 #[v] w fun e w' => e = .returned (.bool (mayB xs)) ∧ w = w' := by
 obtain ⟨A, c, rfl, hc, hm, hcell⟩ := hr
 have HC := Lib.hid hcell
 clear hcell
 go_enter Tryz.func76, Tryz.ntmps76
 go_wp2
 go_loop [3, 9] (fun l i => ∃ (k : Nat) (last : Int), k ≤ xs.length ∧ i = .int .i64 k ∧ l = .int .i64 last ∧ Hid (mayFrom last (xs.drop k) = mayB xs)) (fun _ i => xs.length - (intOf i).toNat)
 case atStart => exact ⟨0, 0, Nat.zero_le _, rfl, rfl, rfl⟩
 case round =>
  obtain ⟨k, last, hk, rfl, rfl, HI⟩ := hrel
  by_cases hlt : k < xs.length
  · obtain ⟨ad, rfl, hcell⟩ := HC.out.int k hlt
    have hx := h64 _ (List.getElem_mem hlt)
    have HD := Lib.hid (mayFrom_drop last xs k hlt)
    go_wp2_with (go_at_call 36; refine (var_any _ hx _).mono ?_; rintro e w' ⟨rfl, rfl⟩)
    · go_ret
      have hle : varOf xs[k] ≤ last := by assumption
      refine ⟨ret_bool ?_, rfl⟩
      rw [← HI.out, HD.out, if_pos hle]
    · go_round
      case rel =>
       have hgt : last < varOf xs[k] := by assumption
       exact ⟨k + 1, varOf xs[k], by omega, by go_num, rfl, by rw [← HI.out, HD.out, if_neg (by omega)]; rfl⟩
      case measure => simp [intOf]; omega
  · go_wp2
    go_ret
    refine ⟨ret_bool ?_, rfl⟩
    rw [← HI.out, List.drop_eq_nil_of_le (by omega)]; rfl
end Go.Proofs.YtjecjaihficcdaaGreat
namespace Go.Proofs.YtjecjaihficcdaaGreat
open Go.RowKit
def IdxOf (p : Nat → Bool) (n : Nat) (r : Int) : Prop :=
 (∃ k, k < n ∧ p k = true ∧ (∀ j, j < k → p j = false) ∧ r = (k : Int)) ∨ ((∀ j, j < n → p j = false) ∧ r = -1)
def IdxSt (p : Nat → Bool) (n : Nat) (J : Nat → World → Prop) (r : Int) (w : World) : Prop :=
 (∃ k, k < n ∧ p k = true ∧ (∀ j, j < k → p j = false) ∧ r = (k : Int) ∧ J (k + 1) w) ∨ ((∀ j, j < n → p j = false) ∧ r = -1 ∧ J n w)
def PostIdx (p : Nat → Bool) (n : Nat) (J : Nat → World → Prop) (e : Ending) (w : World) : Prop := ∃ r : Int, e = .returned (.int .i64 r) ∧ IdxSt p n J r w
set_option maxHeartbeats 400000 in
theorem indexFuncI (f : FuncId) (cap : Array Value) (hf : Fv Tryz.prog f) (A : Option Addr) (c : Nat) (vs : List Value) (hm : vs.length ≤ 9223372036854775807) (p : Nat → Bool) (J : Nat → World → Prop) (w : World)
 (hJ : ∀ k w', J k w' → Row w' A vs)
 (hcl : ∀ k (h : k < vs.length) w', J k w' → Calls Tryz.prog f (#[vs[k]] ++ cap) w' fun e w'' => e = .returned (.bool (p k)) ∧ J (k + 1) w'')
 (h0 : J 0 w) :
 Calls Tryz.prog 87 #[.slice A vs.length c, .func (.func f) #[] cap] w (PostIdx p vs.length J) := by
 have HJ := Lib.hid hJ
 have HCL := Lib.hid hcl
 have H0 := Lib.hid h0
 clear hJ hcl h0
 go_enter Tryz.func87, Tryz.ntmps87
 go_wp2
 go_loopw [8] (fun i wr => ∃ k : Nat, k ≤ vs.length ∧ i = .int .i64 k ∧ Hid (J k wr) ∧ Hid (∀ j, j < k → p j = false)) (fun i _ => vs.length - (intOf i).toNat)
 case atStart => exact ⟨0, Nat.zero_le _, rfl, H0, fun j h => absurd h (Nat.not_lt_zero j)⟩
 case round =>
  obtain ⟨k, hk, rfl, HK, HP⟩ := hrel
  by_cases hlt : k < vs.length
  · obtain ⟨ad, rfl, hcell⟩ := HJ.out k _ HK.out k hlt
    go_wp2_with (refine wpList_callv (.tmp 11) #[.tmp 15] _ rfl rfl cap rfl hf (#[vs[k]] ++ cap) (by simp only [List.map_toArray, List.map_cons, List.map_nil]; rfl) ?_; refine (HCL.out k hlt _ HK.out).mono ?_; rintro e w' ⟨rfl, hJ'⟩; refine ⟨_, rfl, ?_⟩; have HJ' := Lib.hid hJ'; clear hJ')
    · go_ret
      exact ⟨k, rfl, .inl ⟨k, hlt, by assumption, HP.out, rfl, HJ'.out⟩⟩
    · have hpk : p k = false := by assumption
      go_round
      case rel => exact ⟨k + 1, by omega, by go_num, HJ', fun j hj => if h : j = k then h ▸ hpk else HP.out j (by omega)⟩
      case measure => simp [intOf]; omega
  · go_wp2
    go_ret
    obtain rfl : k = vs.length := by omega
    exact ⟨-1, rfl, .inr ⟨HP.out, rfl, HK.out⟩⟩
set_option maxHeartbeats 400000 in
theorem indexFuncL (f : FuncId) (cap : Array Value) (hf : Fv Tryz.prog f) (A : Option Addr) (c : Nat) (vs : List Value) (hm : vs.length ≤ 9223372036854775807) (p : Nat → Bool) (J : Nat → World → Prop) (w : World)
 (hJ : ∀ k w', J k w' → Row w' A vs)
 (hcl : ∀ k (h : k < vs.length) w', J k w' → Calls Tryz.prog f (#[vs[k]] ++ cap) w' fun e w'' => e = .returned (.bool (p k)) ∧ J (k + 1) w'')
 (h0 : J 0 w) :
 Calls Tryz.prog 129 #[.slice A vs.length c, .func (.func f) #[] cap] w (PostIdx p vs.length J) := by
 have HJ := Lib.hid hJ
 have HCL := Lib.hid hcl
 have H0 := Lib.hid h0
 clear hJ hcl h0
 go_enter Tryz.func129, Tryz.ntmps129
 go_wp2
 go_loopw [8] (fun i wr => ∃ k : Nat, k ≤ vs.length ∧ i = .int .i64 k ∧ Hid (J k wr) ∧ Hid (∀ j, j < k → p j = false)) (fun i _ => vs.length - (intOf i).toNat)
 case atStart => exact ⟨0, Nat.zero_le _, rfl, H0, fun j h => absurd h (Nat.not_lt_zero j)⟩
 case round =>
  obtain ⟨k, hk, rfl, HK, HP⟩ := hrel
  by_cases hlt : k < vs.length
  · obtain ⟨ad, rfl, hcell⟩ := HJ.out k _ HK.out k hlt
    go_wp2_with (refine wpList_callv (.tmp 11) #[.tmp 15] _ rfl rfl cap rfl hf (#[vs[k]] ++ cap) (by simp only [List.map_toArray, List.map_cons, List.map_nil]; rfl) ?_; refine (HCL.out k hlt _ HK.out).mono ?_; rintro e w' ⟨rfl, hJ'⟩; refine ⟨_, rfl, ?_⟩; have HJ' := Lib.hid hJ'; clear hJ')
    · go_ret
      exact ⟨k, rfl, .inl ⟨k, hlt, by assumption, HP.out, rfl, HJ'.out⟩⟩
    · have hpk : p k = false := by assumption
      go_round
      case rel => exact ⟨k + 1, by omega, by go_num, HJ', fun j hj => if h : j = k then h ▸ hpk else HP.out j (by omega)⟩
      case measure => simp [intOf]; omega
  · go_wp2
    go_ret
    obtain rfl : k = vs.length := by omega
    exact ⟨-1, rfl, .inr ⟨HP.out, rfl, HK.out⟩⟩
def PostCont (p : Nat → Bool) (n : Nat) (J : Nat → World → Prop) (e : Ending) (w : World) : Prop := ∃ r : Int, e = .returned (.bool (decide (0 ≤ r))) ∧ IdxSt p n J r w
set_option maxHeartbeats 400000 in
theorem containsFuncI (f : FuncId) (cap : Array Value) (hf : Fv Tryz.prog f) (A : Option Addr) (c : Nat) (vs : List Value) (hm : vs.length ≤ 9223372036854775807) (p : Nat → Bool) (J : Nat → World → Prop) (w : World)
 (hJ : ∀ k w', J k w' → Row w' A vs)
 (hcl : ∀ k (h : k < vs.length) w', J k w' → Calls Tryz.prog f (#[vs[k]] ++ cap) w' fun e w'' => e = .returned (.bool (p k)) ∧ J (k + 1) w'')
 (h0 : J 0 w) :
 Calls Tryz.prog 34 #[.slice A vs.length c, .func (.func f) #[] cap] w (PostCont p vs.length J) := by
 have H := Lib.hid (indexFuncI f cap hf A c vs hm p J w hJ hcl h0)
 clear hJ hcl h0
 go_enter Tryz.func34, Tryz.ntmps34
 go_wp2_with (go_at_call 87; refine H.out.mono ?_; rintro e w' ⟨r, rfl, hs⟩; have HS := Lib.hid hs; clear hs)
 go_ret
 exact ⟨r, rfl, HS.out⟩
set_option maxHeartbeats 400000 in
theorem containsFuncL (f : FuncId) (cap : Array Value) (hf : Fv Tryz.prog f) (A : Option Addr) (c : Nat) (vs : List Value) (hm : vs.length ≤ 9223372036854775807) (p : Nat → Bool) (J : Nat → World → Prop) (w : World)
 (hJ : ∀ k w', J k w' → Row w' A vs)
 (hcl : ∀ k (h : k < vs.length) w', J k w' → Calls Tryz.prog f (#[vs[k]] ++ cap) w' fun e w'' => e = .returned (.bool (p k)) ∧ J (k + 1) w'')
 (h0 : J 0 w) :
 Calls Tryz.prog 89 #[.slice A vs.length c, .func (.func f) #[] cap] w (PostCont p vs.length J) := by
 have H := Lib.hid (indexFuncL f cap hf A c vs hm p J w hJ hcl h0)
 clear hJ hcl h0
 go_enter Tryz.func89, Tryz.ntmps89
 go_wp2_with (go_at_call 129; refine H.out.mono ?_; rintro e w' ⟨r, rfl, hs⟩; have HS := Lib.hid hs; clear hs)
 go_ret
 exact ⟨r, rfl, HS.out⟩
end Go.Proofs.YtjecjaihficcdaaGreat
namespace Go.Proofs.YtjecjaihficcdaaGreat
open Go.RowKit
theorem quiet_same {P : Program} {f : FuncId} {args : Array Value} {w : World} {n : Nat} {v : Value}
 (h : Calls P f args (w.drewN n) fun e w' => e = .returned v ∧ w.drewN n = w') : Calls P f args (w.drewN n) fun e w'' => e = .returned v ∧ ∃ m, w'' = w.drewN m :=
 h.mono fun _ _ ⟨he, hm⟩ => ⟨he, n, hm.symm⟩
theorem All64.getD {xs : List Int} (h : All64 xs) (k : Nat) (hk : k < xs.length) : I64 (xs.getD k 0) := by rw [getD_int xs k hk]; exact h _ (List.getElem_mem hk)
theorem RI.row {w : World} {A : Option Addr} {n c : Nat} {xs : List Int} (h : RI w (.slice A n c) xs) : n = xs.length ∧ xs.length ≤ c ∧ xs.length ≤ 9223372036854775807 ∧ Row w A (xs.map (Value.int .i64)) := by
 obtain ⟨A', c', e, h1, h2, h3⟩ := h
 cases e
 exact ⟨rfl, h1, h2, h3⟩
theorem RI.mk {w : World} {A : Option Addr} {c : Nat} {xs : List Int} (h1 : xs.length ≤ c) (h2 : xs.length ≤ 9223372036854775807) (h3 : Row w A (xs.map (Value.int .i64))) : RI w (.slice A xs.length c) xs := ⟨A, c, rfl, h1, h2, h3⟩
theorem Blk.new' {w : World} {g : Nat} {e : TypeId} {cur : List Value} (h : g = w.heap.size) : Blk (w.alloc (.cells cur.toArray e)) g e cur := h ▸ Blk.new w e cur
theorem Blk.RI {w : World} {g : Nat} {xs : List Int} (h : Blk w g 3 (xs.map (Value.int .i64))) (hl : xs.length ≤ 9223372036854775807) : RI w (.slice (some ⟨g, 0, none⟩) xs.length xs.length) xs := by
 refine ⟨_, _, rfl, Nat.le_refl _, hl, fun j hj => ⟨_, rfl, ?_⟩⟩
 have hadd : (⟨g, 0, none⟩ : Addr).add j = ⟨g, j, none⟩ := by unfold Addr.add; split <;> simp_all
 rw [hadd, h.cell, List.getElem?_eq_getElem hj]
theorem RI.none (w : World) : RI w (.slice Option.none 0 0) [] := ⟨Option.none, 0, rfl, Nat.le_refl _, by simp, fun j hj => by simp at hj⟩
theorem RLL.none (w : World) : RLL w (.slice Option.none 0 0) [] := ⟨Option.none, 0, [], rfl, Nat.le_refl _, by simp, fun j hj => by simp at hj, rfl, fun j hj => by simp at hj⟩
theorem Blk.RLL {w : World} {g : Nat} {vs : List Value} {f : List (List Int)} (h : Blk w g 24 vs) (hl : vs.length ≤ 9223372036854775807) (hf : vs.length = f.length) (hr : ∀ j (h : j < vs.length) (h' : j < f.length), Go.Proofs.YtjecjaihficcdaaGreat.RI w vs[j] f[j]) :
 RLL w (.slice (some ⟨g, 0, Option.none⟩) vs.length vs.length) f := by
 refine ⟨_, _, vs, rfl, Nat.le_refl _, hl, fun j hj => ⟨_, rfl, ?_⟩, hf, hr⟩
 have hadd : (⟨g, 0, Option.none⟩ : Addr).add j = ⟨g, j, Option.none⟩ := by unfold Addr.add; split <;> simp_all
 rw [hadd, h.cell, List.getElem?_eq_getElem hj]
def HasSame (w : World) : Prop := w.cell? ⟨0, 0, Option.none⟩ = some (.func (.func 11) #[] #[])
theorem all64_of (xs : List Int) (h : (xs.all fun x => decide (-9223372036854775808 ≤ x ∧ x ≤ 9223372036854775807)) = true) : All64 xs := fun x hx =>
 show -9223372036854775808 ≤ x ∧ x ≤ 9223372036854775807 from of_decide_eq_true (List.all_eq_true.1 h x hx)
theorem all64L_of (f : List (List Int)) (h : (f.all fun xs => xs.all fun x => decide (-9223372036854775808 ≤ x ∧ x ≤ 9223372036854775807)) = true) : All64L f := fun xs hx => all64_of xs (List.all_eq_true.1 h xs hx)
abbrev rowO (xs : List Int) : Obj := .cells (xs.map (Value.int .i64)).toArray 3
abbrev slV (g n : Nat) : Value := .slice (some ⟨g, 0, Option.none⟩) n n
theorem lit0 (w : World) (xs : List Int) (h : xs.length ≤ 100) : RI (w.alloc (rowO xs)) (slV w.heap.size xs.length) xs := (Blk.new w _ _).RI (by omega)
theorem RLL.one {w : World} {g : Nat} {v0 : Value} {xs : List Int} (h : Blk w g 24 [v0]) (h0 : Go.Proofs.YtjecjaihficcdaaGreat.RI w v0 xs) : RLL w (slV g 1) [xs] :=
 h.RLL (by simp) rfl fun j hj hj' => by
  obtain rfl : j = 0 := by simp at hj'; omega
  exact h0
theorem RLL.two {w : World} {g : Nat} {v0 v1 : Value} {xs ys : List Int} (h : Blk w g 24 [v0, v1]) (h0 : Go.Proofs.YtjecjaihficcdaaGreat.RI w v0 xs) (h1 : Go.Proofs.YtjecjaihficcdaaGreat.RI w v1 ys) : RLL w (slV g 2) [xs, ys] :=
 h.RLL (by simp) rfl fun j hj hj' => by
  match j, hj, hj' with
  | 0, _, _ => exact h0
  | 1, _, _ => exact h1
  | j + 2, _, hj' => exact absurd hj' (by simp)
theorem lit1 (w : World) (xs : List Int) (h : xs.length ≤ 100) : RLL ((w.alloc (rowO xs)).alloc (.cells #[slV w.heap.size xs.length] 24)) (slV (w.heap.size + 1) 1) [xs] :=
 .one (Blk.new' (by simp)) ((lit0 w xs h).ext (Ext.alloc _ _))
theorem lit2 (w : World) (xs ys : List Int) (h : xs.length ≤ 100) (h' : ys.length ≤ 100) : RLL (((w.alloc (rowO xs)).alloc (rowO ys)).alloc (.cells #[slV w.heap.size xs.length, slV (w.heap.size + 1) ys.length] 24)) (slV (w.heap.size + 1 + 1) 2) [xs, ys] := by
 have e : (w.alloc (rowO xs)).heap.size = w.heap.size + 1 := by simp
 refine .two (Blk.new' (by simp)) (((lit0 w xs h).ext (Ext.alloc _ _)).ext (Ext.alloc _ _)) ?_
 have := (lit0 (w.alloc (rowO xs)) ys h')
 rw [e] at this
 exact this.ext (Ext.alloc _ _)
theorem HasSame.ext {w w' : World} (h : HasSame w) (k : Ext w w') : HasSame w' := k.cell h
theorem idx_cont {p : Nat → Bool} {n : Nat} {r : Int} (h : IdxOf p n r) : decide (0 ≤ r) = (List.range n).any p := by
 rcases h with ⟨k, hk, hp, hb, rfl⟩ | ⟨hno, rfl⟩
 · have : (List.range n).any p = true := List.any_eq_true.2 ⟨k, by simpa using hk, hp⟩
   rw [this]; simp
 · have : (List.range n).any p = false := List.any_eq_false.2 fun k hk => by rw [hno k (by simpa using hk)]; simp
   rw [this]; rfl
theorem range_any_get (xs : List Int) (q : Int → Bool) : (List.range xs.length).any (fun j => q (xs.getD j 0)) = xs.any q := by
 rw [Bool.eq_iff_iff, List.any_eq_true, List.any_eq_true]
 constructor
 · rintro ⟨k, hk, hq⟩
   have hk' : k < xs.length := by simpa using hk
   exact ⟨xs[k], List.getElem_mem hk', by simpa [hk'] using hq⟩
 · rintro ⟨x, hx, hq⟩
   obtain ⟨k, hk, rfl⟩ := List.mem_iff_getElem.1 hx
   exact ⟨k, by simpa using hk, by simpa [hk] using hq⟩
theorem drewN_two (w : World) (n m : Nat) : (w.drewN n).drewN m = w.drewN (n + m) := by simp [World.drewN, Nat.add_assoc]
end Go.Proofs.YtjecjaihficcdaaGreat
namespace Go.Proofs.YtjecjaihficcdaaGreat
open Go.RowKit
theorem zeroValue_bool (w : World) : (zeroValue 4).run Tryz.prog w = .ok (.bool false) w := by kernel_rfl
set_option maxHeartbeats 1000000 in
theorem has1_fn (v : Int) (g b : Nat) (m : Int → Option Value) (w : World) (hb : w.cell? ⟨b, 0, none⟩ = some (.map (some g))) (hm : MapAt w g m) :
 Calls Tryz.prog 152 #[.int .i64 v, .pointer (some ⟨b, 0, none⟩)] w fun e w' => e = .returned (.bool (m v).isSome) ∧ w' = w := by
 have hlk := hm.lookup_ok (P := Tryz.prog) Tryz.underlying78 Tryz.underlying3 (zeroValue_bool w) v
 go_enter Tryz.func152, Tryz.ntmps152
 go_wp2
 go_ret
 exact ⟨rfl, rfl⟩
theorem fv_has1 : Fv Tryz.prog 152 := ⟨_, Tryz.func152, by kernel_rfl, by kernel_rfl⟩
theorem has_any (g : Nat) (w : World) : Calls Tryz.prog 106 #[.map (some g)] w fun e w' => ∃ b, e = .returned (.func (.func 152) #[] #[.pointer (some ⟨b, 0, none⟩)]) ∧ Ext w w' ∧ w'.cell? ⟨b, 0, none⟩ = some (.map (some g)) := by
 go_enter Tryz.func106, Tryz.ntmps106
 go_wp2
 go_ret
 exact ⟨_, rfl, Ext.alloc w _, (Blk.new w _ _).cell 0⟩
theorem abs_any (x : Int) (hx : x.natAbs ≤ 65536) (w : World) : Calls Tryz.prog 151 #[.int .i64 x] w fun e w' => e = .returned (.int .i64 (x.natAbs : Int)) ∧ w' = w := by
 have h0 : (if x < -x then -x else x) = (x.natAbs : Int) := by split <;> omega
 go_enter Tryz.func151, Tryz.ntmps151
 go_wp2
 all_goals
  go_ret
  refine ⟨?_, rfl⟩
  congr 2 <;> omega
def rowP (p : Int → Bool) (last : Int) (c : List Int) : Bool := mayFrom last c && c.all fun x => p (varOf x)
def cnfR (p : Int → Bool) (f : List (List Int)) : Bool := f.all (rowP p 0) && decide (total f ≤ 200000)
theorem rowP_cons (p : Int → Bool) (last x : Int) (c : List Int) : rowP p last (x :: c) = (!decide (varOf x ≤ last) && p (varOf x) && rowP p (varOf x) c) := by
 unfold rowP
 rw [mayFrom, List.all_cons]
 by_cases h : varOf x ≤ last
 · rw [if_pos h, decide_eq_true h]; rfl
 · rw [if_neg h, decide_eq_false h]
   cases p (varOf x) <;> cases mayFrom (varOf x) c <;> simp
theorem cnfR_may (p : Int → Bool) (f : List (List Int)) : (decide (f.length ≤ 20000) && cnfR p f) = (mayCnfB f && f.all fun c => c.all fun x => p (varOf x)) := by
 rw [Bool.eq_iff_iff]
 unfold cnfR mayCnfB rowP
 simp only [Bool.and_eq_true, decide_eq_true_eq, List.all_eq_true]
 constructor
 · rintro ⟨h1, h2, h3⟩
   refine ⟨⟨h1, fun k hk => ?_⟩, fun c hc => (h2 c hc).2⟩
   have hk' : k < f.length := by simpa using hk
   have := lens_le f (k + 1)
   refine ⟨by omega, ?_⟩
   rw [getD_of f k hk']
   exact (h2 _ (List.getElem_mem hk')).1
 · rintro ⟨⟨h1, h2⟩, h3⟩
   refine ⟨h1, fun c hc => ⟨?_, h3 c hc⟩, ?_⟩
   · obtain ⟨k, hk, rfl⟩ := List.getElem_of_mem hc
     have := (h2 k (by simpa using hk)).2
     rwa [getD_of f k hk] at this
   · rcases Nat.eq_zero_or_pos f.length with h0 | h0
     · have : f = [] := List.length_eq_zero_iff.1 h0
       subst this
       simp [total, lens]
     · have := (h2 (f.length - 1) (by simp; omega)).1
       rw [show f.length - 1 + 1 = f.length by omega] at this
       exact this
set_option maxRecDepth 100000 in
set_option maxHeartbeats 4000000 in
theorem cnf_any (f : List (List Int)) (u : Value) (fn : FuncId) (cap : Array Value) (hf : Fv Tryz.prog fn) (p : Int → Bool) (w : World) (h64 : All64L f) (kr : RLL w u f) (ht : f.length ≤ 20000 → total f ≤ 9223372036854775807)
 (hin : ∀ v : Int, 1 ≤ v → v ≤ 65536 → ∀ w', Ext w w' → Calls Tryz.prog fn (#[.int .i64 v] ++ cap) w' fun e w'' => e = .returned (.bool (p v)) ∧ Ext w' w'') :
 Calls Tryz.prog 105 #[u, .func (.func fn) #[] cap] w fun e w' => e = .returned (.bool (decide (f.length ≤ 20000) && cnfR p f)) ∧ Ext w w' := by
 obtain ⟨A, c, us, rfl, k1, k2, k3, k4, k5⟩ := kr
 have K3 := Lib.hid k3
 have K4 := Lib.hid k4
 have K5 := Lib.hid k5
 have HT := Lib.hid ht
 have HIN := Lib.hid hin
 have hfl : us.length = f.length := k4
 clear k3 k4 k5 ht hin
 by_cases hbig : us.length > 20000
 · have hbi : (20000 : Int) < (us.length : Int) := by omega
   have e : (decide (f.length ≤ 20000) && cnfR p f) = false := by rw [decide_eq_false (by omega)]; rfl
   rw [e]
   clear e hfl
   go_enter Tryz.func105, Tryz.ntmps105
   go_wp2
   go_ret
   exact ⟨rfl, Ext.refl _⟩
 · have hbi : ¬ (20000 : Int) < (us.length : Int) := by omega
   have e : (decide (f.length ≤ 20000) && cnfR p f) = cnfR p f := by rw [decide_eq_true (by omega)]; rfl
   rw [e]
   have htot := HT.out (by omega)
   have HTOT := Lib.hid htot
   obtain ⟨Rz, hRz⟩ : ∃ Rz, Rz = cnfR p f := ⟨_, rfl⟩
   have HR : Hid (Rz = (f.all (rowP p 0) && decide (total f ≤ 200000))) := Lib.hid hRz
   rw [← hRz]
   clear e hfl htot hRz hbig HT
   go_enter Tryz.func105, Tryz.ntmps105
   go_wp2
   go_loopg [5, 16] us.length (fun gn n i wr => ∃ k : Nat, k ≤ us.length ∧ gn + k = us.length ∧ i = .int .i64 k ∧ n = .int .i64 (lens f k) ∧ Hid (Ext w wr) ∧ Hid (Rz = ((f.drop k).all (rowP p 0) && decide (total f ≤ 200000))))
   case atStart => exact ⟨0, Nat.zero_le _, by omega, rfl, rfl, Lib.hid (Ext.refl _), HR⟩
   case round =>
    obtain ⟨k, hk, hgk, rfl, rfl, HE, HK⟩ := hrel
    obtain ⟨w1, rfl⟩ : ∃ w1 : World, w1 = wr := ⟨_, rfl⟩
    by_cases hlt : k < us.length
    · have hkf : k < f.length := by have := K4.out; omega
      obtain ⟨ad, rfl, hck⟩ := (K3.out.ext HE.out) k hlt
      have HRI := Lib.hid ((K5.out k hlt hkf).ext HE.out)
      obtain ⟨CA, cc, hce, c1, c2, -⟩ := HRI.out
      rw [hce] at hck
      have hls := lens_succ f k hkf
      have hle := lens_le f (k + 1)
      have HC64 := Lib.hid (h64 _ (List.getElem_mem hkf))
      have hkk := HK.out
      rw [List.drop_eq_getElem_cons hkf, List.all_cons] at hkk
      have hce' := hce
      rw [hce'] at HRI
      generalize f[k] = X at *
      obtain ⟨L, hL⟩ : ∃ L, L = X.length := ⟨_, rfl⟩
      obtain ⟨T, hT⟩ : ∃ T : Bool, T = ((f.drop (k + 1)).all (rowP p 0) && decide (total f ≤ 200000)) := ⟨_, rfl⟩
      have HKK : Hid (Rz = (rowP p 0 X && T)) := Lib.hid (by rw [hkk, hT, Bool.and_assoc])
      have HTT := Lib.hid hT
      have HLL := Lib.hid hL
      have HLS := Lib.hid hls
      have hn1 : lens f k + L ≤ 9223372036854775807 := by have := HTOT.out; omega
      rw [← hL] at hck c1 c2
      clear hce hce' hls hle hkk hT hL HK
      go_wp2
      go_loopg [8, 22] L (fun gn la i wr => ∃ (m : Nat) (q : Int), m ≤ L ∧ gn + m = L ∧ i = .int .i64 m ∧ la = .int .i64 q ∧ 0 ≤ q ∧ q ≤ 65536 ∧ Hid (Ext w1 wr) ∧ Hid (Rz = (rowP p q (X.drop m) && T)))
      case atStart => exact ⟨0, 0, Nat.zero_le _, by omega, rfl, rfl, by omega, by omega, Lib.hid (Ext.refl _), HKK⟩
      case round =>
       obtain ⟨m, q, hm, hgm, rfl, rfl, hq0, hq1, HE2, HM⟩ := hrel
       obtain ⟨w2, rfl⟩ : ∃ w2 : World, w2 = wr := ⟨_, rfl⟩
       by_cases hml : m < L
       · have hmX : m < X.length := by rw [← HLL.out]; exact hml
         obtain ⟨bd, rfl, hx⟩ := (HRI.out.ext HE2.out).row.2.2.2.int m hmX
         have hx64 := HC64.out _ (List.getElem_mem hmX)
         have hmm := HM.out
         rw [List.drop_eq_getElem_cons hmX, rowP_cons] at hmm
         generalize X[m] = x at hx hx64 hmm
         by_cases hlit : varOf x = 0
         · have HF : Hid (Rz = false) := Lib.hid (by rw [hmm, decide_eq_true (show varOf x ≤ q by omega)]; rfl)
           have hx3 : x = 0 ∨ x < -65536 ∨ 65536 < x := by unfold varOf at hlit; split at hlit <;> omega
           clear hmm hlit
           rcases hx3 with rfl | hx3 | hx3
           · go_wp2
             go_ret
             exact ⟨(congrArg (fun b : Bool => Ending.returned (Value.bool b)) HF.out).symm, HE.out.trans HE2.out⟩
           · have b0 : (x == 0) = false := by simp; omega
             go_wp2
             go_ret
             exact ⟨(congrArg (fun b : Bool => Ending.returned (Value.bool b)) HF.out).symm, HE.out.trans HE2.out⟩
           · have b0 : (x == 0) = false := by simp; omega
             have b1 : ¬ x < -65536 := by omega
             go_wp2
             go_ret
             exact ⟨(congrArg (fun b : Bool => Ending.returned (Value.bool b)) HF.out).symm, HE.out.trans HE2.out⟩
         · have hv := varOf_eq hlit
           have hvr := varOf_range x
           have b0 : (x == 0) = false := by simp; intro e; subst e; exact hlit rfl
           have b1 : ¬ x < -65536 := by omega
           have b2 : ¬ 65536 < x := by omega
           obtain ⟨y, hy⟩ : ∃ y : Int, y = varOf x := ⟨_, rfl⟩
           have hyn : (x.natAbs : Int) = y := by omega
           have HAB := Lib.hid (fun w' => abs_any x (by omega) w')
           rw [hyn] at HAB
           rw [← hy] at hmm
           have hy1 : 1 ≤ y ∧ y ≤ 65536 := by omega
           clear hv hvr hyn hy hlit
           by_cases hqy : y ≤ q
           · have HF : Hid (Rz = false) := Lib.hid (by rw [hmm, decide_eq_true hqy]; rfl)
             clear hmm
             go_wp2_with (go_at_call 151; refine (HAB.out _).mono ?_; rintro e w' ⟨rfl, rfl⟩)
             go_ret
             exact ⟨(congrArg (fun b : Bool => Ending.returned (Value.bool b)) HF.out).symm, HE.out.trans HE2.out⟩
           · rw [decide_eq_false hqy] at hmm
             have hqd : decide (y ≤ q) = false := decide_eq_false hqy
             have hqd2 : q < y := by omega
             have HCL := Lib.hid (HIN.out y hy1.1 hy1.2 _ (HE.out.trans HE2.out))
             cases hp : p y
             · rw [hp] at HCL hmm
               have HF : Hid (Rz = false) := Lib.hid (by rw [hmm]; rfl)
               clear hmm hp
               go_wp2_with (first
                | (go_at_call 151; refine (HAB.out _).mono ?_; rintro e w' ⟨rfl, rfl⟩)
                | (refine wpList_callv (.tmp 43) #[.tmp 45] _ rfl (by rfl) cap rfl hf (#[.int .i64 y] ++ cap) (by simp only [List.map_toArray, List.map_cons, List.map_nil]; rfl) ?_
                   refine HCL.out.mono ?_
                   rintro e w3 ⟨rfl, hE⟩
                   refine ⟨_, rfl, ?_⟩
                   simp only [Act.put, List.setIfInBounds_toArray, List.set_cons_zero, List.set_cons_succ]
                   have HE3 := Lib.hid ((HE.out.trans HE2.out).trans hE)
                   clear hE))
               go_ret
               exact ⟨(congrArg (fun b : Bool => Ending.returned (Value.bool b)) HF.out).symm, HE3.out⟩
             · rw [hp] at HCL hmm
               have HM2 : Hid (Rz = (rowP p y (X.drop (m + 1)) && T)) := Lib.hid (by rw [hmm]; simp)
               clear hmm hp
               go_wp2_with (first
                | (go_at_call 151; refine (HAB.out _).mono ?_; rintro e w' ⟨rfl, rfl⟩)
                | (refine wpList_callv (.tmp 43) #[.tmp 45] _ rfl (by rfl) cap rfl hf (#[.int .i64 y] ++ cap) (by simp only [List.map_toArray, List.map_cons, List.map_nil]; rfl) ?_
                   refine HCL.out.mono ?_
                   rintro e w3 ⟨rfl, hE⟩
                   refine ⟨_, rfl, ?_⟩
                   simp only [Act.put, List.setIfInBounds_toArray, List.set_cons_zero, List.set_cons_succ]
                   have HE3 := Lib.hid (HE2.out.trans hE)
                   clear hE))
               go_roundg (L - (m + 1))
               case measure => omega
               case rel => exact ⟨m + 1, y, by omega, by omega, by go_num, rfl, by omega, by omega, HE3, HM2⟩
       · obtain rfl : m = L := by omega
         have HK2 : Hid (Rz = ((f.drop (k + 1)).all (rowP p 0) && decide (total f ≤ 200000))) := Lib.hid (by
          rw [HM.out, List.drop_eq_nil_of_le (by rw [HLL.out]; exact Nat.le_refl _), ← HTT.out]; rfl)
         go_wp2
         go_roundg (us.length - (k + 1))
         case measure => omega
         case rel => exact ⟨k + 1, by omega, by omega, by go_num, by rw [HLS.out, ← HLL.out]; go_num, Lib.hid (HE.out.trans HE2.out), HK2⟩
    · obtain rfl : k = us.length := by omega
      have hlt' : (lens f us.length : Nat) = total f := by unfold total; rw [K4.out]
      have HFin : Hid (Rz = decide (total f ≤ 200000)) := Lib.hid (by rw [HK.out, List.drop_eq_nil_of_le (by have := K4.out; omega)]; rfl)
      rw [hlt']
      clear hlt' hgk hk hlt
      go_wp2
      go_ret
      exact ⟨(congrArg (fun b : Bool => Ending.returned (Value.bool b)) (HFin.out.trans (by rw [decide_eq_decide]; omega))).symm, HE.out⟩
end Go.Proofs.YtjecjaihficcdaaGreat
namespace Go.Proofs.YtjecjaihficcdaaGreat
structure DqV where
 univ : List Int
 exist : List (Int × List Int)
 clauses : List (List Int)
def DqV.vars (d : DqV) : List Int := d.exist.map Prod.fst
def risesFrom : Int → List Int → Bool
 | _, [] => true
 | p, x :: l => decide (p < x) && decide (x ≤ 65536) && risesFrom x l
def risesB (l : List Int) : Bool := risesFrom 0 l
theorem risesFrom_iff : ∀ (l : List Int) (p : Int), risesFrom p l = true ↔ (∀ x ∈ l, p < x ∧ x ≤ 65536) ∧ l.Pairwise (· < ·)
 | [], p => by simp [risesFrom]
 | x :: l, p => by
   rw [risesFrom, Bool.and_eq_true, Bool.and_eq_true, decide_eq_true_eq, decide_eq_true_eq, risesFrom_iff l x, List.pairwise_cons]
   constructor
   · rintro ⟨⟨h1, h2⟩, h3, h4⟩
     refine ⟨fun y hy => ?_, fun y hy => (h3 y hy).1, h4⟩
     rcases List.mem_cons.1 hy with rfl | hy
     · exact ⟨h1, h2⟩
     · have := h3 y hy; omega
   · rintro ⟨h1, h2, h3⟩
     have := h1 x (by simp)
     exact ⟨this, fun y hy => ⟨h2 y hy, (h1 y (by simp [hy])).2⟩, h3⟩
theorem risesB_iff (l : List Int) : risesB l = true ↔ (∀ x ∈ l, 1 ≤ x ∧ x ≤ 65536) ∧ l.Pairwise (· < ·) := by
 unfold risesB
 rw [risesFrom_iff]
 constructor
 · rintro ⟨h1, h2⟩; exact ⟨fun x hx => by have := h1 x hx; omega, h2⟩
 · rintro ⟨h1, h2⟩; exact ⟨fun x hx => by have := h1 x hx; omega, h2⟩
theorem rises_nodup {l : List Int} (h : l.Pairwise (· < ·)) : l.Nodup := h.imp fun h => by omega
def singleB (l : List Int) : Bool := (List.range l.length).all fun i => decide (1 ≤ l.getD i 0) && decide (l.getD i 0 ≤ 65536) && !decide (l.getD i 0 ∈ l.take i)
theorem singleB_iff (l : List Int) : singleB l = true ↔ (∀ x ∈ l, 1 ≤ x ∧ x ≤ 65536) ∧ l.Nodup := by
 unfold singleB
 rw [List.all_eq_true]
 constructor
 · intro h
   have h' : ∀ i (hi : i < l.length), 1 ≤ l[i] ∧ l[i] ≤ 65536 ∧ l[i] ∉ l.take i := fun i hi => by
    have := h i (by simpa using hi)
    simp [hi] at this
    exact ⟨this.1.1, this.1.2, this.2⟩
   refine ⟨fun x hx => ?_, ?_⟩
   · obtain ⟨i, hi, rfl⟩ := List.getElem_of_mem hx
     exact ⟨(h' i hi).1, (h' i hi).2.1⟩
   · unfold List.Nodup
     rw [List.pairwise_iff_getElem]
     intro i j hi hj hij e
     refine (h' j hj).2.2 ?_
     rw [← e, List.mem_take_iff_getElem]
     exact ⟨i, by omega, rfl⟩
 · rintro ⟨h1, h2⟩ i hi
   have hi' : i < l.length := by simpa using hi
   have h3 := h1 _ (List.getElem_mem hi')
   have h4 : l[i] ∉ l.take i := fun hm => by
    obtain ⟨j, hj, e⟩ := List.mem_take_iff_getElem.1 hm
    unfold List.Nodup at h2
    rw [List.pairwise_iff_getElem] at h2
    exact h2 j i (by omega) hi' (by omega) e
   simp [hi', h3, h4]
def mayD (d : DqV) : Bool :=
 d.exist.all (fun x => !decide (x.1 ∈ d.univ) && risesB x.2 && x.2.all fun v => decide (v ∈ d.univ)) && risesB d.univ && risesB d.vars && decide (d.univ.length + d.exist.length ≤ 1024) &&
  mayCnfB d.clauses && d.clauses.all fun c => c.all fun x => decide (varOf x ∈ d.univ ++ d.vars)
def mayR (d : DqV) : Bool :=
 decide ((d.univ ++ d.vars).length ≤ 1024) && singleB (d.univ ++ d.vars) && risesB d.univ && risesB d.vars && mayCnfB d.clauses && (d.clauses.all fun c => c.all fun x => decide (varOf x ∈ d.univ ++ d.vars)) &&
  d.exist.all fun x => risesB x.2 && x.2.all fun v => decide (v ∈ d.univ)
theorem mayR_eq (d : DqV) : mayR d = mayD d := by
 have hl : (d.univ ++ d.vars).length = d.univ.length + d.exist.length := by unfold DqV.vars; simp
 rw [Bool.eq_iff_iff]
 unfold mayR mayD
 simp only [Bool.and_eq_true, hl, decide_eq_true_eq, singleB_iff, List.all_eq_true (l := d.exist), Bool.not_eq_true', decide_eq_false_iff_not]
 constructor
 · rintro ⟨⟨⟨⟨⟨⟨h1, h2⟩, h3⟩, h4⟩, h5⟩, h6⟩, h7⟩
   refine ⟨⟨⟨⟨⟨fun x hx => ⟨⟨fun hu => ?_, (h7 x hx).1⟩, (h7 x hx).2⟩, h3⟩, h4⟩, h1⟩, h5⟩, h6⟩
   have := (List.nodup_append.1 h2.2).2.2
   exact this x.1 hu x.1 (List.mem_map.2 ⟨x, hx, rfl⟩) rfl
 · rintro ⟨⟨⟨⟨⟨h1, h2⟩, h3⟩, h4⟩, h5⟩, h6⟩
   have hu := (risesB_iff _).1 h2
   have hv := (risesB_iff _).1 h3
   refine ⟨⟨⟨⟨⟨⟨h4, ?_, ?_⟩, h2⟩, h3⟩, h5⟩, h6⟩, fun x hx => ⟨(h1 x hx).1.2, (h1 x hx).2⟩⟩
   · intro x hx
     exact (List.mem_append.1 hx).elim (hu.1 x) (hv.1 x)
   · refine List.nodup_append.2 ⟨rises_nodup hu.2, rises_nodup hv.2, fun a ha b hb e => ?_⟩
     subst e
     obtain ⟨x, hx, rfl⟩ := List.mem_map.1 hb
     exact (h1 x hx).1.1 ha
end Go.Proofs.YtjecjaihficcdaaGreat
namespace Go.Proofs.YtjecjaihficcdaaGreat
open Go.RowKit
theorem info_int : (Tryz.prog.info? 3).map (fun i => (i.zero, i.size, i.bytes)) = some (some (.int .i64 0), 1, 8) := by kernel_rfl
theorem info_ints : (Tryz.prog.info? 24).map (fun i => (i.zero, i.size, i.bytes)) = some (some (.slice none 0 0), 1, 24) := by kernel_rfl
theorem Row.nil {w : World} {vs : List Value} (h : Row w none vs) : vs = [] := by
 cases vs with
 | nil => rfl
 | cons x xs => obtain ⟨ad, h, _⟩ := h 0 (by simp); cases h
theorem Row.cells {w : World} {ad : Addr} {vs : List Value} (h3 : Row w (some ad) vs) : ∀ j u, vs[j]? = some u → w.cell? (ad.add j) = some u := fun j u hu => by
 obtain ⟨hj, he⟩ := List.getElem?_eq_some_iff.1 hu
 obtain ⟨ad', h, hc⟩ := h3 j hj
 cases h
 rw [hc, he]
theorem own_none (w : World) (e : TypeId) (base : Nat) (hb : base ≤ w.heap.size) : (w.alloc (.cells #[] e)).ownsRow base e 1 (.slice (some ⟨w.heap.size, 0, none⟩) 0 0) 0 [] :=
 World.ownsRow_made w #[] 0 hb (by simp [maxLen]) (by simp)
set_option maxHeartbeats 400000 in
theorem cloneRowI (A : Option Addr) (c : Nat) (vs : List Value) (w : World) (h1 : ∀ u ∈ vs, u.oneCell' = true) (h2 : vs.length ≤ 9223372036854775807) (h3 : Row w A vs) (hb : vs.length * 8 ≤ 140737488355328) :
 Calls Tryz.prog 59 #[.slice A vs.length c] w fun e w' => ∃ v', e = .returned v' ∧ w'.ownsRow w.heap.size 3 1 v' vs.length vs ∧ Ext w w' := by
 obtain ⟨i0, hi, hz0, hz1, hz2⟩ := info_parts info_int
 have q : ∀ (w : World) (a : Option Addr) (n c n' c' : Nat), (binOp .eql 24 (.slice a n c) (.slice none n' c')).run Tryz.prog w = .ok (.bool a.isNone) w := fun w a n c n' c' => Lib.run_eql_slice_nil w _ 3 a n c n' c' Tryz.underlying24
 cases A with
 | none =>
   have hx := h3.nil
   subst hx
   go_enter Tryz.func59, Tryz.ntmps59
   go_wp2
   go_ret
   exact ⟨_, rfl, World.ownsRow_nil w _ _ 1, Ext.refl _⟩
 | some ad =>
   have H3 := Lib.hid (Row.ext h3 (Ext.alloc w (.cells #[] 3)))
   have H1 := Lib.hid h1
   have HB := Lib.hid hb
   clear h3 h1 hb
   have HZ := Lib.hid hz0
   have HZ1 := Lib.hid hz1
   have HZ2 := Lib.hid hz2
   have HI := Lib.hid hi
   clear hz0 hz1 hz2 hi
   have HOWN := Lib.hid (own_none w 3 w.heap.size (Nat.le_refl _))
   go_enter Tryz.func59, Tryz.ntmps59
   go_wp2_with (at_builtin; refine wpList_append_own _ rfl (.tmp 5) (.tmp 6) 24 rfl w.heap.size 3 i0 (.int .i64 0) 1 8 Tryz.underlying24 HI.out HZ.out HZ1.out HZ2.out rfl (by decide) _ 0 [] rfl HOWN.out ad vs.length c vs rfl (by simp) H3.out.cells H1.out (by unfold maxLen; omega) (by rw [Nat.zero_add]; exact HB.out) (by simp) ?_; intro v' w1 hown hg _; have HO := Lib.hid hown; have HG := Lib.hid hg; clear hown hg)
   go_ret
   refine ⟨_, rfl, ?_, ?_⟩
   · have := HO.out
     rwa [Nat.zero_add, List.nil_append] at this
   · exact (Ext.alloc w _).grown HG.out (fun k hk => by cases hk; exact Nat.le_refl _)
theorem cloneI_any (v : Value) (xs : List Int) (w : World) (hr : RI w v xs) (hb : xs.length * 8 ≤ 140737488355328) :
 Calls Tryz.prog 59 #[v] w fun e w' => ∃ v', e = .returned v' ∧ OwnI w' w.heap.size v' xs ∧ Ext w w' := by
 obtain ⟨A, c, rfl, h1, h2, h3⟩ := hr
 have := cloneRowI A c (xs.map (Value.int .i64)) w (by simp [Value.oneCell']) (by simpa using h2) h3 (by simpa using hb)
 rw [List.length_map] at this
 exact this
theorem getD_val (vs : List Value) (k : Nat) (h : k < vs.length) (d : Value) : vs.getD k d = vs[k] := by
 rw [List.getD_eq_getElem?_getD, List.getElem?_eq_getElem h]; rfl
def Moved {α : Type} (enc : α → Value) (p : α → Bool) (xs : List α) (cur : List Value) (a b : Nat) : Prop :=
 cur.take a = ((xs.take b).filter (fun u => !p u)).map enc ∧ (∀ j (h : j < xs.length), b ≤ j → cur[j]? = some (enc xs[j])) ∧ a ≤ b ∧ b ≤ xs.length ∧ xs.length ≤ cur.length
section
variable {α : Type} {enc : α → Value} {p : α → Bool} {xs : List α} {cur : List Value} {a b : Nat}
theorem Moved.keep (h : Moved enc p xs cur a b) (hb : b < xs.length) (hp : p xs[b] = false) : Moved enc p xs (cur.set a (enc xs[b])) (a + 1) (b + 1) := by
 obtain ⟨h1, h2, h3, h4, h5⟩ := h
 refine ⟨?_, fun j hj hj' => ?_, by omega, by omega, by rw [List.length_set]; exact h5⟩
 · have ha : a < (cur.set a (enc xs[b])).length := by rw [List.length_set]; omega
   rw [List.take_succ_eq_append_getElem ha, List.take_set_of_le (Nat.le_refl _), h1, List.take_succ_eq_append_getElem hb, List.filter_append]
   simp [hp]
 · rw [List.getElem?_set_ne (by omega)]
   exact h2 j hj (by omega)
theorem Moved.drop (h : Moved enc p xs cur a b) (hb : b < xs.length) (hp : p xs[b] = true) : Moved enc p xs cur a (b + 1) := by
 obtain ⟨h1, h2, h3, h4, h5⟩ := h
 refine ⟨?_, fun j hj hj' => h2 j hj (by omega), by omega, by omega, h5⟩
 rw [h1, List.take_succ_eq_append_getElem hb, List.filter_append]
 simp [hp]
theorem Moved.start {k : Nat} (hk : k < xs.length) (hp : p xs[k] = true) (hn : ∀ (j : Nat) (hj : j < k), p (xs[j]'(by omega)) = false) (hc : ∀ j (h : j < xs.length), cur[j]? = some (enc xs[j])) (hl : xs.length ≤ cur.length) :
 Moved enc p xs cur k (k + 1) := by
 refine ⟨?_, fun j h _ => hc j h, by omega, by omega, hl⟩
 have h1 : cur.take k = (xs.take k).map enc := by
  apply List.ext_getElem?
  intro j
  simp only [List.getElem?_take, List.getElem?_map]
  split
  · rw [hc j (by omega), List.getElem?_eq_getElem (by omega)]; rfl
  · rfl
 rw [h1, List.take_succ_eq_append_getElem hk, List.filter_append]
 have h2 : (xs.take k).filter (fun u => !p u) = xs.take k := by
  rw [List.filter_eq_self]
  intro u hu
  obtain ⟨j, hj, rfl⟩ := List.getElem_of_mem hu
  rw [List.length_take] at hj
  rw [List.getElem_take, hn j (by omega)]
  rfl
 rw [h2]
 simp [hp]
end
theorem filter_none {α : Type} {p : α → Bool} {xs : List α} (h : ∀ j (hj : j < xs.length), p xs[j] = false) : xs.filter (fun u => !p u) = xs := by
 rw [List.filter_eq_self]
 intro u hu
 obtain ⟨j, hj, rfl⟩ := List.getElem_of_mem hu
 rw [h j hj]; rfl
theorem zero_deleteI : ∀ w, (zeroValue 3).run Tryz.prog w = .ok (Value.int .i64 0) w := fun _ => by kernel_rfl
def PostDel (base : Nat) (e : TypeId) (v : Value) (w : World) (rs : List Value) (en : Ending) (w' : World) : Prop :=
 ∃ v', en = .returned v' ∧ w'.ownsRow base e 1 v' rs.length rs ∧ w.grownBy w' v.ownBlock
set_option maxHeartbeats 1000000 in
theorem deleteI (f : FuncId) (cap : Array Value) (hf : Fv Tryz.prog f) (base : Nat) (v : Value) (xs : List Int) (p : Int → Bool) (w : World)
 (hown : w.ownsRow base 3 1 v xs.length (xs.map (Value.int .i64)))
 (hcl : ∀ u ∈ xs, ∀ w', w.grownBy w' v.ownBlock → Calls Tryz.prog f (#[Value.int .i64 u] ++ cap) w' fun e w'' => e = .returned (.bool (p u)) ∧ Ext w' w'') :
 Calls Tryz.prog 45 #[v, .func (.func f) #[] cap] w (PostDel base 3 v w ((xs.filter fun u => !p u).map (Value.int .i64))) := by
 have HO := Lib.hid hown
 have HCL := Lib.hid hcl
 have hrow := own_row (show w.ownsRow base 3 1 v (xs.map (Value.int .i64)).length (xs.map (Value.int .i64)) by rw [List.length_map]; exact hown)
 rw [List.length_map] at hrow
 obtain ⟨A, c, rfl, hc1, hc2, hrow⟩ := hrow
 clear hown hcl
 have HI := Lib.hid (indexFuncI f cap hf A c (xs.map (Value.int .i64)) (by rw [List.length_map]; exact hc2) (fun k => p (xs.getD k 0)) (fun _ w' => Ext w w') w (fun _ w' hw => hrow.ext hw)
  (fun k hk w' hw => by
   have hk' : k < xs.length := by simpa using hk
   have hg : xs.getD k 0 = xs[k] := by simp [hk']
   rw [List.getElem_map]
   refine (HCL.out _ (List.getElem_mem hk') w' ⟨hw.os, hw.tape, hw.output, hw.size, fun i hi _ => hw.block i hi⟩).mono ?_
   rintro e w'' ⟨rfl, hE⟩
   exact ⟨by rw [hg], hw.trans hE⟩) (Ext.refl w))
 rw [List.length_map] at HI
 clear hrow
 go_enter Tryz.func45, Tryz.ntmps45
 go_wp2_with fail
 refine HI.out.mono ?_
 rintro e w1 ⟨r, rfl, hs⟩
 dsimp only
 rcases hs with ⟨k, hk, hp, hn, rfl, hE⟩ | ⟨hn, rfl, hE⟩
 · have HP := Lib.hid hp
   have HN := Lib.hid hn
   have HE := Lib.hid hE
   clear hp hn hE HI
   obtain ⟨-, h | ⟨g, cap', cur, hv, hb, hg, hn', hm, hsz, ht⟩⟩ := HO.out
   · exact absurd h.2 (by omega)
   cases hv
   have HT := Lib.hid ht
   have HG : Hid (Blk w g 3 cur.toList) := Lib.hid (by unfold Blk; simpa using hg)
   have HSZ := Lib.hid hsz
   clear ht hg hsz
   have hmc : c ≤ 9223372036854775807 := by unfold maxLen at hm; omega
   have hkb : (((k : Nat) : Int) == -1) = false := by simp
   go_wp2
   go_loopw [5, 6] (fun i j wr => ∃ (a b : Nat) (cu : List Value), i = .int .i64 a ∧ j = .int .i64 b ∧ a < b ∧ b ≤ xs.length ∧ Hid (Upd g w wr ∧ Blk wr g 3 cu ∧ cu.length = c ∧ Moved (Value.int .i64) p xs cu a b)) (fun _ j _ => xs.length - (intOf j).toNat)
   case atStart =>
    refine ⟨k, k + 1, cur.toList, rfl, rfl, by omega, by omega, HE.out.upd g, HG.out.ext HE.out, by have := HSZ.out; simpa using this, Moved.start hk ?_ (fun j hj => ?_) (fun j hj => ?_) ?_⟩
    · have := HP.out; simpa [hk] using this
    · have := HN.out j hj; simpa [show j < xs.length by omega] using this
    · have := congrArg (fun l => l[j]?) HT.out
      rw [Nat.mul_one] at this
      simp only [List.getElem?_take, if_pos hj, List.getElem?_map, List.getElem?_eq_getElem hj] at this
      exact this
    · have := HSZ.out; simp; omega
   case round =>
    obtain ⟨a, b, cu, rfl, rfl, hab, hbn, HS⟩ := hrel
    by_cases hlt : b < xs.length
    · have hcell : wr.cell? ⟨g, b, none⟩ = some (Value.int .i64 xs[b]) := by rw [HS.out.2.1.cell, HS.out.2.2.2.2.1 b hlt (Nat.le_refl _)]
      cases hpb : p xs[b]
      all_goals
       have HPB := Lib.hid hpb
       have HC := Lib.hid (HCL.out xs[b] (List.getElem_mem hlt) wr HS.out.1)
       rw [hpb] at HC
       clear hpb
       go_wp2_with (
        refine wpList_callv (.tmp 26) #[.tmp 27] _ rfl rfl cap rfl hf (#[Value.int .i64 xs[b]] ++ cap) (by simp only [List.map_toArray, List.map_cons, List.map_nil]; rfl) ?_
        refine HC.out.mono ?_
        rintro e w2 ⟨rfl, hE2⟩
        refine ⟨_, rfl, ?_⟩
        have HE2 := Lib.hid hE2
        have hB2 := HS.out.2.1.ext hE2
        have hfz := hB2.free a
        obtain ⟨u0, hu0⟩ : ∃ u0, w2.cell? ⟨g, a, none⟩ = some u0 := by
         have h1 := HS.out.2.2.1
         have h2 := HS.out.2.2.2.2.2.2.2
         rw [hB2.cell]
         exact ⟨_, List.getElem?_eq_getElem (by omega)⟩
        have HB2 := Lib.hid hB2
        clear hE2 hB2
        clear hcell)
      · go_round
        case rel => exact ⟨a + 1, b + 1, cu.set a (Value.int .i64 xs[b]), by go_num, by go_num, by omega, by omega, (HS.out.1.trans (HE2.out.upd g)).trans (Upd.set _ g a _), HB2.out.set a _, by rw [List.length_set]; exact HS.out.2.2.1, HS.out.2.2.2.keep hlt HPB.out⟩
        case measure => simp [intOf]; omega
      · go_round
        case rel => exact ⟨a, b + 1, cu, rfl, by go_num, by omega, by omega, HS.out.1.trans (HE2.out.upd g), HB2.out, HS.out.2.2.1, HS.out.2.2.2.drop hlt HPB.out⟩
        case measure => simp [intOf]; omega
    · obtain rfl : b = xs.length := by omega
      have hB := HS.out.2.1
      have hlc : cu.length = c := HS.out.2.2.1
      have hsl1 := slice_from Tryz.underlying24 info_int (some ⟨g, 0, none⟩) xs.length c a (by omega)
      rw [if_neg (by omega), Option.map_some, addr0, Nat.mul_one] at hsl1
      have hsl2 := slice_to Tryz.underlying24 info_int (some ⟨g, 0, none⟩) xs.length c a (by omega)
      have hcl : ∀ ty, (Builtin.clear_ #[24] ty #[.slice (some ⟨g, a, none⟩) (xs.length - a) (c - a)]).run Tryz.prog wr = .ok (.tuple #[]) (wr.setCells g a (List.replicate (xs.length - a) (Value.int .i64 0))) := fun ty =>
       Lib.run_clear_slice wr 24 3 ty _ Tryz.underlying24 zero_deleteI rfl rfl g a (xs.length - a) (c - a) (by omega)
        (fun j hj => by rw [hB.cell, List.getElem?_eq_getElem (by omega)]; rfl) (fun j _ => hB.free _)
      obtain ⟨hU, cu', hB', hlc', htk⟩ := setCells_keep g (List.replicate (xs.length - a) (Value.int .i64 0)) a hB
      have HU := Lib.hid hU
      have HB' := Lib.hid hB'
      have HL' := Lib.hid hlc'
      have HTK := Lib.hid htk
      have HLC := Lib.hid hlc
      have HHB := Lib.hid hB
      clear hU hB' hlc' htk hlc hB
      go_wp2
      go_ret
      have hmv := HS.out.2.2.2.1
      rw [List.take_length] at hmv
      have hlen : a = ((xs.filter fun u => !p u).map (Value.int .i64)).length := by
       rw [← hmv, List.length_take]
       have := HLC.out
       omega
      refine ⟨_, rfl, ?_, HS.out.1.trans HU.out⟩
      have h5 := HB'.out
      unfold Blk at h5
      refine ⟨by simp, .inr ⟨g, c, cu'.toArray, ?_, hb, h5, by rw [← hlen]; omega, hm, ?_, ?_⟩⟩
      · rw [← hlen]; rfl
      · have := HL'.out; have := HLC.out; simp; omega
      · rw [← hlen, Nat.mul_one, ← hmv]
        exact HTK.out
 · go_wp2
   go_ret
   have hfn : xs.filter (fun u => !p u) = xs := filter_none (fun j hj => by have := hn j hj; simpa [hj] using this)
   refine ⟨_, rfl, ?_, hE.os, hE.tape, hE.output, hE.size, fun i hi _ => hE.block i hi⟩
   rw [hfn, List.length_map]
   exact own_ext HO.out hE
end Go.Proofs.YtjecjaihficcdaaGreat
namespace Go.Proofs.YtjecjaihficcdaaGreat
open Go.RowKit
theorem run_append_none {P : Program} {w : World} {base : Nat} {t ty e : TypeId} {i : TypeInfo} {size : Nat} (ht : P.underlying t = some (.slice e)) (hi : P.info? e = some i) {v : Value} {n : Nat} {xs : List Value} (hown : w.ownsRow base e size v n xs) (c : Nat) :
 (Builtin.append_ #[t, t] ty #[v, .slice none 0 c]).run P w = .ok v w := by
 rcases hown.2 with ⟨rfl, rfl⟩ | ⟨g, cap, cur, rfl, _, _, hnc, _⟩
 · simp [Builtin.append_, run_underlying ht, sizeOf, typeInfo, hi, Builtin.lenOf, Builtin.firstCells]
 · simp [Builtin.append_, run_underlying ht, sizeOf, typeInfo, hi, Builtin.lenOf, Builtin.firstCells, hnc, storeCells]
theorem app_I {ops : Array Oper} {rest : List Oper} {o : Oper} {a : Act} {Q : Exit → Act → World → Prop} {w : World} (hgd : o.guard = none) (s x : Operand)
 (ho : o.op = .call { callee := .builtin .append, args := #[s, x], argTypes := #[24, 24] })
 {base : Nat} {v u : Value} {xs ys : List Int} (hs : a.eval s = v) (hx : a.eval x = u) (hown : OwnI w base v xs) (hsrc : RI w u ys) (hl : xs.length + ys.length ≤ 10000000) (hbase : base ≤ w.heap.size)
 (h : ∀ v' w', OwnI w' base v' (xs ++ ys) → w.grownBy w' v.ownBlock → wpList Tryz.prog ops Q rest (a.put o.dst v') w') : wpList Tryz.prog ops Q (o :: rest) a w := by
 obtain ⟨i0, hi, hz0, hz1, hz2⟩ := info_parts info_int
 obtain ⟨A, c, rfl, h1, h2, h3⟩ := hsrc
 cases A with
 | none =>
   have h4 := h3.nil
   have h5 : ys = [] := by simpa using h4
   subst h5
   refine wpList_plain hgd fun K hK => ?_
   have hrun := run_append_none (ty := o.type) Tryz.underlying24 hi hown c
   unfold Oper.wp
   simp [execOp, ho, resolve, invoke, builtin, hs, hx, hrun, Result.andThen]
   exact hK _ _ (h v w (by rw [List.append_nil]; exact hown) ⟨rfl, rfl, rfl, Nat.le_refl _, fun _ _ _ => rfl⟩)
 | some ad =>
   refine wpList_append_own w hgd s x 24 ho base 3 i0 (.int .i64 0) 1 8 Tryz.underlying24 hi hz0 hz1 hz2 rfl (by decide) v xs.length (xs.map (Value.int .i64)) hs hown ad ys.length c (ys.map (Value.int .i64)) hx (by simp) h3.cells (by simp [Value.oneCell']) (by unfold maxLen; omega) (by omega) hbase ?_
   intro v' w' ho' hg _
   exact h v' w' (by unfold OwnI; rw [List.length_append, List.map_append]; exact ho') hg
theorem app_1w {o : Oper} {a : Act} {K : Act → World → Prop} {Q : Exit → Act → World → Prop} {w : World} (s x : Operand)
 (ho : o.op = .call { callee := .builtin .append, args := #[s, x], argTypes := #[24, 24] })
 {base g : Nat} {v : Value} {xs : List Int} {y : Int} (hs : a.eval s = v) (hx : a.eval x = .slice (some ⟨g, 0, none⟩) 1 1) (hc : w.cell? ⟨g, 0, none⟩ = some (.int .i64 y)) (hown : OwnI w base v xs) (hl : xs.length ≤ 10000000) (hbase : base ≤ w.heap.size)
 (h : ∀ v' w', OwnI w' base v' (xs ++ [y]) → w.grownBy w' v.ownBlock → K (a.put o.dst v') w') : o.wp Tryz.prog a w K Q := by
 obtain ⟨i0, hi, hz0, hz1, hz2⟩ := info_parts info_int
 refine wp_append_own w s x 24 ho base 3 i0 (.int .i64 0) 1 8 Tryz.underlying24 hi hz0 hz1 hz2 rfl (by decide) v xs.length (xs.map (Value.int .i64)) hs hown ⟨g, 0, none⟩ 1 1 [.int .i64 y] hx rfl (fun j u hj => ?_) (by simp [Value.oneCell']) (by unfold maxLen; omega) (by omega) hbase ?_
 · obtain ⟨hj, he⟩ := List.getElem?_eq_some_iff.1 hj
   obtain rfl : j = 0 := by simpa using hj
   rw [addr0, hc]; simpa using he
 · intro v' w' ho' hg _
   exact h v' w' (by unfold OwnI; rw [List.length_append, List.map_append]; exact ho') hg
theorem app_1 {ops : Array Oper} {rest : List Oper} {o : Oper} {a : Act} {Q : Exit → Act → World → Prop} {w : World} (hgd : o.guard = none) (s x : Operand)
 (ho : o.op = .call { callee := .builtin .append, args := #[s, x], argTypes := #[24, 24] })
 {base : Nat} {v : Value} {xs : List Int} {y : Int} (hs : a.eval s = v) (hx : a.eval x = .slice (some ⟨w.heap.size, 0, none⟩) 1 1) (hown : OwnI w base v xs) (hl : xs.length ≤ 10000000) (hbase : base ≤ w.heap.size)
 (h : ∀ v' w', OwnI w' base v' (xs ++ [y]) → Chg (fun i => some i = v.ownBlock) w w' → wpList Tryz.prog ops Q rest (a.put o.dst v') w') : wpList Tryz.prog ops Q (o :: rest) a (w.alloc (.cells #[.int .i64 y] 3)) :=
 wpList_plain hgd fun _ hK => app_1w s x ho hs hx (Var1.new w 3 (.int .i64 y)).cell (own_ext hown (Ext.alloc w _)) hl (by simp; omega) fun v' w' h1 h2 => hK _ _ (h v' w' h1 (((Ext.alloc w _).chg _).trans (grown_chg h2)))
theorem RI.tail {w : World} {A : Option Addr} {c : Nat} {x : Int} {xs : List Int} (h : RI w (.slice A (xs.length + 1) c) (x :: xs)) : RI w (.slice (if c = 1 then A else A.map (·.add 1)) xs.length (c - 1)) xs := by
 obtain ⟨-, h1, h2, h3⟩ := h.row
 simp only [List.length_cons] at h1 h2
 refine ⟨_, _, rfl, by omega, by omega, fun j hj => ?_⟩
 rw [List.length_map] at hj
 rw [if_neg (by omega)]
 obtain ⟨ad, rfl, hc⟩ := h3 (j + 1) (by simpa using hj)
 refine ⟨ad.add 1, rfl, ?_⟩
 rw [show (ad.add 1).add j = ad.add (j + 1) by unfold Addr.add; split <;> simp_all <;> omega, hc]
 simp
theorem RI.head {w : World} {A : Option Addr} {n c : Nat} {x : Int} {xs : List Int} (h : RI w (.slice A n c) (x :: xs)) : n = xs.length + 1 ∧ xs.length + 1 ≤ c ∧ xs.length + 1 ≤ 9223372036854775807 ∧ ∃ ad, A = some ad ∧ w.cell? ad = some (.int .i64 x) ∧ w.cell? (ad.add 0) = some (.int .i64 x) := by
 obtain ⟨h0, h1, h2, h3⟩ := h.row
 obtain ⟨ad, rfl, hc⟩ := h3.int 0 (by simp)
 simp only [List.length_cons] at h0 h1 h2
 refine ⟨h0, h1, h2, ad, rfl, ?_, by simpa using hc⟩
 rw [show ad.add 0 = ad by unfold Addr.add; split <;> simp_all] at hc
 simpa using hc
theorem grow_ext {w0 w1 w' : World} {v : Value} {xs : List Int} (h : Ext w0 w1) (ho : OwnI w1 w0.heap.size v xs) (g : w1.grownBy w' v.ownBlock) : Ext w0 w' := h.grown g (fun _ hk => (own_typed ho hk).1)
end Go.Proofs.YtjecjaihficcdaaGreat
