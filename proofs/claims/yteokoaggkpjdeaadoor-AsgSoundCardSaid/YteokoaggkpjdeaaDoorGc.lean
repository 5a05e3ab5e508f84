/- Walks of container/heap over asg.numbers. Walks of heap.Push and heap.Pop over asg.numbers. Maps whose keys are integers of 64 bits: what a lookup, an update, a delete do. The state of asg.unit, and the walk of (*unit).set. -/
import Derived.Test.YteokoaggkpjdeaaDoorGb
import Derived.Test.YteokoaggkpjdeaaDoorGa
import Derived.MapKept
import Derived.StillTailTactics
namespace Go.Proofs.YteokoaggkpjdeaaDoor
open Go.RowKit

/-- A call through an interface value whose make is known. -/
theorem wpList_invoke {P : Program} {ops : Array Oper} {Q : Exit → Act → World → Prop} {a : Act} {w : World} {rest : List Oper} {o : Oper}
    (x : Operand) (name : String) (ys : Array Operand) (ts : Array TypeId) (ho : o.op = .call { callee := .invoke x name, args := ys, argTypes := ts }) (hw : Region.wanted o (yielded ops a.tmps) = true)
    {t : TypeId} {v : Value} (hv : a.eval x = .iface t v) {f : FuncId} {recv : Value} (hm : ∀ n, (method (n + 1) t v name).run P w = .ok (f, recv) w) (hf : Fv P f) (args : Array Value) (ha : #[recv] ++ ys.map a.eval = args)
    (h : Calls P f args w fun e w' => ∃ v, e = .returned v ∧ wpList P ops Q rest (a.put o.dst v) w') : wpList P ops Q (o :: rest) a w := by
  refine BigFrame.wpList_want hw fun K hK => ?_
  have hrun : (execOp a.eval o).run P w = .ok (.enter f args) w := by
    unfold execOp
    have hm' := hm (P.types.size + Made.depth - 1)
    have hd : P.types.size + Made.depth - 1 + 1 = P.types.size + Made.depth := by unfold Made.depth; omega
    rw [hd] at hm'
    have h1 : (#[Value.iface t v] ++ ys.map a.eval)[0]? = some (Value.iface t v) := by simp [Array.getElem?_append]
    have h2 : (#[Value.iface t v] ++ ys.map a.eval).extract 1 (#[Value.iface t v] ++ ys.map a.eval).size = ys.map a.eval := by
      apply Array.ext'
      simp
      exact List.take_of_length_le (by simp)
    have hp : (program : Sem Program).run P w = .ok P w := rfl
    simp only [ho, resolve, hv, Sem.run_bind, Sem.run_pure, Result.andThen_ok, invoke, h1, h2, callMethod, hp, hm', run_enter hf, ha]
  unfold Oper.wp
  rw [hrun, Oper.upon_enter]
  refine h.mono fun e w'' hh => ?_
  obtain ⟨v, rfl, hk⟩ := hh
  exact hK _ _ hk

theorem m_push (a : Addr) (w : World) : ∀ n, (method (n + 1) 83 (.pointer (some a)) "Push").run Tryd.prog w = .ok (153, .pointer (some a)) w := fun n => by kernel_rfl
theorem m_pop (a : Addr) (w : World) : ∀ n, (method (n + 1) 83 (.pointer (some a)) "Pop").run Tryd.prog w = .ok (152, .pointer (some a)) w := fun n => by kernel_rfl
theorem m_Len' (a : Addr) (w : World) : ∀ n, (method (n + 1) 83 (.pointer (some a)) "Len").run Tryd.prog w = (do pure (149, ← loadVar 79 a)).run Tryd.prog w := fun n => by kernel_rfl
theorem fv_Len : Fv Tryd.prog 149 := ⟨_, Tryd.func149, by kernel_rfl, by kernel_rfl⟩
theorem m_Len (a : Addr) (w : World) {A : Option Addr} {n c : Nat} (h : w.cell? a = some (.slice A n c)) : ∀ k, (method (k + 1) 83 (.pointer (some a)) "Len").run Tryd.prog w = .ok (149, .slice A n c) w := fun k => by
  rw [m_Len']
  simp [go_sem, h]
theorem m_Less' (a : Addr) (w : World) : ∀ n, (method (n + 1) 83 (.pointer (some a)) "Less").run Tryd.prog w = (do pure (150, ← loadVar 79 a)).run Tryd.prog w := fun n => by kernel_rfl
theorem fv_Less : Fv Tryd.prog 150 := ⟨_, Tryd.func150, by kernel_rfl, by kernel_rfl⟩
theorem m_Less (a : Addr) (w : World) {A : Option Addr} {n c : Nat} (h : w.cell? a = some (.slice A n c)) : ∀ k, (method (k + 1) 83 (.pointer (some a)) "Less").run Tryd.prog w = .ok (150, .slice A n c) w := fun k => by
  rw [m_Less']
  simp [go_sem, h]
theorem m_Swap' (a : Addr) (w : World) : ∀ n, (method (n + 1) 83 (.pointer (some a)) "Swap").run Tryd.prog w = (do pure (151, ← loadVar 79 a)).run Tryd.prog w := fun n => by kernel_rfl
theorem fv_Swap : Fv Tryd.prog 151 := ⟨_, Tryd.func151, by kernel_rfl, by kernel_rfl⟩
theorem m_Swap (a : Addr) (w : World) {A : Option Addr} {n c : Nat} (h : w.cell? a = some (.slice A n c)) : ∀ k, (method (k + 1) 83 (.pointer (some a)) "Swap").run Tryd.prog w = .ok (151, .slice A n c) w := fun k => by
  rw [m_Swap']
  simp [go_sem, h]
theorem fv_NPush : Fv Tryd.prog 153 := ⟨_, Tryd.func153, by kernel_rfl, by kernel_rfl⟩
theorem fv_NPop : Fv Tryd.prog 152 := ⟨_, Tryd.func152, by kernel_rfl, by kernel_rfl⟩

theorem numLen_any (A : Option Addr) (n c : Nat) (w : World) :
    Calls Tryd.prog 149 #[.slice A n c] w fun e w' => e = .returned (.int .i64 n) ∧ w = w' := by
  go_enter Tryd.func149, Tryd.ntmps149
  go_wp2
  go_ret
  exact ⟨rfl, rfl⟩

/-- The row of a slice of the call's own: its block's cells. -/
theorem own_blk {w : World} {base : Nat} {e : TypeId} {v : Value} {vs : List Value} (h : w.ownsRow base e 1 v vs.length vs) (h0 : 0 < vs.length) :
    ∃ g c cur, v = .slice (some ⟨g, 0, none⟩) vs.length c ∧ base ≤ g ∧ Blk w g e cur ∧ vs.length ≤ c ∧ c ≤ maxLen ∧ cur.length = c ∧ cur.take vs.length = vs := by
  obtain ⟨-, ⟨-, h⟩ | ⟨g, c, cur, h1, h2, h3, h4, h5, h6, h7⟩⟩ := h
  · omega
  · exact ⟨g, c, cur.toList, h1, h2, by unfold Blk; simpa using h3, h4, h5, by simpa using h6, by simpa using h7⟩

theorem blk_own {w : World} {base : Nat} {e : TypeId} {g c : Nat} {vs cur : List Value} (h2 : base ≤ g) (h3 : Blk w g e cur) (h4 : vs.length ≤ c) (h5 : c ≤ maxLen) (h6 : cur.length = c) (h7 : cur.take vs.length = vs) :
    w.ownsRow base e 1 (.slice (some ⟨g, 0, none⟩) vs.length c) vs.length vs :=
  ⟨by simp, .inr ⟨g, c, cur.toArray, rfl, h2, h3, h4, h5, by simpa using h6, by simpa using h7⟩⟩

/-- A row of 64-bit integers of the call's own, by its block. -/
def RowAt (w : World) (g c : Nat) (xs : List Int) : Prop :=
  ∃ cur, Blk w g 3 cur ∧ xs.length ≤ c ∧ c ≤ 9223372036854775807 ∧ cur.length = c ∧ cur.take xs.length = xs.map (Value.int .i64)

theorem RowAt.cell {w : World} {g c : Nat} {xs : List Int} (h : RowAt w g c xs) (i : Nat) (hi : i < xs.length) : w.cell? ⟨g, i, none⟩ = some (.int .i64 (xs.getD i 0)) := by
  obtain ⟨cur, hb, h1, h2, h3, h4⟩ := h
  rw [hb.cell]
  have := congrArg (fun l => l[i]?) h4
  simp only [List.getElem?_take, if_pos hi, List.getElem?_map, List.getElem?_eq_getElem hi] at this
  rw [this]; simp [hi]
theorem RowAt.free {w : World} {g c : Nat} {xs : List Int} (h : RowAt w g c xs) (i : Nat) : w.frozen? ⟨g, i, none⟩ = false := by
  obtain ⟨cur, hb, -⟩ := h
  exact hb.free i
theorem RowAt.set {w : World} {g c : Nat} {xs : List Int} (h : RowAt w g c xs) (i : Nat) (x : Int) : RowAt (w.setCell ⟨g, i, none⟩ (.int .i64 x)) g c (xs.set i x) := by
  obtain ⟨cur, hb, h1, h2, h3, h4⟩ := h
  refine ⟨_, hb.set i _, by simpa using h1, h2, by simpa using h3, ?_⟩
  rw [List.length_set, List.take_set, h4, List.map_set]
theorem RowAt.ext {w w' : World} {g c : Nat} {xs : List Int} (h : RowAt w g c xs) (k : Ext w w') : RowAt w' g c xs := by
  obtain ⟨cur, hb, h1⟩ := h
  exact ⟨cur, hb.ext k, h1⟩

set_option maxHeartbeats 400000 in
theorem numLess_any (g c : Nat) (xs : List Int) (i j : Nat) (hi : i < xs.length) (hj : j < xs.length) (w : World) (hr : RowAt w g c xs) :
    Calls Tryd.prog 150 #[.slice (some ⟨g, 0, none⟩) xs.length c, .int .i64 i, .int .i64 j] w fun e w' => e = .returned (.bool (decide (xs.getD i 0 < xs.getD j 0))) ∧ ∃ n, w' = w.drewN n := by
  have c1 := hr.cell i hi
  have c2 := hr.cell j hj
  have i0 : (0 : Int) ≤ i := by omega
  have i1 : (i : Int) < xs.length := by omega
  have j0 : (0 : Int) ≤ j := by omega
  have j1 : (j : Int) < xs.length := by omega
  clear hr
  go_enter Tryd.func150, Tryd.ntmps150
  go_wp2
  go_quiet (fail)
  go_wp2
  go_ret
  exact ⟨ret_bool (by simp [hi, hj]), _, rfl⟩

set_option maxHeartbeats 1000000 in
theorem numSwap_any (g c : Nat) (xs : List Int) (i j : Nat) (hi : i < xs.length) (hj : j < xs.length) (w : World) (hr : RowAt w g c xs) :
    Calls Tryd.prog 151 #[.slice (some ⟨g, 0, none⟩) xs.length c, .int .i64 i, .int .i64 j] w fun e w' => e = .returned (.tuple #[]) ∧ RowAt w' g c (swp xs i j) ∧ Upd g w w' := by
  have c1 := hr.cell i hi
  have c2 := hr.cell j hj
  have f1 := hr.free i
  have f2 := hr.free j
  have i0 : (0 : Int) ≤ i := by omega
  have i1 : (i : Int) < xs.length := by omega
  have j0 : (0 : Int) ≤ j := by omega
  have j1 : (j : Int) < xs.length := by omega
  have HR := Lib.hid hr
  obtain ⟨u, hu⟩ : ∃ u, (w.setCell ⟨g, i, none⟩ (.int .i64 xs[j])).cell? ⟨g, j, none⟩ = some u := ⟨_, (hr.set i xs[j]).cell j (by simpa using hj)⟩
  clear hr
  go_enter Tryd.func151, Tryd.ntmps151
  go_wp2
  go_region
  go_end0
  refine ⟨rfl, ?_, ?_⟩
  · have := (((HR.out.set i (xs.getD j 0)).set j (xs.getD i 0)).ext (Ext.drew _))
    simpa [swp, hi, hj] using this
  · exact ((Upd.set w g i _).trans (Upd.set _ g j _)).trans ((Ext.drew _).upd g)

theorem own_blk_ne {w : World} {U : Nat} {eU e : TypeId} {cells : List Value} {B size n : Nat} {v : Value} {vs : List Value} (hU : Blk w U eU cells) (h : w.ownsRow B e size v n vs) (hne : eU ≠ e) : ¬ some U = v.ownBlock := fun he => by
  obtain ⟨-, -, cur, h2⟩ := own_typed h he.symm
  unfold Blk at hU
  rw [hU] at h2
  injection h2 with h2
  injection h2 with _ h2
  exact hne h2

/-- What Push of one number does to the slice behind a pointer into block U. -/
def PostNPush (w : World) (U off : Nat) (eU : TypeId) (cells : List Value) (B : Nat) (v : Value) (xs : List Int) (n : Int) (e : Ending) (w' : World) : Prop :=
  ∃ g c, e = .returned (.tuple #[]) ∧ Blk w' U eU (cells.set off (.slice (some ⟨g, 0, none⟩) (xs.length + 1) c)) ∧ B ≤ g ∧ (v.ownBlock = some g ∨ w.heap.size ≤ g) ∧ RowAt w' g c (xs ++ [n]) ∧
    Chg (fun k => k = U ∨ some k = v.ownBlock) w w'

theorem own_rowAt {w : World} {base g c n : Nat} {xs : List Int} {vs : List Value} (hv : vs = xs.map (Value.int .i64)) (hn : n = xs.length) (h : w.ownsRow base 3 1 (.slice (some ⟨g, 0, none⟩) n c) n vs) : RowAt w g c xs ∧ base ≤ g := by
  subst hv hn
  obtain ⟨-, ⟨h, -⟩ | ⟨g', c', cur, h1, h2, h3, h4, h5, h6, h7⟩⟩ := h
  · cases h
  · cases h1
    exact ⟨⟨cur.toList, by unfold Blk; simpa using h3, h4, by unfold maxLen at h5; omega, by simpa using h6, by simpa using h7⟩, h2⟩

theorem ta_int (n : Int) : ∀ w, (Instr.typeAssert (.iface 3 (.int .i64 n)) 20 3 false).run Tryd.prog w = .ok (.int .i64 n) w := fun _ => by kernel_rfl

set_option maxHeartbeats 1000000 in
theorem numPush_any (U off : Nat) (eU : TypeId) (cells : List Value) (B : Nat) (v : Value) (xs : List Int) (n : Int) (w : World) (hU : Blk w U eU cells) (hne : eU ≠ 3) (hv : cells[off]? = some v)
    (hown : w.ownsRow B 3 1 v xs.length (xs.map (Value.int .i64))) (hB : B ≤ w.heap.size) (hl : xs.length ≤ 1000000000) :
    Calls Tryd.prog 153 #[.pointer (some ⟨U, off, none⟩), .iface 3 (.int .i64 n)] w (PostNPush w U off eU cells B v xs n) := by
  have c1 : w.cell? ⟨U, off, none⟩ = some v := by rw [hU.cell]; exact hv
  have c2 : (w.alloc (.cells #[.int .i64 n] 3)).cell? ⟨U, off, none⟩ = some v := by rw [(hU.ext (Ext.alloc w _)).cell]; exact hv
  have HV := Lib.hid hv
  have HU := Lib.hid hU
  have HO := Lib.hid hown
  obtain ⟨A, c, rfl, -⟩ := own_row (show w.ownsRow B 3 1 v (xs.map (Value.int .i64)).length (xs.map (Value.int .i64)) by rw [List.length_map]; exact hown)
  rw [List.length_map] at *
  obtain ⟨i0, hi, hz0, hz1, hz2⟩ := info_parts info_int
  have HI := Lib.hid hi
  have HZ := Lib.hid hz0
  have HZ1 := Lib.hid hz1
  have HZ2 := Lib.hid hz2
  have HNE := Lib.hid hne
  clear hi hz0 hz1 hz2 hU hown hv hne
  have hta := ta_int n
  go_enter Tryd.func153, Tryd.ntmps153
  go_wp2
  go_region_law ((
    refine step_append_lies _ rfl (.tmp 7) (.tmp 10) 79 rfl B 3 i0 (.int .i64 0) 1 8 Tryd.underlying79 HI.out HZ.out HZ1.out HZ2.out rfl (by decide) (.slice A xs.length c) xs.length (xs.map (Value.int .i64)) rfl ?c1 ⟨w.heap.size, 0, none⟩ 1 1 [.int .i64 n] rfl rfl ?c2 (by simp [Value.oneCell']) (by omega) (by unfold maxLen; omega) (by omega) (by simp; omega) (w.heap.size + 1) (by simp) ?_
    case c1 => exact own_ext HO.out ((Ext.alloc w _).trans (Ext.drew _))
    case c2 => exact one_cell w _ _
    intro g cap w1 hown hgrow hat hlt
    have HOWN := Lib.hid hown
    have HGR := Lib.hid ((((Ext.alloc w _).trans (Ext.drew _)).chg _).trans (grown_chg hgrow))
    have HAT := Lib.hid hat
    have HUB := Lib.hid (HGR.out.blk HU.out (own_blk_ne HU.out HO.out HNE.out))
    have c3 : w1.cell? ⟨U, off, none⟩ = some (.slice A xs.length c) := by rw [HUB.out.cell]; exact HV.out
    have f3 := HUB.out.free off
    clear hown hgrow hat hlt))
  all_goals
    go_wp2
    go_end0
    obtain ⟨hr, hb⟩ := own_rowAt (xs := xs ++ [n]) (by simp) (by simp) HOWN.out
    refine ⟨g, cap, rfl, HUB.out.set off _, hb, ?_, ?_, ?_⟩
    · exact HAT.out.imp id (fun h => by omega)
    · obtain ⟨cur, h1, h2⟩ := hr
      have hgU : g ≠ U := fun e => by
        subst e
        have := HUB.out
        unfold Blk at this h1
        rw [this] at h1
        injection h1 with h1
        injection h1 with _ h1
        exact HNE.out h1
      exact ⟨cur, (Chg.set w1 U off _).blk h1 hgU, h2⟩
    · exact (HGR.out.mono fun i h => .inr h).trans ((Chg.set w1 U off _).mono fun i h => .inl h)

/-- A heap of numbers behind a pointer into block U: the block, the slice in it, its row. -/
structure HpS (w : World) (U off : Nat) (eU : TypeId) (cells : List Value) (g c : Nat) (xs : List Int) : Prop where
  blk : Blk w U eU cells
  val : cells[off]? = some (.slice (some ⟨g, 0, none⟩) xs.length c)
  row : RowAt w g c xs
  ne : eU ≠ 3

theorem HpS.neq {w : World} {U off : Nat} {eU : TypeId} {cells : List Value} {g c : Nat} {xs : List Int} (h : HpS w U off eU cells g c xs) : U ≠ g := fun e => by
  obtain ⟨cur, h1, -⟩ := h.row
  have h2 := h.blk
  subst e
  unfold Blk at h1 h2
  rw [h1] at h2
  injection h2 with h2
  injection h2 with _ h2
  exact h.ne h2.symm
theorem HpS.cell {w : World} {U off : Nat} {eU : TypeId} {cells : List Value} {g c : Nat} {xs : List Int} (h : HpS w U off eU cells g c xs) : w.cell? ⟨U, off, none⟩ = some (.slice (some ⟨g, 0, none⟩) xs.length c) := by
  rw [h.blk.cell]; exact h.val
theorem HpS.upd {w w' : World} {U off : Nat} {eU : TypeId} {cells : List Value} {g c : Nat} {xs ys : List Int} (h : HpS w U off eU cells g c xs) (k : Upd g w w') (hr : RowAt w' g c ys) (hl : ys.length = xs.length) : HpS w' U off eU cells g c ys :=
  ⟨k.chg.blk h.blk h.neq, by rw [hl]; exact h.val, hr, h.ne⟩
theorem HpS.ext {w w' : World} {U off : Nat} {eU : TypeId} {cells : List Value} {g c : Nat} {xs : List Int} (h : HpS w U off eU cells g c xs) (k : Ext w w') : HpS w' U off eU cells g c xs :=
  ⟨h.blk.ext k, h.val, h.row.ext k, h.ne⟩

def PostNPop (w : World) (U off : Nat) (eU : TypeId) (cells : List Value) (g c : Nat) (xs : List Int) (x : Int) (e : Ending) (w' : World) : Prop :=
  e = .returned (.iface 3 (.int .i64 x)) ∧ HpS w' U off eU (cells.set off (.slice (some ⟨g, 0, none⟩) xs.length c)) g c xs ∧ Chg (fun k => k = U) w w'

set_option maxHeartbeats 1000000 in
theorem numPop_any (U off : Nat) (eU : TypeId) (cells : List Value) (g c : Nat) (xs : List Int) (x : Int) (w : World) (h : HpS w U off eU cells g c (xs ++ [x])) (hl : xs.length ≤ 1000000000) :
    Calls Tryd.prog 152 #[.pointer (some ⟨U, off, none⟩)] w (PostNPop w U off eU cells g c xs x) := by
  have H := Lib.hid h
  have c1 := h.cell
  have c2 := h.row.cell xs.length (by simp)
  rw [List.getD_eq_getElem?_getD, List.getElem?_append_right (Nat.le_refl _)] at c2
  simp only [Nat.sub_self, List.getElem?_cons_zero, Option.getD_some] at c2
  rw [List.length_append, List.length_cons, List.length_nil] at c1
  have f1 := h.blk.free off
  obtain ⟨cur, -, hcl, hcm, -⟩ := h.row
  rw [List.length_append, List.length_cons, List.length_nil] at hcl
  have hsl := slice_to Tryd.underlying79 info_int (some ⟨g, 0, none⟩) (xs.length + (0 + 1)) c xs.length (by omega)
  clear h
  go_enter Tryd.func152, Tryd.ntmps152
  go_wp2
  go_ret
  have hb := H.out
  refine ⟨rfl, ⟨hb.blk.set off _, ?_, ?_, hb.ne⟩, Chg.set w U off _⟩
  · have : off < cells.length := (List.getElem?_eq_some_iff.1 hb.val).1
    simp [this]
  · obtain ⟨cur, h1, h2, h3, h4, h5⟩ := hb.row
    refine ⟨cur, (Chg.set w U off _).blk h1 (fun e => hb.neq e.symm), by simp at h2; omega, h3, h4, ?_⟩
    have := congrArg (List.take xs.length) h5
    rw [List.take_take, List.map_append, List.take_append_of_le_length (by simp), List.take_of_length_le (l := xs.map (Value.int .i64)) (by simp)] at this
    simpa using this

def PostUp (w : World) (g c : Nat) (xs : List Int) (e : Ending) (w' : World) : Prop :=
  ∃ ys : List Int, e = .returned (.tuple #[]) ∧ ys.Perm xs ∧ HeapOn ys xs.length ∧ RowAt w' g c ys ∧ Upd g w w'

set_option maxHeartbeats 1000000 in
theorem up_any (U off : Nat) (eU : TypeId) (cells : List Value) (g c : Nat) (xs : List Int) (j : Nat) (w : World) (h : HpS w U off eU cells g c xs) (hj : j < xs.length) (hu : HeapUp xs xs.length j) (hl : xs.length ≤ 1000000000) :
    Calls Tryd.prog 90 #[.iface 83 (.pointer (some ⟨U, off, none⟩)), .int .i64 j] w (PostUp w g c xs) := by
  have H := Lib.hid h
  have HU := Lib.hid hu
  clear h hu
  go_enter Tryd.func90, Tryd.ntmps90
  go_wp2
  go_loopw [1] (fun i wr => ∃ (k : Nat) (ys : List Int), k < xs.length ∧ i = .int .i64 k ∧ Hid (ys.Perm xs ∧ HeapUp ys xs.length k ∧ RowAt wr g c ys ∧ Upd g w wr)) (fun i _ => (intOf i).toNat)
  case atStart => exact ⟨j, xs, hj, rfl, List.Perm.refl _, HU.out, H.out.row, Upd.refl _ _⟩
  case round =>
    obtain ⟨k, ys, hk, rfl, HS⟩ := hrel
    by_cases hk0 : k = 0
    · subst hk0
      go_wp2
      go_end0
      exact ⟨ys, rfl, HS.out.1, HS.out.2.1.done (fun h => absurd h (Nat.lt_irrefl 0)), HS.out.2.2.1, HS.out.2.2.2⟩
    · obtain ⟨p, hp⟩ : ∃ p, p = par k := ⟨_, rfl⟩
      have hp1 : p < k := by rw [hp]; exact par_lt (by omega)
      have hp2 : (p : Int) = ((k : Int) - 1) / 2 := by rw [hp]; unfold par; omega
      have hpk : ((((k : Nat) : Int) - 1) / 2 == ((k : Nat) : Int)) = false := by simp; omega
      have hst := HS.out.1.length_eq
      have hss : HpS wr U off eU cells g c ys := H.out.upd HS.out.2.2.2 HS.out.2.2.1 hst
      have hc := hss.cell
      have HLE := Lib.hid (numLess_any g c ys k p (by omega) (by omega) wr hss.row)
      have HSW := Lib.hid (fun n => numSwap_any g c ys p k (by omega) (by omega) (wr.drewN n) (hss.ext (Ext.drewN wr n)).row)
      rw [hp2] at HLE HSW
      have HSS := Lib.hid hss
      have HST := Lib.hid hst
      have HPP := Lib.hid hp
      have HP2 := Lib.hid hp2
      clear hss hst hp2 hp
      by_cases hlt : ys.getD k 0 < ys.getD p 0
      · have hlb : decide (ys.getD k 0 < ys.getD p 0) = true := by simpa using hlt
        have HLT := Lib.hid hlt
        rw [hlb] at HLE
        clear hlt hlb
        go_wp2_with (first
          | ((with_reducible refine at_dst 15 rfl ?_); refine wpList_invoke (.tmp 12) "Less" #[.tmp 13, .tmp 14] _ rfl (by rfl) rfl (m_Less ⟨U, off, none⟩ wr hc) fv_Less #[.slice (some ⟨g, 0, none⟩) ys.length c, .int .i64 k, .int .i64 (((k : Int) - 1) / 2)] (by simp only [List.map_toArray, List.map_cons, List.map_nil, List.append_toArray, List.cons_append, List.nil_append]; rfl) ?_; refine HLE.out.mono ?_; rintro e w2 ⟨rfl, n, rfl⟩; refine ⟨_, rfl, ?_⟩; simp only [Act.put, List.setIfInBounds_toArray, List.set_cons_zero, List.set_cons_succ])
          | ((with_reducible refine at_dst 21 rfl ?_); refine wpList_invoke (.tmp 18) "Swap" #[.tmp 19, .tmp 20] _ rfl (by rfl) rfl (m_Swap ⟨U, off, none⟩ _ (HSS.out.ext (Ext.drewN wr n)).cell) fv_Swap #[.slice (some ⟨g, 0, none⟩) ys.length c, .int .i64 (((k : Int) - 1) / 2), .int .i64 k] (by simp only [List.map_toArray, List.map_cons, List.map_nil, List.append_toArray, List.cons_append, List.nil_append]; rfl) ?_; refine (HSW.out n).mono ?_; rintro e w3 ⟨rfl, hr3, hu3⟩; have HR3 := Lib.hid hr3; have HU3 := Lib.hid hu3; clear hr3 hu3; refine ⟨_, rfl, ?_⟩; simp only [Act.put, List.setIfInBounds_toArray, List.set_cons_zero, List.set_cons_succ]))
        go_round
        case rel =>
          refine ⟨p, swp ys p k, by omega, by rw [HP2.out], ?_, ?_, HR3.out, (HS.out.2.2.2.trans ((Ext.drewN _ _).upd g)).trans HU3.out⟩
          · exact (swp_perm ys (by have := HST.out; omega) (by have := HST.out; omega)).trans HS.out.1
          · have := HS.out.2.1.step (by have := HST.out; omega) hk (by omega) (by rw [← HPP.out]; exact HLT.out)
            rwa [← HPP.out] at this
        case measure => simp [intOf]; omega
      · have hlb : decide (ys.getD k 0 < ys.getD p 0) = false := by simpa using hlt
        have HLT := Lib.hid hlt
        rw [hlb] at HLE
        clear hlt hlb
        go_wp2_with ((with_reducible refine at_dst 15 rfl ?_); refine wpList_invoke (.tmp 12) "Less" #[.tmp 13, .tmp 14] _ rfl (by rfl) rfl (m_Less ⟨U, off, none⟩ wr hc) fv_Less #[.slice (some ⟨g, 0, none⟩) ys.length c, .int .i64 k, .int .i64 (((k : Int) - 1) / 2)] (by simp only [List.map_toArray, List.map_cons, List.map_nil, List.append_toArray, List.cons_append, List.nil_append]; rfl) ?_; refine HLE.out.mono ?_; rintro e w2 ⟨rfl, n, rfl⟩; refine ⟨_, rfl, ?_⟩; simp only [Act.put, List.setIfInBounds_toArray, List.set_cons_zero, List.set_cons_succ])
        go_end0
        refine ⟨ys, rfl, HS.out.1, HS.out.2.1.done (fun _ => ?_), HS.out.2.2.1.ext (Ext.drewN _ _), HS.out.2.2.2.trans ((Ext.drewN _ _).upd g)⟩
        rw [← HPP.out]
        have := HLT.out
        omega

theorem numLess_ext (g c : Nat) (xs : List Int) (i j : Nat) (hi : i < xs.length) (hj : j < xs.length) (w : World) (hr : RowAt w g c xs) :
    Calls Tryd.prog 150 #[.slice (some ⟨g, 0, none⟩) xs.length c, .int .i64 i, .int .i64 j] w fun e w' => e = .returned (.bool (decide (xs.getD i 0 < xs.getD j 0))) ∧ Ext w w' :=
  (numLess_any g c xs i j hi hj w hr).mono fun _ _ ⟨h1, n, h2⟩ => ⟨h1, h2 ▸ Ext.drewN w n⟩

/-- The place of the lesser child. -/
theorem child_cases {k q : Nat} (h0 : 0 < q) (hp : par q = k) : q = 2 * k + 1 ∨ q = 2 * k + 2 := by unfold par at hp; omega

def PostDown (w : World) (g c : Nat) (xs : List Int) (n : Nat) (e : Ending) (w' : World) : Prop :=
  ∃ (ys : List Int) (b : Bool), e = .returned (.bool b) ∧ ys.Perm xs ∧ HeapOn ys n ∧ (∀ q, n ≤ q → ys.getD q 0 = xs.getD q 0) ∧ RowAt w' g c ys ∧ Upd g w w'

set_option maxHeartbeats 4000000 in
theorem down_any (U off : Nat) (eU : TypeId) (cells : List Value) (g c : Nat) (xs : List Int) (n : Nat) (w : World) (h : HpS w U off eU cells g c xs) (hn : n ≤ xs.length) (hu : HeapDn xs n 0) (hl : xs.length ≤ 1000000000) :
    Calls Tryd.prog 91 #[.iface 83 (.pointer (some ⟨U, off, none⟩)), .int .i64 0, .int .i64 n] w (PostDown w g c xs n) := by
  have H := Lib.hid h
  have HU := Lib.hid hu
  clear h hu
  go_enter Tryd.func91, Tryd.ntmps91
  go_wp2
  go_loopw [7] (fun i wr => ∃ (k : Nat) (ys : List Int), k ≤ n ∧ i = .int .i64 k ∧ Hid (ys.Perm xs ∧ HeapDn ys n k ∧ (∀ q, n ≤ q → ys.getD q 0 = xs.getD q 0) ∧ RowAt wr g c ys ∧ Upd g w wr)) (fun i _ => n - (intOf i).toNat)
  case atStart => exact ⟨0, xs, Nat.zero_le _, rfl, List.Perm.refl _, HU.out, fun _ _ => rfl, H.out.row, Upd.refl _ _⟩
  case round =>
    obtain ⟨k, ys, hk, rfl, HS⟩ := hrel
    by_cases h1 : 2 * k + 1 < n
    · have hst := HS.out.1.length_eq
      have hss : HpS wr U off eU cells g c ys := H.out.upd HS.out.2.2.2.2 HS.out.2.2.2.1 hst
      have HSS := Lib.hid hss
      have HST := Lib.hid hst
      have HL1 := Lib.hid (fun (w' : World) (hw : Ext wr w') => numLess_ext g c ys (2 * k + 1) k (by omega) (by omega) w' (hss.ext hw).row)
      have hge : decide (((n : Nat) : Int) ≤ 2 * (k : Int) + 1) = false := by simp; omega
      have hlz : decide (2 * (k : Int) + 1 < 0) = false := by simp; omega
      by_cases h2 : 2 * k + 2 < n
      · have h2b : decide (2 * (k : Int) + 1 + 1 < ((n : Nat) : Int)) = true := by simp; omega
        have HL21 := Lib.hid (numLess_ext g c ys (2 * k + 2) (2 * k + 1) (by omega) (by omega) wr hss.row)
        have HL2 := Lib.hid (fun (w' : World) (hw : Ext wr w') => numLess_ext g c ys (2 * k + 2) k (by omega) (by omega) w' (hss.ext hw).row)
        clear hss hst
        by_cases h3 : ys.getD (2 * k + 2) 0 < ys.getD (2 * k + 1) 0
        · have h3b : decide (ys.getD (2 * k + 2) 0 < ys.getD (2 * k + 1) 0) = true := by simpa using h3
          rw [h3b] at HL21
          have H3 := Lib.hid h3
          clear h3 h3b
          by_cases h4 : ys.getD (2 * k + 2) 0 < ys.getD k 0
          · have h4b : decide (ys.getD (2 * k + 2) 0 < ys.getD k 0) = true := by simpa using h4
            have HSW := Lib.hid (fun (w' : World) (hw : Ext wr w') => numSwap_any g c ys k (2 * k + 2) (by have := HST.out; omega) (by have := HST.out; omega) w' (HSS.out.ext hw).row)
            have HC := HL2.out
            rw [h4b] at HC
            have HCC := Lib.hid HC
            have H4 := Lib.hid h4
            have hje : ((2 * k + 2 : Nat) : Int) = 2 * (k : Int) + 1 + 1 := by omega
            rw [hje] at HCC HSW
            have hje1 : ((2 * k + 1 : Nat) : Int) = 2 * (k : Int) + 1 := by omega
            have hje2 : ((2 * k + 2 : Nat) : Int) = 2 * (k : Int) + 1 + 1 := by omega
            have HL21' := HL21.out
            rw [hje1, hje2] at HL21'
            have HL21 := Lib.hid HL21'
            clear HL21' hje1 hje2
            have HJE := Lib.hid hje
            clear h4 h4b HC hje
            go_wp2_with (first
              | ((with_reducible refine at_dst 32 rfl ?_); refine wpList_invoke (.tmp 29) "Less" #[.tmp 30, .tmp 31] _ rfl (by rfl) rfl (m_Less ⟨U, off, none⟩ _ HSS.out.cell) fv_Less #[.slice (some ⟨g, 0, none⟩) ys.length c, .int .i64 (2 * (k : Int) + 1 + 1), .int .i64 (2 * (k : Int) + 1)] (by simp only [List.map_toArray, List.map_cons, List.map_nil, List.append_toArray, List.cons_append, List.nil_append]; rfl) ?_; refine HL21.out.mono ?_; rintro e w2 ⟨rfl, hE⟩; have HE_w2 := Lib.hid (hE); clear hE; refine ⟨_, rfl, ?_⟩; simp only [Act.put, List.setIfInBounds_toArray, List.set_cons_zero, List.set_cons_succ])
              | ((with_reducible refine at_dst 38 rfl ?_); refine wpList_invoke (.tmp 35) "Less" #[.tmp 36, .tmp 37] _ rfl (by rfl) rfl (m_Less ⟨U, off, none⟩ _ (HSS.out.ext HE_w2.out).cell) fv_Less #[.slice (some ⟨g, 0, none⟩) ys.length c, .int .i64 (2 * (k : Int) + 1 + 1), .int .i64 ((k : Int))] (by simp only [List.map_toArray, List.map_cons, List.map_nil, List.append_toArray, List.cons_append, List.nil_append]; rfl) ?_; refine (HCC.out _ HE_w2.out).mono ?_; rintro e w3 ⟨rfl, hE⟩; have HE_w3 := Lib.hid (HE_w2.out.trans hE); clear hE; refine ⟨_, rfl, ?_⟩; simp only [Act.put, List.setIfInBounds_toArray, List.set_cons_zero, List.set_cons_succ])
              | ((with_reducible refine at_dst 43 rfl ?_); refine wpList_invoke (.tmp 40) "Swap" #[.tmp 41, .tmp 42] _ rfl (by rfl) rfl (m_Swap ⟨U, off, none⟩ _ (HSS.out.ext HE_w3.out).cell) fv_Swap #[.slice (some ⟨g, 0, none⟩) ys.length c, .int .i64 ((k : Int)), .int .i64 (2 * (k : Int) + 1 + 1)] (by simp only [List.map_toArray, List.map_cons, List.map_nil, List.append_toArray, List.cons_append, List.nil_append]; rfl) ?_; refine (HSW.out _ HE_w3.out).mono ?_; rintro e w4 ⟨rfl, hr, hu⟩; have HR := Lib.hid hr; have HU := Lib.hid hu; clear hr hu; refine ⟨_, rfl, ?_⟩; simp only [Act.put, List.setIfInBounds_toArray, List.set_cons_zero, List.set_cons_succ]))
            go_round
            case rel =>
              refine ⟨2 * k + 2, swp ys k (2 * k + 2), by omega, by rw [HJE.out], (swp_perm ys (by have := HST.out; omega) (by have := HST.out; omega)).trans HS.out.1, ?_, ?_, HR.out, (HS.out.2.2.2.2.trans (HE_w3.out.upd g)).trans HU.out⟩
              · exact HS.out.2.1.step (by have := HST.out; omega) (by omega) (by omega) (by unfold par; omega) H4.out (fun q q0 qn qp => by rcases child_cases q0 qp with rfl | rfl <;> (have := H3.out; omega))
              · intro q hq
                rw [swp_get ys (by have := HST.out; omega) (by have := HST.out; omega), if_neg (by omega), if_neg (by omega)]
                exact HS.out.2.2.1 q hq
            case measure => simp [intOf]; omega
          · have h4b : decide (ys.getD (2 * k + 2) 0 < ys.getD k 0) = false := by simpa using h4
            have HC := HL2.out
            rw [h4b] at HC
            have HCC := Lib.hid HC
            have H4 := Lib.hid h4
            have hje : ((2 * k + 2 : Nat) : Int) = 2 * (k : Int) + 1 + 1 := by omega
            rw [hje] at HCC
            have hje1 : ((2 * k + 1 : Nat) : Int) = 2 * (k : Int) + 1 := by omega
            have hje2 : ((2 * k + 2 : Nat) : Int) = 2 * (k : Int) + 1 + 1 := by omega
            have HL21' := HL21.out
            rw [hje1, hje2] at HL21'
            have HL21 := Lib.hid HL21'
            clear HL21' hje1 hje2
            have HJE := Lib.hid hje
            clear h4 h4b HC hje
            go_wp2_with (first
              | ((with_reducible refine at_dst 32 rfl ?_); refine wpList_invoke (.tmp 29) "Less" #[.tmp 30, .tmp 31] _ rfl (by rfl) rfl (m_Less ⟨U, off, none⟩ _ HSS.out.cell) fv_Less #[.slice (some ⟨g, 0, none⟩) ys.length c, .int .i64 (2 * (k : Int) + 1 + 1), .int .i64 (2 * (k : Int) + 1)] (by simp only [List.map_toArray, List.map_cons, List.map_nil, List.append_toArray, List.cons_append, List.nil_append]; rfl) ?_; refine HL21.out.mono ?_; rintro e w2 ⟨rfl, hE⟩; have HE_w2 := Lib.hid (hE); clear hE; refine ⟨_, rfl, ?_⟩; simp only [Act.put, List.setIfInBounds_toArray, List.set_cons_zero, List.set_cons_succ])
              | ((with_reducible refine at_dst 38 rfl ?_); refine wpList_invoke (.tmp 35) "Less" #[.tmp 36, .tmp 37] _ rfl (by rfl) rfl (m_Less ⟨U, off, none⟩ _ (HSS.out.ext HE_w2.out).cell) fv_Less #[.slice (some ⟨g, 0, none⟩) ys.length c, .int .i64 (2 * (k : Int) + 1 + 1), .int .i64 ((k : Int))] (by simp only [List.map_toArray, List.map_cons, List.map_nil, List.append_toArray, List.cons_append, List.nil_append]; rfl) ?_; refine (HCC.out _ HE_w2.out).mono ?_; rintro e w3 ⟨rfl, hE⟩; have HE_w3 := Lib.hid (HE_w2.out.trans hE); clear hE; refine ⟨_, rfl, ?_⟩; simp only [Act.put, List.setIfInBounds_toArray, List.set_cons_zero, List.set_cons_succ]))
            go_ret
            refine ⟨ys, _, rfl, HS.out.1, HS.out.2.1.done (fun q q0 qn qp => ?_), HS.out.2.2.1, HS.out.2.2.2.1.ext HE_w3.out, HS.out.2.2.2.2.trans (HE_w3.out.upd g)⟩
            have hm : ys.getD (2 * k + 2) 0 ≤ ys.getD q 0 := by rcases child_cases q0 qp with rfl | rfl <;> (have := H3.out; omega)
            have := H4.out
            omega
        · have h3b : decide (ys.getD (2 * k + 2) 0 < ys.getD (2 * k + 1) 0) = false := by simpa using h3
          rw [h3b] at HL21
          have H3 := Lib.hid h3
          clear h3 h3b
          by_cases h4 : ys.getD (2 * k + 1) 0 < ys.getD k 0
          · have h4b : decide (ys.getD (2 * k + 1) 0 < ys.getD k 0) = true := by simpa using h4
            have HSW := Lib.hid (fun (w' : World) (hw : Ext wr w') => numSwap_any g c ys k (2 * k + 1) (by have := HST.out; omega) (by have := HST.out; omega) w' (HSS.out.ext hw).row)
            have HC := HL1.out
            rw [h4b] at HC
            have HCC := Lib.hid HC
            have H4 := Lib.hid h4
            have hje : ((2 * k + 1 : Nat) : Int) = 2 * (k : Int) + 1 := by omega
            rw [hje] at HCC HSW
            have hje1 : ((2 * k + 1 : Nat) : Int) = 2 * (k : Int) + 1 := by omega
            have hje2 : ((2 * k + 2 : Nat) : Int) = 2 * (k : Int) + 1 + 1 := by omega
            have HL21' := HL21.out
            rw [hje1, hje2] at HL21'
            have HL21 := Lib.hid HL21'
            clear HL21' hje1 hje2
            have HJE := Lib.hid hje
            clear h4 h4b HC hje
            go_wp2_with (first
              | ((with_reducible refine at_dst 32 rfl ?_); refine wpList_invoke (.tmp 29) "Less" #[.tmp 30, .tmp 31] _ rfl (by rfl) rfl (m_Less ⟨U, off, none⟩ _ HSS.out.cell) fv_Less #[.slice (some ⟨g, 0, none⟩) ys.length c, .int .i64 (2 * (k : Int) + 1 + 1), .int .i64 (2 * (k : Int) + 1)] (by simp only [List.map_toArray, List.map_cons, List.map_nil, List.append_toArray, List.cons_append, List.nil_append]; rfl) ?_; refine HL21.out.mono ?_; rintro e w2 ⟨rfl, hE⟩; have HE_w2 := Lib.hid (hE); clear hE; refine ⟨_, rfl, ?_⟩; simp only [Act.put, List.setIfInBounds_toArray, List.set_cons_zero, List.set_cons_succ])
              | ((with_reducible refine at_dst 38 rfl ?_); refine wpList_invoke (.tmp 35) "Less" #[.tmp 36, .tmp 37] _ rfl (by rfl) rfl (m_Less ⟨U, off, none⟩ _ (HSS.out.ext HE_w2.out).cell) fv_Less #[.slice (some ⟨g, 0, none⟩) ys.length c, .int .i64 (2 * (k : Int) + 1), .int .i64 ((k : Int))] (by simp only [List.map_toArray, List.map_cons, List.map_nil, List.append_toArray, List.cons_append, List.nil_append]; rfl) ?_; refine (HCC.out _ HE_w2.out).mono ?_; rintro e w3 ⟨rfl, hE⟩; have HE_w3 := Lib.hid (HE_w2.out.trans hE); clear hE; refine ⟨_, rfl, ?_⟩; simp only [Act.put, List.setIfInBounds_toArray, List.set_cons_zero, List.set_cons_succ])
              | ((with_reducible refine at_dst 43 rfl ?_); refine wpList_invoke (.tmp 40) "Swap" #[.tmp 41, .tmp 42] _ rfl (by rfl) rfl (m_Swap ⟨U, off, none⟩ _ (HSS.out.ext HE_w3.out).cell) fv_Swap #[.slice (some ⟨g, 0, none⟩) ys.length c, .int .i64 ((k : Int)), .int .i64 (2 * (k : Int) + 1)] (by simp only [List.map_toArray, List.map_cons, List.map_nil, List.append_toArray, List.cons_append, List.nil_append]; rfl) ?_; refine (HSW.out _ HE_w3.out).mono ?_; rintro e w4 ⟨rfl, hr, hu⟩; have HR := Lib.hid hr; have HU := Lib.hid hu; clear hr hu; refine ⟨_, rfl, ?_⟩; simp only [Act.put, List.setIfInBounds_toArray, List.set_cons_zero, List.set_cons_succ]))
            go_round
            case rel =>
              refine ⟨2 * k + 1, swp ys k (2 * k + 1), by omega, by rw [HJE.out], (swp_perm ys (by have := HST.out; omega) (by have := HST.out; omega)).trans HS.out.1, ?_, ?_, HR.out, (HS.out.2.2.2.2.trans (HE_w3.out.upd g)).trans HU.out⟩
              · exact HS.out.2.1.step (by have := HST.out; omega) (by omega) (by omega) (by unfold par; omega) H4.out (fun q q0 qn qp => by rcases child_cases q0 qp with rfl | rfl <;> (have := H3.out; omega))
              · intro q hq
                rw [swp_get ys (by have := HST.out; omega) (by have := HST.out; omega), if_neg (by omega), if_neg (by omega)]
                exact HS.out.2.2.1 q hq
            case measure => simp [intOf]; omega
          · have h4b : decide (ys.getD (2 * k + 1) 0 < ys.getD k 0) = false := by simpa using h4
            have HC := HL1.out
            rw [h4b] at HC
            have HCC := Lib.hid HC
            have H4 := Lib.hid h4
            have hje : ((2 * k + 1 : Nat) : Int) = 2 * (k : Int) + 1 := by omega
            rw [hje] at HCC
            have hje1 : ((2 * k + 1 : Nat) : Int) = 2 * (k : Int) + 1 := by omega
            have hje2 : ((2 * k + 2 : Nat) : Int) = 2 * (k : Int) + 1 + 1 := by omega
            have HL21' := HL21.out
            rw [hje1, hje2] at HL21'
            have HL21 := Lib.hid HL21'
            clear HL21' hje1 hje2
            have HJE := Lib.hid hje
            clear h4 h4b HC hje
            go_wp2_with (first
              | ((with_reducible refine at_dst 32 rfl ?_); refine wpList_invoke (.tmp 29) "Less" #[.tmp 30, .tmp 31] _ rfl (by rfl) rfl (m_Less ⟨U, off, none⟩ _ HSS.out.cell) fv_Less #[.slice (some ⟨g, 0, none⟩) ys.length c, .int .i64 (2 * (k : Int) + 1 + 1), .int .i64 (2 * (k : Int) + 1)] (by simp only [List.map_toArray, List.map_cons, List.map_nil, List.append_toArray, List.cons_append, List.nil_append]; rfl) ?_; refine HL21.out.mono ?_; rintro e w2 ⟨rfl, hE⟩; have HE_w2 := Lib.hid (hE); clear hE; refine ⟨_, rfl, ?_⟩; simp only [Act.put, List.setIfInBounds_toArray, List.set_cons_zero, List.set_cons_succ])
              | ((with_reducible refine at_dst 38 rfl ?_); refine wpList_invoke (.tmp 35) "Less" #[.tmp 36, .tmp 37] _ rfl (by rfl) rfl (m_Less ⟨U, off, none⟩ _ (HSS.out.ext HE_w2.out).cell) fv_Less #[.slice (some ⟨g, 0, none⟩) ys.length c, .int .i64 (2 * (k : Int) + 1), .int .i64 ((k : Int))] (by simp only [List.map_toArray, List.map_cons, List.map_nil, List.append_toArray, List.cons_append, List.nil_append]; rfl) ?_; refine (HCC.out _ HE_w2.out).mono ?_; rintro e w3 ⟨rfl, hE⟩; have HE_w3 := Lib.hid (HE_w2.out.trans hE); clear hE; refine ⟨_, rfl, ?_⟩; simp only [Act.put, List.setIfInBounds_toArray, List.set_cons_zero, List.set_cons_succ]))
            go_ret
            refine ⟨ys, _, rfl, HS.out.1, HS.out.2.1.done (fun q q0 qn qp => ?_), HS.out.2.2.1, HS.out.2.2.2.1.ext HE_w3.out, HS.out.2.2.2.2.trans (HE_w3.out.upd g)⟩
            have hm : ys.getD (2 * k + 1) 0 ≤ ys.getD q 0 := by rcases child_cases q0 qp with rfl | rfl <;> (have := H3.out; omega)
            have := H4.out
            omega
      · have h2b : decide (2 * (k : Int) + 1 + 1 < ((n : Nat) : Int)) = false := by simp; omega
        clear hss hst
        by_cases h4 : ys.getD (2 * k + 1) 0 < ys.getD k 0
        · have h4b : decide (ys.getD (2 * k + 1) 0 < ys.getD k 0) = true := by simpa using h4
          have HSW := Lib.hid (fun (w' : World) (hw : Ext wr w') => numSwap_any g c ys k (2 * k + 1) (by have := HST.out; omega) (by have := HST.out; omega) w' (HSS.out.ext hw).row)
          have HC := HL1.out
          rw [h4b] at HC
          have HCC := Lib.hid HC
          have H4 := Lib.hid h4
          have hje : ((2 * k + 1 : Nat) : Int) = 2 * (k : Int) + 1 := by omega
          rw [hje] at HCC HSW
          have HJE := Lib.hid hje
          clear h4 h4b HC hje
          go_wp2_with (first
            | ((with_reducible refine at_dst 38 rfl ?_); refine wpList_invoke (.tmp 35) "Less" #[.tmp 36, .tmp 37] _ rfl (by rfl) rfl (m_Less ⟨U, off, none⟩ _ (HSS.out.ext (Ext.refl wr)).cell) fv_Less #[.slice (some ⟨g, 0, none⟩) ys.length c, .int .i64 (2 * (k : Int) + 1), .int .i64 ((k : Int))] (by simp only [List.map_toArray, List.map_cons, List.map_nil, List.append_toArray, List.cons_append, List.nil_append]; rfl) ?_; refine (HCC.out _ (Ext.refl wr)).mono ?_; rintro e w3 ⟨rfl, hE⟩; have HE_w3 := Lib.hid ((Ext.refl wr).trans hE); clear hE; refine ⟨_, rfl, ?_⟩; simp only [Act.put, List.setIfInBounds_toArray, List.set_cons_zero, List.set_cons_succ])
            | ((with_reducible refine at_dst 43 rfl ?_); refine wpList_invoke (.tmp 40) "Swap" #[.tmp 41, .tmp 42] _ rfl (by rfl) rfl (m_Swap ⟨U, off, none⟩ _ (HSS.out.ext HE_w3.out).cell) fv_Swap #[.slice (some ⟨g, 0, none⟩) ys.length c, .int .i64 ((k : Int)), .int .i64 (2 * (k : Int) + 1)] (by simp only [List.map_toArray, List.map_cons, List.map_nil, List.append_toArray, List.cons_append, List.nil_append]; rfl) ?_; refine (HSW.out _ HE_w3.out).mono ?_; rintro e w4 ⟨rfl, hr, hu⟩; have HR := Lib.hid hr; have HU := Lib.hid hu; clear hr hu; refine ⟨_, rfl, ?_⟩; simp only [Act.put, List.setIfInBounds_toArray, List.set_cons_zero, List.set_cons_succ]))
          go_round
          case rel =>
            refine ⟨2 * k + 1, swp ys k (2 * k + 1), by omega, by rw [HJE.out], (swp_perm ys (by have := HST.out; omega) (by have := HST.out; omega)).trans HS.out.1, ?_, ?_, HR.out, (HS.out.2.2.2.2.trans (HE_w3.out.upd g)).trans HU.out⟩
            · exact HS.out.2.1.step (by have := HST.out; omega) (by omega) (by omega) (by unfold par; omega) H4.out (fun q q0 qn qp => by rcases child_cases q0 qp with rfl | rfl <;> omega)
            · intro q hq
              rw [swp_get ys (by have := HST.out; omega) (by have := HST.out; omega), if_neg (by omega), if_neg (by omega)]
              exact HS.out.2.2.1 q hq
          case measure => simp [intOf]; omega
        · have h4b : decide (ys.getD (2 * k + 1) 0 < ys.getD k 0) = false := by simpa using h4
          have HC := HL1.out
          rw [h4b] at HC
          have HCC := Lib.hid HC
          have H4 := Lib.hid h4
          have hje : ((2 * k + 1 : Nat) : Int) = 2 * (k : Int) + 1 := by omega
          rw [hje] at HCC
          have HJE := Lib.hid hje
          clear h4 h4b HC hje
          go_wp2_with (first
            | ((with_reducible refine at_dst 38 rfl ?_); refine wpList_invoke (.tmp 35) "Less" #[.tmp 36, .tmp 37] _ rfl (by rfl) rfl (m_Less ⟨U, off, none⟩ _ (HSS.out.ext (Ext.refl wr)).cell) fv_Less #[.slice (some ⟨g, 0, none⟩) ys.length c, .int .i64 (2 * (k : Int) + 1), .int .i64 ((k : Int))] (by simp only [List.map_toArray, List.map_cons, List.map_nil, List.append_toArray, List.cons_append, List.nil_append]; rfl) ?_; refine (HCC.out _ (Ext.refl wr)).mono ?_; rintro e w3 ⟨rfl, hE⟩; have HE_w3 := Lib.hid ((Ext.refl wr).trans hE); clear hE; refine ⟨_, rfl, ?_⟩; simp only [Act.put, List.setIfInBounds_toArray, List.set_cons_zero, List.set_cons_succ]))
          go_ret
          refine ⟨ys, _, rfl, HS.out.1, HS.out.2.1.done (fun q q0 qn qp => ?_), HS.out.2.2.1, HS.out.2.2.2.1.ext HE_w3.out, HS.out.2.2.2.2.trans (HE_w3.out.upd g)⟩
          have hm : ys.getD (2 * k + 1) 0 ≤ ys.getD q 0 := by rcases child_cases q0 qp with rfl | rfl <;> omega
          have := H4.out
          omega
    · have hge : decide (((n : Nat) : Int) ≤ 2 * (k : Int) + 1) = true := by simp; omega
      go_wp2
      go_ret
      exact ⟨ys, _, rfl, HS.out.1, HS.out.2.1.done (fun q q0 qn qp => by have := child_cases q0 qp; omega), HS.out.2.2.1, HS.out.2.2.2.1, HS.out.2.2.2.2⟩

end Go.Proofs.YteokoaggkpjdeaaDoor
namespace Go.Proofs.YteokoaggkpjdeaaDoor
open Go.RowKit

theorem m_LenH (U off : Nat) (w : World) {eU : TypeId} {cells : List Value} {g c : Nat} {xs : List Int} (h : HpS w U off eU cells g c xs) : ∀ k, (method (k + 1) 83 (.pointer (some ⟨U, off, none⟩)) "Len").run Tryd.prog w = .ok (149, .slice (some ⟨g, 0, none⟩) xs.length c) w := m_Len _ w h.cell

def PostPush (w : World) (U off : Nat) (eU : TypeId) (cells : List Value) (B : Nat) (v : Value) (xs : List Int) (n : Int) (e : Ending) (w' : World) : Prop :=
  ∃ (g c : Nat) (ys : List Int), e = .returned (.tuple #[]) ∧ HpS w' U off eU (cells.set off (.slice (some ⟨g, 0, none⟩) ys.length c)) g c ys ∧ ys.Perm (xs ++ [n]) ∧ HeapOn ys ys.length ∧
    B ≤ g ∧ (v.ownBlock = some g ∨ w.heap.size ≤ g) ∧ Chg (fun k => k = U ∨ some k = v.ownBlock) w w'

set_option maxHeartbeats 1000000 in
theorem heapPush_any (U off : Nat) (eU : TypeId) (cells : List Value) (B : Nat) (v : Value) (xs : List Int) (n : Int) (w : World) (hU : Blk w U eU cells) (hne : eU ≠ 3) (hv : cells[off]? = some v)
    (hown : w.ownsRow B 3 1 v xs.length (xs.map (Value.int .i64))) (hB : B ≤ w.heap.size) (hl : xs.length ≤ 100000000) (hh : HeapOn xs xs.length) :
    Calls Tryd.prog 68 #[.iface 83 (.pointer (some ⟨U, off, none⟩)), .iface 3 (.int .i64 n)] w (PostPush w U off eU cells B v xs n) := by
  have HP := Lib.hid (numPush_any U off eU cells B v xs n w hU hne hv hown hB (by omega))
  have HH := Lib.hid hh
  have HV := Lib.hid hv
  have HNE := Lib.hid hne
  clear hU hv hown hh hne
  go_enter Tryd.func68, Tryd.ntmps68
  go_wp2_with (first
    | ((with_reducible refine at_dst 6 rfl ?_); refine wpList_invoke (.tmp 4) "Push" #[.tmp 5] _ rfl (by rfl) rfl (m_push ⟨U, off, none⟩ _) fv_NPush #[.pointer (some ⟨U, off, none⟩), .iface 3 (.int .i64 n)] (by simp only [List.map_toArray, List.map_cons, List.map_nil, List.append_toArray, List.cons_append, List.nil_append]; rfl) ?_
       refine HP.out.mono ?_
       rintro e w1 ⟨g, c, rfl, h⟩
       have H1 := Lib.hid h
       clear h
       have hoff : off < cells.length := (List.getElem?_eq_some_iff.1 HV.out).1
       have hs1 : HpS w1 U off eU (cells.set off (.slice (some ⟨g, 0, none⟩) (xs ++ [n]).length c)) g c (xs ++ [n]) := ⟨by simpa using H1.out.1, by simp [hoff], H1.out.2.2.2.1, HNE.out⟩
       have HS1 := Lib.hid hs1
       have HUP := Lib.hid (up_any U off eU _ g c (xs ++ [n]) xs.length w1 hs1 (by simp) (HH.out.snoc n) (by simp; omega))
       have HLN := Lib.hid (m_LenH U off w1 hs1)
       obtain ⟨m, hm⟩ : ∃ m, m = (xs ++ [n]).length := ⟨_, rfl⟩
       have hm2 : ((xs.length : Nat) : Int) = (m : Int) - 1 := by rw [hm]; simp
       have hm3 : 1 ≤ m := by rw [hm]; simp
       have hm4 : m ≤ 100000001 := by rw [hm]; simp; omega
       rw [hm2] at HUP
       rw [← hm] at HLN
       clear hs1 hm2 hm hoff
       refine ⟨_, rfl, ?_⟩; simp only [Act.put, List.setIfInBounds_toArray, List.set_cons_zero, List.set_cons_succ])
    | ((with_reducible refine at_dst 9 rfl ?_); refine wpList_invoke (.tmp 8) "Len" #[] _ rfl (by rfl) rfl HLN.out fv_Len #[.slice (some ⟨g, 0, none⟩) m c] (by simp only [List.map_toArray, List.map_nil, List.append_toArray, List.cons_append, List.nil_append]) ?_; refine (numLen_any _ _ _ _).mono ?_; rintro e w2 ⟨rfl, rfl⟩; refine ⟨_, rfl, ?_⟩; simp only [Act.put, List.setIfInBounds_toArray, List.set_cons_zero, List.set_cons_succ])
    | (go_at_call 90; refine HUP.out.mono ?_; rintro e w2 ⟨ys, rfl, hy⟩; have HY := Lib.hid hy; clear hy))
  go_end0
  obtain ⟨hp, hho, hr2, hu2⟩ := HY.out
  obtain ⟨hb1, hBg, hat, hrow, hchg⟩ := H1.out
  have hyl := hp.length_eq
  have hs2 := HS1.out.upd hu2 hr2 hyl
  rw [← hyl] at hho
  refine ⟨g, c, ys, rfl, ?_, hp, hho, hBg, hat, ?_⟩
  · rw [hyl]; exact hs2
  · refine hchg.then hu2.chg (fun i hi => ?_)
    subst hi
    rcases hat with h | h
    · exact .inl (.inr h.symm)
    · exact .inr h

def PostPop (w : World) (U off : Nat) (eU : TypeId) (cells : List Value) (g c : Nat) (xs : List Int) (e : Ending) (w' : World) : Prop :=
  ∃ (x : Int) (ys : List Int), e = .returned (.iface 3 (.int .i64 x)) ∧ HpS w' U off eU (cells.set off (.slice (some ⟨g, 0, none⟩) ys.length c)) g c ys ∧ xs.Perm (x :: ys) ∧ HeapOn ys ys.length ∧
    (∀ y ∈ xs, x ≤ y) ∧ Chg (fun k => k = U ∨ k = g) w w'

set_option maxHeartbeats 1000000 in
theorem heapPop_any (U off : Nat) (eU : TypeId) (cells : List Value) (g c : Nat) (xs : List Int) (w : World) (h : HpS w U off eU cells g c xs) (h0 : 0 < xs.length) (hl : xs.length ≤ 100000000) (hh : HeapOn xs xs.length) :
    Calls Tryd.prog 70 #[.iface 83 (.pointer (some ⟨U, off, none⟩))] w (PostPop w U off eU cells g c xs) := by
  obtain ⟨n, hn⟩ : ∃ n, xs.length = n + 1 := ⟨xs.length - 1, by omega⟩
  have hn2 : (n : Int) = (xs.length : Int) - 1 := by omega
  have H := Lib.hid h
  have HH := Lib.hid hh
  have HN := Lib.hid hn
  have HN2 := Lib.hid hn2
  have HLN := Lib.hid (m_LenH U off w h)
  have HSW := Lib.hid (numSwap_any g c xs 0 n (by omega) (by omega) w h.row)
  rw [hn2] at HSW
  have hc0 := h.cell
  have HDN := Lib.hid (fun (w1 : World) (hr : RowAt w1 g c (swp xs 0 n)) (hu : Upd g w w1) =>
    down_any U off eU cells g c (swp xs 0 n) n w1 (h.upd hu hr (swp_length xs 0 n)) (by rw [swp_length]; omega) (hh.swap0 hn) (by rw [swp_length]; omega))
  rw [hn2] at HDN
  have HPP := Lib.hid (fun (w1 w2 : World) (hr : RowAt w1 g c (swp xs 0 n)) (hu : Upd g w w1) {ys : List Int} (hy : ys.Perm (swp xs 0 n) ∧ HeapOn ys n ∧ (∀ q, n ≤ q → ys.getD q 0 = (swp xs 0 n).getD q 0) ∧ RowAt w2 g c ys ∧ Upd g w1 w2) =>
    have hyl : ys.length = n + 1 := by rw [hy.1.length_eq, swp_length]; exact hn
    numPop_any U off eU cells g c (ys.take n) (ys.getD n 0) w2 (by
      have := (h.upd hu hr (swp_length xs 0 n)).upd hy.2.2.2.2 hy.2.2.2.1 (hy.1.length_eq)
      rwa [take_last hyl] at this) (by rw [List.length_take]; omega))
  clear h hh hn hn2
  go_enter Tryd.func70, Tryd.ntmps70
  go_wp2_with (first
    | ((with_reducible refine at_dst 5 rfl ?_); refine wpList_invoke (.tmp 4) "Len" #[] _ rfl (by rfl) rfl HLN.out fv_Len #[.slice (some ⟨g, 0, none⟩) xs.length c] (by simp only [List.map_toArray, List.map_nil, List.append_toArray, List.cons_append, List.nil_append]) ?_; refine (numLen_any _ _ _ _).mono ?_; rintro e w2 ⟨rfl, rfl⟩; refine ⟨_, rfl, ?_⟩; simp only [Act.put, List.setIfInBounds_toArray, List.set_cons_zero, List.set_cons_succ])
    | ((with_reducible refine at_dst 9 rfl ?_); refine wpList_invoke (.tmp 7) "Swap" #[.const (.int .i64 0), .tmp 8] _ rfl (by rfl) rfl (m_Swap ⟨U, off, none⟩ _ hc0) fv_Swap #[.slice (some ⟨g, 0, none⟩) xs.length c, .int .i64 0, .int .i64 ((xs.length : Int) - 1)] (by simp only [List.map_toArray, List.map_cons, List.map_nil, List.append_toArray, List.cons_append, List.nil_append]; rfl) ?_; refine HSW.out.mono ?_; rintro e w1 ⟨rfl, hr, hu⟩; have HR := Lib.hid hr; have HU := Lib.hid hu; clear hr hu; refine ⟨_, rfl, ?_⟩; simp only [Act.put, List.setIfInBounds_toArray, List.set_cons_zero, List.set_cons_succ])
    | (go_at_call 91; refine (HDN.out _ HR.out HU.out).mono ?_; rintro e w2 ⟨ys, b, rfl, hy⟩; have HY := Lib.hid hy; clear hy)
    | ((with_reducible refine at_dst 14 rfl ?_); refine wpList_invoke (.tmp 13) "Pop" #[] _ rfl (by rfl) rfl (m_pop ⟨U, off, none⟩ _) fv_NPop #[.pointer (some ⟨U, off, none⟩)] (by simp only [List.map_toArray, List.map_nil, List.append_toArray, List.cons_append, List.nil_append]) ?_; refine (HPP.out _ _ HR.out HU.out HY.out).mono ?_; rintro e w3 ⟨rfl, hs3, hc3⟩; have HS3 := Lib.hid hs3; have HC3 := Lib.hid hc3; clear hs3 hc3; refine ⟨_, rfl, ?_⟩; simp only [Act.put, List.setIfInBounds_toArray, List.set_cons_zero, List.set_cons_succ]))
  go_ret
  obtain ⟨hp, hho, hk, hr2, hu2⟩ := HY.out
  have hsl : (swp xs 0 n).length = n + 1 := by rw [swp_length]; exact HN.out
  have hyl : ys.length = n + 1 := by rw [hp.length_eq, hsl]
  have hg0 : ys.getD n 0 = xs.getD 0 0 := by
    have := HN.out
    rw [hk n (Nat.le_refl _), swp_get xs (by omega) (by omega), if_pos rfl]
  refine ⟨xs.getD 0 0, ys.take n, ?_, ?_, ?_, ?_, ?_, ?_⟩
  · rw [hg0]; rfl
  · exact HS3.out
  · have h1 : xs.Perm ys := (hp.trans (swp_perm xs (by have := HN.out; omega) (by have := HN.out; omega))).symm
    rw [take_last hyl, hg0] at h1
    exact h1.trans (List.perm_append_comm)
  · exact hho.take (by omega)
  · intro y hy
    obtain ⟨k, hk1, rfl⟩ := List.getElem_of_mem hy
    have := HH.out.least k hk1
    simpa [hk1] using this
  · exact ((HU.out.chg.mono fun i h => .inr h).trans (hu2.chg.mono fun i h => .inr h)).trans (HC3.out.mono fun i h => .inl h)

end Go.Proofs.YteokoaggkpjdeaaDoor
namespace Go.Proofs.YteokoaggkpjdeaaDoor
open Go.RowKit

/-- The entries of a map with integer keys. -/
def lookL : List MapEntry → Int → Option Value
  | [], _ => none
  | e :: es, n => match e.key with
    | .int .i64 k => if n == k then some e.val else lookL es n
    | _ => none

def KeysInt (es : List MapEntry) : Prop := ∀ e ∈ es, ∃ n, e.key = .int .i64 n

/-- Block g is a map from integers that holds m. -/
def MapAt (w : World) (g : Nat) (m : Int → Option Value) : Prop :=
  ∃ (es : Array MapEntry) (clock : Nat), w.heap[g]? = some (.map es clock) ∧ KeysInt es.toList ∧ ∀ n, m n = lookL es.toList n

/-- One entry set. -/
def mset (m : Int → Option Value) (n : Int) (v : Value) : Int → Option Value := fun k => if k = n then some v else m k

/-- The place of a key. -/
def idxL : List MapEntry → Int → Nat → Option (Nat × Value)
  | [], _, _ => none
  | e :: es, n, i => match e.key with
    | .int .i64 k => if n == k then some (i, e.val) else idxL es n (i + 1)
    | _ => none

theorem findNow_int (es : List MapEntry) (h : KeysInt es) (n : Int) : ∀ i, Instr.findNow (.int .i64) (.int .i64 n) es i = some (idxL es n i) := by
  induction es with
  | nil => intro i; rfl
  | cons e es ih =>
    intro i
    obtain ⟨k, hk⟩ := h e (by simp)
    have ih' := ih (fun e he => h e (by simp [he])) (i + 1)
    simp only [Instr.findNow, Instr.sameNow, hk, if_true, idxL]
    cases hb : n == k
    · simp [ih']
    · simp

theorem idxL_val (es : List MapEntry) (h : KeysInt es) (n : Int) : ∀ i, (idxL es n i).map (·.2) = lookL es n := by
  induction es with
  | nil => intro i; rfl
  | cons e es ih =>
    intro i
    obtain ⟨k, hk⟩ := h e (by simp)
    simp only [idxL, lookL, hk]
    cases hb : n == k
    · simpa using ih (fun e he => h e (by simp [he])) (i + 1)
    · simp

theorem idxL_spec (es : List MapEntry) (h : KeysInt es) (n : Int) : ∀ i j v, idxL es n i = some (j, v) → i ≤ j ∧ ∃ hj : j - i < es.length, es[j - i].key = .int .i64 n ∧ (∀ q, q < j - i → ∀ hq : q < es.length, es[q].key ≠ .int .i64 n) := by
  induction es with
  | nil => intro i j v h; simp [idxL] at h
  | cons e es ih =>
    intro i j v hi
    obtain ⟨k, hk⟩ := h e (by simp)
    simp only [idxL, hk] at hi
    by_cases hb : n = k
    · simp [hb] at hi
      obtain ⟨rfl, -⟩ := hi
      refine ⟨Nat.le_refl _, by simp, ?_, fun q hq => by omega⟩
      simp [hk, hb]
    · have hb' : (n == k) = false := by simpa using hb
      simp only [hb'] at hi
      obtain ⟨h1, h2, h3, h4⟩ := ih (fun e he => h e (by simp [he])) (i + 1) j v hi
      refine ⟨by omega, by simp; omega, ?_, ?_⟩
      · have : j - i = (j - (i + 1)) + 1 := by omega
        simp only [this, List.getElem_cons_succ]
        exact h3
      · intro q hq hq'
        cases q with
        | zero => simp [hk]; exact fun h => hb h.symm
        | succ q => simp only [List.getElem_cons_succ]; exact h4 q (by omega) (by simpa using hq')

theorem idxL_none (es : List MapEntry) (h : KeysInt es) (n : Int) : ∀ i, idxL es n i = none → ∀ e ∈ es, e.key ≠ .int .i64 n := by
  induction es with
  | nil => intro i _ e he; cases he
  | cons e es ih =>
    intro i hi e' he'
    obtain ⟨k, hk⟩ := h e (by simp)
    simp only [idxL, hk] at hi
    by_cases hb : n = k
    · simp [hb] at hi
    · have hb' : (n == k) = false := by simpa using hb
      simp only [hb'] at hi
      rcases List.mem_cons.1 he' with rfl | he'
      · simp [hk]; exact fun h => hb h.symm
      · exact ih (fun e he => h e (by simp [he])) (i + 1) hi e' he'

theorem lookL_append (es fs : List MapEntry) (h : KeysInt es) (n : Int) : lookL (es ++ fs) n = (lookL es n).or (lookL fs n) := by
  induction es with
  | nil => simp [lookL]
  | cons e es ih =>
    obtain ⟨k, hk⟩ := h e (by simp)
    simp only [List.cons_append, lookL, hk]
    cases hb : n == k
    · simpa using ih (fun e he => h e (by simp [he]))
    · simp

theorem lookL_none (es : List MapEntry) (h : KeysInt es) (n : Int) (hn : ∀ e ∈ es, e.key ≠ .int .i64 n) : lookL es n = none := by
  induction es with
  | nil => rfl
  | cons e es ih =>
    obtain ⟨k, hk⟩ := h e (by simp)
    have hne := hn e (by simp)
    rw [hk] at hne
    have hb : (n == k) = false := by simp; exact fun h => hne (by rw [h])
    simp only [lookL, hk, hb]
    exact ih (fun e he => h e (by simp [he])) (fun e he => hn e (by simp [he]))

/-- An entry's value set in place. -/
theorem lookL_set (es : List MapEntry) (h : KeysInt es) (n : Int) (v : Value) (j : Nat) (hj : j < es.length) (hk : es[j].key = .int .i64 n) (hq : ∀ q, q < j → ∀ hq : q < es.length, es[q].key ≠ .int .i64 n) (m : Int) :
    lookL (es.set j { es[j] with key := .int .i64 n, val := v }) m = if m = n then some v else lookL es m := by
  induction es generalizing j with
  | nil => simp at hj
  | cons e es ih =>
    obtain ⟨k, hke⟩ := h e (by simp)
    cases j with
    | zero =>
      simp only [List.getElem_cons_zero] at hk
      simp only [List.set_cons_zero, lookL, List.getElem_cons_zero, hk]
      by_cases hm : m = n
      · simp [hm]
      · simp [hm]
    | succ j =>
      have hne := hq 0 (by omega) (by simp)
      simp only [List.getElem_cons_zero, hke] at hne
      simp only [List.set_cons_succ, lookL, hke, List.getElem_cons_succ]
      have ih' := ih (fun e he => h e (by simp [he])) j (by simpa using hj) (by simpa using hk) (fun q hq' hql => by have := hq (q + 1) (by omega) (by simpa using hql); simpa using this)
      rw [ih']
      by_cases hb : m = k
      · have : m ≠ n := fun h => hne (by rw [← h, hb])
        simp [hb, hb ▸ this]
      · simp [hb]

theorem keysInt_set {es : List MapEntry} (h : KeysInt es) (j : Nat) (e : MapEntry) (n : Int) (he : e.key = .int .i64 n) : KeysInt (es.set j e) := fun e' he' => by
  rcases List.mem_or_eq_of_mem_set he' with h1 | h1
  · exact h e' h1
  · subst h1; exact ⟨n, he⟩

section
variable {P : Program} {T K E : TypeId} {w : World} {g : Nat} {m : Int → Option Value}

theorem run_findKey (hK : P.underlying K = some (.int .i64)) (es : List MapEntry) (h : KeysInt es) (n : Int) : (Instr.findKey K (.int .i64 n) es).run P w = .ok (idxL es n 0) w := by
  simp [Instr.findKey, run_underlying hK, findNow_int es h n 0]

theorem run_checkKey' (hK : P.underlying K = some (.int .i64)) (b : Bool) (n : Int) (f : Nat) : (Instr.checkKey b (f + 1) K (.int .i64 n)).run P w = .ok () w := by
  simp [Instr.checkKey, run_underlying hK]
theorem run_checkKey (hK : P.underlying K = some (.int .i64)) (b : Bool) (n : Int) : (Instr.checkKey b 10000 K (.int .i64 n)).run P w = .ok () w := run_checkKey' hK b n 9999

theorem MapAt.lookup (h : MapAt w g m) (hT : P.underlying T = some (.map K E)) (hK : P.underlying K = some (.int .i64)) {z : Value} (hz : (zeroValue E).run P w = .ok z w) (n : Int) :
    (Instr.lookup T (.map (some g)) (.int .i64 n) false).run P w = .ok ((m n).getD z) w := by
  obtain ⟨es, clock, hg, hk, hm⟩ := h
  rw [hm, ← idxL_val es.toList hk n 0]
  have hf := run_findKey (P := P) (w := w) hK es.toList hk n
  have hc := run_checkKey (P := P) (w := w) hK es.isEmpty n
  cases hi : idxL es.toList n 0 with
  | none => rw [hi] at hf; simp [Instr.lookup, run_underlying hT, MapKept.run_getObj_map hg, hc, hf, hz, Result.andThen]
  | some jv => rw [hi] at hf; simp [Instr.lookup, run_underlying hT, MapKept.run_getObj_map hg, hc, hf, Result.andThen]

theorem MapAt.lookup_ok (h : MapAt w g m) (hT : P.underlying T = some (.map K E)) (hK : P.underlying K = some (.int .i64)) {z : Value} (hz : (zeroValue E).run P w = .ok z w) (n : Int) :
    (Instr.lookup T (.map (some g)) (.int .i64 n) true).run P w = .ok (.tuple #[(m n).getD z, .bool (m n).isSome]) w := by
  obtain ⟨es, clock, hg, hk, hm⟩ := h
  rw [hm, ← idxL_val es.toList hk n 0]
  have hf := run_findKey (P := P) (w := w) hK es.toList hk n
  have hc := run_checkKey (P := P) (w := w) hK es.isEmpty n
  cases hi : idxL es.toList n 0 with
  | none => rw [hi] at hf; simp [Instr.lookup, run_underlying hT, MapKept.run_getObj_map hg, hc, hf, hz, Result.andThen]
  | some jv => rw [hi] at hf; simp [Instr.lookup, run_underlying hT, MapKept.run_getObj_map hg, hc, hf, Result.andThen]

/-- The world with another object in block g. -/
def setObjW (w : World) (g : Nat) (o : Obj) : World := { w with heap := w.heap.setIfInBounds g o }

theorem setObjW_chg (w : World) (g : Nat) (o : Obj) : Chg (fun k => k = g) w (setObjW w g o) :=
  ⟨rfl, rfl, rfl, by simp [setObjW], fun k _ hn => by simp only [setObjW]; rw [Array.getElem?_setIfInBounds_ne (fun e => hn e.symm)]⟩
theorem setObjW_at {w : World} {g : Nat} {o o' : Obj} (h : w.heap[g]? = some o) : (setObjW w g o').heap[g]? = some o' := by
  have hl := (Array.getElem?_eq_some_iff.1 h).1
  simp [setObjW, hl]

theorem sameBits_int (f : Nat) (n : Int) : Instr.sameBits f (.int .i64 n) (.int .i64 n) = true := by
  cases f <;> simp [Instr.sameBits]
theorem run_keyStays (n : Int) : (Instr.keyThatStays (.int .i64 n) (.int .i64 n)).run P w = .ok (.int .i64 n) w := by
  simp [Instr.keyThatStays, sameBits_int]
theorem modify_set (es : List MapEntry) (j : Nat) (f : MapEntry → MapEntry) (hj : j < es.length) : es.modify j f = es.set j (f es[j]) := by
  apply List.ext_getElem?
  intro i
  rw [List.getElem?_modify, List.getElem?_set]
  by_cases h : j = i
  · subst h; simp [hj]
  · simp [h]

theorem MapAt.update (h : MapAt w g m) (hT : P.underlying T = some (.map K E)) (hK : P.underlying K = some (.int .i64)) (n : Int) (v : Value) :
    ∃ w', (Instr.mapUpdate T (.map (some g)) (.int .i64 n) v).run P w = .ok () w' ∧ MapAt w' g (mset m n v) ∧ Chg (fun k => k = g) w w' := by
  obtain ⟨es, clock, hg, hk, hm⟩ := h
  have hf := run_findKey (P := P) (w := w) hK es.toList hk n
  have hc := run_checkKey (P := P) (w := w) hK false n
  cases hi : idxL es.toList n 0 with
  | none =>
    rw [hi] at hf
    refine ⟨setObjW w g (.map (es.push { key := .int .i64 n, val := v, born := clock }) (clock + 1)), ?_, ⟨_, _, setObjW_at hg, ?_, ?_⟩, setObjW_chg w g _⟩
    · simp [Instr.mapUpdate, run_underlying hT, MapKept.run_getObj_map hg, hc, hf, Result.andThen, MapKept.run_setObj_map _ hg, setObjW]
    · intro e he
      simp only [Array.toList_push, List.mem_append, List.mem_singleton] at he
      rcases he with he | rfl
      · exact hk e he
      · exact ⟨n, rfl⟩
    · intro k
      have hno := idxL_none es.toList hk n 0 hi
      rw [Array.toList_push, lookL_append _ _ hk]
      simp only [mset, lookL]
      by_cases hkn : k = n
      · subst hkn
        rw [lookL_none _ hk k hno]; simp
      · rw [if_neg hkn, hm k]
        simp [hkn]
  | some jv =>
    obtain ⟨j, ov⟩ := jv
    rw [hi] at hf
    obtain ⟨-, h2, h3, h4⟩ := idxL_spec es.toList hk n 0 j ov hi
    simp only [Nat.sub_zero] at h2 h3 h4
    have hj : j < es.size := by simpa using h2
    have hkj : es[j].key = .int .i64 n := by simpa using h3
    have hes : (es.modify j fun e => { e with key := .int .i64 n, val := v }).toList = es.toList.set j { es.toList[j] with key := .int .i64 n, val := v } := by
      rw [Array.toList_modify, modify_set _ _ _ h2]
    refine ⟨setObjW w g (.map (es.modify j fun e => { e with key := .int .i64 n, val := v }) clock), ?_, ⟨_, _, setObjW_at hg, ?_, ?_⟩, setObjW_chg w g _⟩
    · simp [Instr.mapUpdate, run_underlying hT, MapKept.run_getObj_map hg, hc, hf, Result.andThen, MapKept.run_setObj_map _ hg, setObjW, hj, hkj, run_keyStays]
    · rw [hes]; exact keysInt_set hk _ _ n rfl
    · intro k
      rw [hes, lookL_set es.toList hk n v j h2 h3 h4]
      simp only [mset, hm]

theorem MapAt.new (w : World) : MapAt (w.alloc (.map #[] 0)) w.heap.size (fun _ => none) := ⟨#[], 0, heap_alloc_new w _, fun _ he => absurd he (by simp), fun _ => rfl⟩
theorem MapAt.keep {S : Nat → Prop} {w' : World} (h : MapAt w g m) (k : Chg S w w') (hn : ¬ S g) : MapAt w' g m := by
  obtain ⟨es, clock, hg, r⟩ := h
  exact ⟨es, clock, (k.block g (Array.getElem?_eq_some_iff.1 hg).1 hn).trans hg, r⟩
theorem MapAt.ext {w' : World} (h : MapAt w g m) (k : Ext w w') : MapAt w' g m := h.keep (k.chg (fun _ => False)) id
theorem MapAt.lt (h : MapAt w g m) : g < w.heap.size := by
  obtain ⟨es, clock, hg, -⟩ := h
  exact (Array.getElem?_eq_some_iff.1 hg).1
end

end Go.Proofs.YteokoaggkpjdeaaDoor
namespace Go.Proofs.YteokoaggkpjdeaaDoor
open Go.RowKit

/-- Which part of a unit a block belongs to. -/
inductive Lab where
  | u | mv | ma | left | held | wait
  | at_ (x : Int)
  deriving DecidableEq

/-- What a unit holds: the true literal of each variable, the literals that are left, which clauses are held, the clauses of each literal, those that wait. -/
structure Unit1 where
  val : Int → Option Value
  left : List Int
  held : List Bool
  at_ : Int → List Int
  wait : List Int

structure USt (w : World) (B : Nat) (lab : Nat → Option Lab) (U mv ma : Nat) (fv lv hv wv : Value) (atv : Int → Option Value) (s : Unit1) : Prop where
  blk : Blk w U 81 [fv, .map (some mv), lv, hv, .map (some ma), wv]
  mval : MapAt w mv s.val
  mat : MapAt w ma atv
  rleft : w.ownsRow B 3 1 lv s.left.length (s.left.map (Value.int .i64))
  rheld : w.ownsRow B 4 1 hv s.held.length (s.held.map Value.bool)
  rwait : w.ownsRow B 3 1 wv s.wait.length (s.wait.map (Value.int .i64))
  rat : ∀ x, w.ownsRow B 3 1 ((atv x).getD (.slice none 0 0)) (s.at_ x).length ((s.at_ x).map (Value.int .i64))
  heap : HeapOn s.wait s.wait.length
  lU : lab U = some .u
  lmv : lab mv = some .mv
  lma : lab ma = some .ma
  lleft : ∀ k, lv.ownBlock = some k → lab k = some .left
  lheld : ∀ k, hv.ownBlock = some k → lab k = some .held
  lwait : ∀ k, wv.ownBlock = some k → lab k = some .wait
  lat : ∀ x k, ((atv x).getD (.slice none 0 0)).ownBlock = some k → lab k = some (.at_ x)
  low : ∀ k c, lab k = some c → B ≤ k ∧ k < w.heap.size

/-- The literals of the unit are set: the held clauses, those that lose a literal. -/
def heldS (h : List Bool) (is : List Int) : List Bool := is.foldl (fun h i => h.set i.toNat true) h

section
variable {w w' : World} {B : Nat} {lab : Nat → Option Lab} {U mv ma : Nat} {fv lv hv wv : Value} {atv : Int → Option Value} {s : Unit1} {S : Nat → Prop} {c : Lab}

/-- What is not of label c is as it was. -/
theorem USt.keepBlk (h : USt w B lab U mv ma fv lv hv wv atv s) (k : Chg S w w') (hS : ∀ i, S i → lab i = some c) (hc : c ≠ .u) : Blk w' U 81 [fv, .map (some mv), lv, hv, .map (some ma), wv] :=
  k.blk h.blk fun hs => hc (by have := hS _ hs; rw [h.lU] at this; injection this with this; exact this.symm)
theorem USt.keepMv (h : USt w B lab U mv ma fv lv hv wv atv s) (k : Chg S w w') (hS : ∀ i, S i → lab i = some c) (hc : c ≠ .mv) : MapAt w' mv s.val :=
  h.mval.keep k fun hs => hc (by have := hS _ hs; rw [h.lmv] at this; injection this with this; exact this.symm)
theorem USt.keepMa (h : USt w B lab U mv ma fv lv hv wv atv s) (k : Chg S w w') (hS : ∀ i, S i → lab i = some c) (hc : c ≠ .ma) : MapAt w' ma atv :=
  h.mat.keep k fun hs => hc (by have := hS _ hs; rw [h.lma] at this; injection this with this; exact this.symm)
theorem keepRow {base : Nat} {e : TypeId} {size n : Nat} {v : Value} {xs : List Value} {d : Lab} (hr : w.ownsRow base e size v n xs) (hl : ∀ k, v.ownBlock = some k → lab k = some d) (k : Chg S w w') (hS : ∀ i, S i → lab i = some c) (hc : c ≠ d) : w'.ownsRow base e size v n xs :=
  k.own hr fun i hi hs => hc (by have := hS _ hs; rw [hl i hi] at this; injection this with this; exact this.symm)
theorem USt.keepLow (h : USt w B lab U mv ma fv lv hv wv atv s) (k : Chg S w w') : ∀ i c, lab i = some c → B ≤ i ∧ i < w'.heap.size := fun i c hi => ⟨(h.low i c hi).1, Nat.lt_of_lt_of_le (h.low i c hi).2 k.size⟩

theorem USt.setVal (h : USt w B lab U mv ma fv lv hv wv atv s) (k : Chg (fun i => i = mv) w w') {m : Int → Option Value} (hm : MapAt w' mv m) : USt w' B lab U mv ma fv lv hv wv atv { s with val := m } := by
  have hS : ∀ i, i = mv → lab i = some .mv := fun i hi => hi ▸ h.lmv
  exact ⟨h.keepBlk k hS (by decide), hm, h.keepMa k hS (by decide), keepRow h.rleft h.lleft k hS (by decide), keepRow h.rheld h.lheld k hS (by decide), keepRow h.rwait h.lwait k hS (by decide),
    fun x => keepRow (h.rat x) (h.lat x) k hS (by simp), h.heap, h.lU, h.lmv, h.lma, h.lleft, h.lheld, h.lwait, h.lat, h.keepLow k⟩

theorem USt.ext (h : USt w B lab U mv ma fv lv hv wv atv s) (k : Ext w w') : USt w' B lab U mv ma fv lv hv wv atv s := by
  have k' : Chg (fun i => i = mv ∧ False) w w' := k.chg _
  have hS : ∀ i, i = mv ∧ False → lab i = some Lab.mv := fun i hi => hi.2.elim
  exact ⟨h.keepBlk k' hS (by decide), h.mval.ext k, h.keepMa k' hS (by decide), keepRow h.rleft h.lleft k' hS (by decide), keepRow h.rheld h.lheld k' hS (by decide), keepRow h.rwait h.lwait k' hS (by decide),
    fun x => keepRow (h.rat x) (h.lat x) k' hS (by simp), h.heap, h.lU, h.lmv, h.lma, h.lleft, h.lheld, h.lwait, h.lat, h.keepLow k'⟩
end

/-- A row of one-cell elements of the call's own, by its block: an element's cell; an element stored. -/
theorem own_at {α : Type} (enc : α → Value) {w : World} {B : Nat} {e : TypeId} {v : Value} {xs : List α} (h : w.ownsRow B e 1 v xs.length (xs.map enc)) (i : Nat) (hi : i < xs.length) :
    ∃ g c, v = .slice (some ⟨g, 0, none⟩) xs.length c ∧ B ≤ g ∧ w.cell? ⟨g, i, none⟩ = some (enc xs[i]) ∧ w.frozen? ⟨g, i, none⟩ = false ∧
      ∀ x : α, (w.setCell ⟨g, i, none⟩ (enc x)).ownsRow B e 1 v xs.length ((xs.set i x).map enc) := by
  have hl : (xs.map enc).length = xs.length := List.length_map ..
  rw [← hl] at h
  obtain ⟨g, c, cur, rfl, hb, hblk, h1, h2, h3, h4⟩ := own_blk h (by omega)
  rw [hl] at h1 h4
  refine ⟨g, c, by rw [hl], hb, ?_, hblk.free i, fun x => ?_⟩
  · rw [hblk.cell]
    have := congrArg (fun l => l[i]?) h4
    simp only [List.getElem?_take, if_pos hi, List.getElem?_map, List.getElem?_eq_getElem hi] at this
    exact this
  · have := blk_own (vs := (xs.set i x).map enc) hb (hblk.set i (enc x)) (by simpa using h1) h2 (by simpa using h3) (by
      simp only [List.length_map, List.length_set]
      rw [List.take_set, h4, List.map_set])
    simpa using this

theorem USt.setHeld {w : World} {B : Nat} {lab : Nat → Option Lab} {U mv ma : Nat} {fv lv wv : Value} {atv : Int → Option Value} {s : Unit1} {g n c i : Nat}
    (h : USt w B lab U mv ma fv lv (.slice (some ⟨g, 0, none⟩) n c) wv atv s) {b : List Bool} {x : Value} (hr : (w.setCell ⟨g, i, none⟩ x).ownsRow B 4 1 (.slice (some ⟨g, 0, none⟩) n c) b.length (b.map Value.bool)) :
    USt (w.setCell ⟨g, i, none⟩ x) B lab U mv ma fv lv (.slice (some ⟨g, 0, none⟩) n c) wv atv { s with held := b } := by
  have k := Chg.set w g i x
  have hS : ∀ i, i = g → lab i = some .held := fun i hi => hi ▸ h.lheld g rfl
  exact ⟨h.keepBlk k hS (by decide), h.keepMv k hS (by decide), h.keepMa k hS (by decide), keepRow h.rleft h.lleft k hS (by decide), hr, keepRow h.rwait h.lwait k hS (by decide),
    fun x => keepRow (h.rat x) (h.lat x) k hS (by simp), h.heap, h.lU, h.lmv, h.lma, h.lleft, h.lheld, h.lwait, h.lat, h.keepLow k⟩

theorem USt.setLeft {w : World} {B : Nat} {lab : Nat → Option Lab} {U mv ma : Nat} {fv hv wv : Value} {atv : Int → Option Value} {s : Unit1} {g n c i : Nat}
    (h : USt w B lab U mv ma fv (.slice (some ⟨g, 0, none⟩) n c) hv wv atv s) {b : List Int} {x : Value} (hr : (w.setCell ⟨g, i, none⟩ x).ownsRow B 3 1 (.slice (some ⟨g, 0, none⟩) n c) b.length (b.map (Value.int .i64))) :
    USt (w.setCell ⟨g, i, none⟩ x) B lab U mv ma fv (.slice (some ⟨g, 0, none⟩) n c) hv wv atv { s with left := b } := by
  have k := Chg.set w g i x
  have hS : ∀ i, i = g → lab i = some .left := fun i hi => hi ▸ h.lleft g rfl
  exact ⟨h.keepBlk k hS (by decide), h.keepMv k hS (by decide), h.keepMa k hS (by decide), hr, keepRow h.rheld h.lheld k hS (by decide), keepRow h.rwait h.lwait k hS (by decide),
    fun x => keepRow (h.rat x) (h.lat x) k hS (by simp), h.heap, h.lU, h.lmv, h.lma, h.lleft, h.lheld, h.lwait, h.lat, h.keepLow k⟩

theorem zeroValue_ints (w : World) : (zeroValue 22).run Tryd.prog w = .ok (.slice none 0 0) w := by kernel_rfl

/-- What the unit may have turned: blocks with a label; a label stays, a new one stands on a new block. -/
structure Own (lab lab' : Nat → Option Lab) (w w' : World) : Prop where
  chg : Chg (fun k => ∃ c, lab k = some c) w w'
  le : ∀ k d, lab k = some d → lab' k = some d
  grow : ∀ k d, lab' k = some d → lab k = some d ∨ w.heap.size ≤ k

theorem Own.same {lab : Nat → Option Lab} {w w' : World} (h : Chg (fun k => ∃ c, lab k = some c) w w') : Own lab lab w w' := ⟨h, fun _ _ h => h, fun _ _ h => .inl h⟩
theorem Own.refl (lab : Nat → Option Lab) (w : World) : Own lab lab w w := .same (Chg.refl _ _)
theorem Own.trans {l1 l2 l3 : Nat → Option Lab} {a b c : World} (h : Own l1 l2 a b) (k : Own l2 l3 b c) : Own l1 l3 a c :=
  ⟨h.chg.then k.chg fun i ⟨d, hd⟩ => (h.grow i d hd).imp (fun h => ⟨d, h⟩) id, fun i d hd => k.le i d (h.le i d hd), fun i d hd => (k.grow i d hd).elim (h.grow i d) (fun hs => .inr (Nat.le_trans h.chg.size hs))⟩
theorem Own.ext {l1 l2 : Nat → Option Lab} {a b c : World} (h : Own l1 l2 a b) (k : Ext b c) : Own l1 l2 a c := h.trans (.same (k.chg _))

/-- A label more. -/
def upd (lab : Nat → Option Lab) (g : Nat) (c : Lab) : Nat → Option Lab := fun k => if k = g then some c else lab k
theorem upd_at (lab : Nat → Option Lab) (g : Nat) (c : Lab) : upd lab g c g = some c := if_pos rfl
theorem upd_le {lab : Nat → Option Lab} {g : Nat} {c : Lab} (h : lab g = some c ∨ lab g = none) (k : Nat) (d : Lab) (hk : lab k = some d) : upd lab g c k = some d := by
  unfold upd
  by_cases e : k = g
  · rw [if_pos e]
    subst e
    rcases h with h | h
    · rw [← h, hk]
    · rw [h] at hk; cases hk
  · rw [if_neg e]; exact hk
theorem upd_own {lab : Nat → Option Lab} {g : Nat} {c : Lab} {w w' : World} {S : Nat → Prop} (h : lab g = some c ∨ (lab g = none ∧ w.heap.size ≤ g)) (k : Chg S w w') (hS : ∀ i, S i → (∃ d, lab i = some d)) : Own lab (upd lab g c) w w' := by
  refine ⟨k.mono hS, upd_le (h.imp id (·.1)), fun i d hi => ?_⟩
  unfold upd at hi
  by_cases e : i = g
  · rw [if_pos e] at hi
    injection hi with hi
    subst e hi
    exact h.imp id (·.2)
  · rw [if_neg e] at hi; exact .inl hi
theorem upd_low {lab : Nat → Option Lab} {g B : Nat} {c : Lab} {w w' : World} (h : ∀ k c, lab k = some c → B ≤ k ∧ k < w.heap.size) (hs : w.heap.size ≤ w'.heap.size) (hB : B ≤ g) (hg : g < w'.heap.size) :
    ∀ k d, upd lab g c k = some d → B ≤ k ∧ k < w'.heap.size := fun k d hk => by
  unfold upd at hk
  by_cases e : k = g
  · rw [e]; exact ⟨hB, hg⟩
  · rw [if_neg e] at hk
    have := h k d hk
    omega
/-- A block that is new, or the row's own: its label. -/
theorem newlab {lab : Nat → Option Lab} {g B : Nat} {c : Lab} {w : World} {v : Value} (h : ∀ k c, lab k = some c → B ≤ k ∧ k < w.heap.size) (hl : ∀ k, v.ownBlock = some k → lab k = some c) (hg : v.ownBlock = some g ∨ w.heap.size ≤ g) :
    lab g = some c ∨ (lab g = none ∧ w.heap.size ≤ g) := by
  rcases hg with hg | hg
  · exact .inl (hl g hg)
  · right
    refine ⟨?_, hg⟩
    cases e : lab g with
    | none => rfl
    | some d => have := (h g d e).2; omega

theorem rowAt_own {w : World} {g c B : Nat} {xs : List Int} (h : RowAt w g c xs) (hb : B ≤ g) : w.ownsRow B 3 1 (.slice (some ⟨g, 0, none⟩) xs.length c) xs.length (xs.map (Value.int .i64)) := by
  obtain ⟨cur, h1, h2, h3, h4, h5⟩ := h
  have := blk_own (vs := xs.map (Value.int .i64)) hb h1 (by simpa using h2) (by unfold maxLen; omega) h4 (by simpa using h5)
  simpa using this

/-- Behind heap.Push on the unit's own heap. -/
theorem USt.push {w w' : World} {B : Nat} {lab : Nat → Option Lab} {U mv ma : Nat} {fv lv hv wv : Value} {atv : Int → Option Value} {s : Unit1} {n : Int} {e : Ending}
    (h : USt w B lab U mv ma fv lv hv wv atv s) (hp : PostPush w U 5 81 [fv, .map (some mv), lv, hv, .map (some ma), wv] B wv s.wait n e w') :
    ∃ lab' wv' ys, e = .returned (.tuple #[]) ∧ ys.Perm (s.wait ++ [n]) ∧ USt w' B lab' U mv ma fv lv hv wv' atv { s with wait := ys } ∧ Own lab lab' w w' := by
  obtain ⟨g, c, ys, he, hs, hperm, hh, hBg, hg, hc⟩ := hp
  have hnl := newlab h.low h.lwait hg
  have hle := fun k d => upd_le (c := Lab.wait) (hnl.imp id (·.1)) k d
  have hnS : ∀ k c, lab k = some c → c ≠ .wait → c ≠ .u → ¬ (k = U ∨ some k = wv.ownBlock) := fun k c hk h1 h2 hs => by
    rcases hs with rfl | hs
    · rw [h.lU] at hk; injection hk with hk; exact h2 hk.symm
    · have := h.lwait k hs.symm; rw [this] at hk; injection hk with hk; exact h1 hk.symm
  have hgw : g < w'.heap.size := by
    obtain ⟨cur, hb, -⟩ := hs.row
    exact hb.lt
  refine ⟨upd lab g .wait, .slice (some ⟨g, 0, none⟩) ys.length c, ys, he, hperm, ⟨hs.blk, h.mval.keep hc (hnS _ _ h.lmv (by decide) (by decide)), h.mat.keep hc (hnS _ _ h.lma (by decide) (by decide)),
    hc.own h.rleft (fun k hk => hnS k _ (h.lleft k hk) (by decide) (by decide)), hc.own h.rheld (fun k hk => hnS k _ (h.lheld k hk) (by decide) (by decide)), rowAt_own hs.row hBg,
    fun x => hc.own (h.rat x) (fun k hk => hnS k _ (h.lat x k hk) (by simp) (by simp)), hh, hle _ _ h.lU, hle _ _ h.lmv, hle _ _ h.lma, fun k hk => hle _ _ (h.lleft k hk), fun k hk => hle _ _ (h.lheld k hk), ?_,
    fun x k hk => hle _ _ (h.lat x k hk), upd_low h.low hc.size hBg hgw⟩, upd_own hnl hc ?_⟩
  · intro k hk; simp [Value.ownBlock] at hk; rw [← hk]; exact upd_at ..
  · intro k hk
    rcases hk with rfl | hk
    · exact ⟨_, h.lU⟩
    · exact ⟨_, h.lwait k hk.symm⟩

/-- Behind heap.Pop on the unit's own heap. -/
theorem USt.pop {w w' : World} {B : Nat} {lab : Nat → Option Lab} {U mv ma : Nat} {fv lv hv : Value} {atv : Int → Option Value} {s : Unit1} {g c : Nat} {xs : List Int} {e : Ending}
    (h : USt w B lab U mv ma fv lv hv (.slice (some ⟨g, 0, none⟩) xs.length c) atv s) (hp : PostPop w U 5 81 [fv, .map (some mv), lv, hv, .map (some ma), .slice (some ⟨g, 0, none⟩) xs.length c] g c s.wait e w') :
    ∃ wv' x ys, e = .returned (.iface 3 (.int .i64 x)) ∧ s.wait.Perm (x :: ys) ∧ (∀ y ∈ s.wait, x ≤ y) ∧ USt w' B lab U mv ma fv lv hv wv' atv { s with wait := ys } ∧ Own lab lab w w' := by
  obtain ⟨x, ys, he, hs, hperm, hh, hmin, hc⟩ := hp
  have hgl := h.lwait g rfl
  have hnS : ∀ k c, lab k = some c → c ≠ .wait → c ≠ .u → ¬ (k = U ∨ k = g) := fun k c hk h1 h2 hs => by
    rcases hs with rfl | rfl
    · rw [h.lU] at hk; injection hk with hk; exact h2 hk.symm
    · rw [hgl] at hk; injection hk with hk; exact h1 hk.symm
  refine ⟨.slice (some ⟨g, 0, none⟩) ys.length c, x, ys, he, hperm, hmin, ⟨hs.blk, h.mval.keep hc (hnS _ _ h.lmv (by decide) (by decide)), h.mat.keep hc (hnS _ _ h.lma (by decide) (by decide)),
    hc.own h.rleft (fun k hk => hnS k _ (h.lleft k hk) (by decide) (by decide)), hc.own h.rheld (fun k hk => hnS k _ (h.lheld k hk) (by decide) (by decide)), rowAt_own hs.row (h.low _ _ hgl).1,
    fun x => hc.own (h.rat x) (fun k hk => hnS k _ (h.lat x k hk) (by simp) (by simp)), hh, h.lU, h.lmv, h.lma, h.lleft, h.lheld, ?_,
    h.lat, fun k d hk => ⟨(h.low k d hk).1, Nat.lt_of_lt_of_le (h.low k d hk).2 hc.size⟩⟩, .same (hc.mono ?_)⟩
  · intro k hk; simp [Value.ownBlock] at hk; rw [← hk]; exact hgl
  · intro k hk
    rcases hk with rfl | rfl
    · exact ⟨_, h.lU⟩
    · exact ⟨_, hgl⟩

/-- Its left is another row. -/
theorem USt.newLeft {w w' : World} {B : Nat} {lab : Nat → Option Lab} {U mv ma : Nat} {fv lv hv wv lv' : Value} {atv : Int → Option Value} {s : Unit1} {g : Nat} {left : List Int}
    (h : USt w B lab U mv ma fv lv hv wv atv s) (hc : Chg (fun k => k = U ∨ some k = lv.ownBlock) w w') (hb : Blk w' U 81 [fv, .map (some mv), lv', hv, .map (some ma), wv])
    (hr : w'.ownsRow B 3 1 lv' left.length (left.map (Value.int .i64))) (hg' : lv'.ownBlock = some g) (hg : lv.ownBlock = some g ∨ w.heap.size ≤ g) (hBg : B ≤ g) (hgw : g < w'.heap.size) :
    ∃ lab', USt w' B lab' U mv ma fv lv' hv wv atv { s with left := left } ∧ Own lab lab' w w' := by
  have hnl := newlab h.low h.lleft hg
  have hle := fun k d => upd_le (c := Lab.left) (hnl.imp id (·.1)) k d
  have hnS : ∀ k c, lab k = some c → c ≠ .left → c ≠ .u → ¬ (k = U ∨ some k = lv.ownBlock) := fun k c hk h1 h2 hs => by
    rcases hs with rfl | hs
    · rw [h.lU] at hk; injection hk with hk; exact h2 hk.symm
    · have := h.lleft k hs.symm; rw [this] at hk; injection hk with hk; exact h1 hk.symm
  refine ⟨upd lab g .left, ⟨hb, h.mval.keep hc (hnS _ _ h.lmv (by decide) (by decide)), h.mat.keep hc (hnS _ _ h.lma (by decide) (by decide)),
    hr, hc.own h.rheld (fun k hk => hnS k _ (h.lheld k hk) (by decide) (by decide)), hc.own h.rwait (fun k hk => hnS k _ (h.lwait k hk) (by decide) (by decide)),
    fun x => hc.own (h.rat x) (fun k hk => hnS k _ (h.lat x k hk) (by simp) (by simp)), h.heap, hle _ _ h.lU, hle _ _ h.lmv, hle _ _ h.lma, ?_, fun k hk => hle _ _ (h.lheld k hk), fun k hk => hle _ _ (h.lwait k hk),
    fun x k hk => hle _ _ (h.lat x k hk), upd_low h.low hc.size hBg hgw⟩, upd_own hnl hc ?_⟩
  · intro k hk; rw [hg'] at hk; injection hk with hk; rw [← hk]; exact upd_at ..
  · intro k hk
    rcases hk with rfl | hk
    · exact ⟨_, h.lU⟩
    · exact ⟨_, h.lleft k hk.symm⟩

/-- The clauses of a literal are another row. -/
theorem USt.newAt {w w1 w' : World} {B : Nat} {lab : Nat → Option Lab} {U mv ma : Nat} {fv lv hv wv v' : Value} {atv : Int → Option Value} {s : Unit1} {g : Nat} {x : Int} {is : List Int}
    (h : USt w B lab U mv ma fv lv hv wv atv s) (hc1 : Chg (fun k => some k = ((atv x).getD (.slice none 0 0)).ownBlock) w w1)
    (hr : w1.ownsRow B 3 1 v' is.length (is.map (Value.int .i64))) (hg' : v'.ownBlock = some g) (hg : ((atv x).getD (.slice none 0 0)).ownBlock = some g ∨ w.heap.size ≤ g) (hBg : B ≤ g) (hgw : g < w1.heap.size)
    (hc2 : Chg (fun i => i = ma) w1 w') (hm : MapAt w' ma (mset atv x v')) :
    ∃ lab', USt w' B lab' U mv ma fv lv hv wv (mset atv x v') { s with at_ := fun y => if y = x then is else s.at_ y } ∧ Own lab lab' w w' := by
  have hnl := newlab h.low (h.lat x) hg
  have hle := fun k d => upd_le (c := Lab.at_ x) (hnl.imp id (·.1)) k d
  have hma : g ≠ ma := fun e => by
    subst e
    rcases hnl with hn | hn
    · rw [h.lma] at hn; cases hn
    · have := (h.low _ _ h.lma).2; omega
  have hc : Chg (fun k => k = ma ∨ some k = ((atv x).getD (.slice none 0 0)).ownBlock) w w' := (hc1.mono fun _ h => .inr h).trans (hc2.mono fun _ h => .inl h)
  have hnS : ∀ k c, lab k = some c → c ≠ .ma → c ≠ .at_ x → ¬ (k = ma ∨ some k = ((atv x).getD (.slice none 0 0)).ownBlock) := fun k c hk h1 h2 hs => by
    rcases hs with rfl | hs
    · rw [h.lma] at hk; injection hk with hk; exact h1 hk.symm
    · have := h.lat x k hs.symm; rw [this] at hk; injection hk with hk; exact h2 hk.symm
  refine ⟨upd lab g (.at_ x), ⟨hc.blk h.blk (hnS _ _ h.lU (by decide) (by simp)), h.mval.keep hc (hnS _ _ h.lmv (by decide) (by simp)), hm,
    hc.own h.rleft (fun k hk => hnS k _ (h.lleft k hk) (by decide) (by simp)), hc.own h.rheld (fun k hk => hnS k _ (h.lheld k hk) (by decide) (by simp)), hc.own h.rwait (fun k hk => hnS k _ (h.lwait k hk) (by decide) (by simp)),
    fun y => ?_, h.heap, hle _ _ h.lU, hle _ _ h.lmv, hle _ _ h.lma, fun k hk => hle _ _ (h.lleft k hk), fun k hk => hle _ _ (h.lheld k hk), fun k hk => hle _ _ (h.lwait k hk),
    fun y k hk => ?_, upd_low h.low hc.size hBg (Nat.lt_of_lt_of_le hgw hc2.size)⟩, upd_own hnl hc ?_⟩
  · unfold mset
    dsimp only
    by_cases e : y = x
    · rw [if_pos e, if_pos e]
      refine hc2.own hr fun k hk hk2 => ?_
      have hk' : v'.ownBlock = some k := hk
      rw [hg'] at hk'; injection hk' with hk'
      exact hma (hk'.trans hk2)
    · rw [if_neg e, if_neg e]
      exact hc.own (h.rat y) (fun k hk => hnS k _ (h.lat y k hk) (by simp) (by simpa using e))
  · unfold mset at hk
    by_cases e : y = x
    · rw [if_pos e] at hk
      have hk' : v'.ownBlock = some k := hk
      rw [hg'] at hk'; injection hk' with hk'
      rw [← hk', e]; exact upd_at ..
    · rw [if_neg e] at hk
      exact hle _ _ (h.lat y k hk)
  · intro k hk
    rcases hk with rfl | hk
    · exact ⟨_, h.lma⟩
    · exact ⟨_, h.lat x k hk.symm⟩

/-- One clause loses a literal. -/
def leftStep (s : List Int × List Int) (i : Int) : List Int × List Int :=
  (s.1.set i.toNat (s.1.getD i.toNat 0 - 1), if s.1.getD i.toNat 0 - 1 = 1 then s.2 ++ [i] else s.2)
def leftS (l : List Int) (is : List Int) : List Int × List Int := is.foldl leftStep (l, [])

theorem heldS_take (h : List Bool) (is : List Int) (k : Nat) (hk : k < is.length) : heldS h (is.take (k + 1)) = (heldS h (is.take k)).set is[k].toNat true := by
  unfold heldS
  rw [List.take_succ_eq_append_getElem hk, List.foldl_append]; rfl
theorem leftS_take (l : List Int) (is : List Int) (k : Nat) (hk : k < is.length) : leftS l (is.take (k + 1)) = leftStep (leftS l (is.take k)) is[k] := by
  unfold leftS
  rw [List.take_succ_eq_append_getElem hk, List.foldl_append]; rfl
theorem heldS_len (h : List Bool) (is : List Int) : (heldS h is).length = h.length := by
  unfold heldS
  induction is generalizing h with
  | nil => rfl
  | cons i is ih => rw [List.foldl_cons, ih]; simp
theorem leftS_len' (is : List Int) (s : List Int × List Int) : (is.foldl leftStep s).1.length = s.1.length := by
  induction is generalizing s with
  | nil => rfl
  | cons i is ih => rw [List.foldl_cons, ih]; simp [leftStep]
theorem leftS_len (l : List Int) (is : List Int) : (leftS l is).1.length = l.length := leftS_len' is _

theorem leftS_pushed' (is : List Int) (s : List Int × List Int) : (is.foldl leftStep s).2.length ≤ s.2.length + is.length := by
  induction is generalizing s with
  | nil => exact Nat.le_refl _
  | cons i is ih =>
    rw [List.foldl_cons]
    refine Nat.le_trans (ih _) ?_
    have : (leftStep s i).2.length ≤ s.2.length + 1 := by unfold leftStep; dsimp only; split <;> simp
    simp only [List.length_cons]
    omega
theorem leftS_pushed (l : List Int) (is : List Int) : (leftS l is).2.length ≤ is.length := by
  have := leftS_pushed' is (l, [])
  simpa [leftS] using this
theorem left_bd {L : List Int} {k q : Nat} {x : Int} (h : ∀ y ∈ L, -1000000 - (k : Int) ≤ y ∧ y ≤ 1000000) (h1 : x ≤ 1000000) (h2 : -3000000 ≤ x) {hq : q < L.length} (hx : x = L[q]) :
    ∀ y ∈ L.set q (x - 1), -1000000 - ((k + 1 : Nat) : Int) ≤ y ∧ y ≤ 1000000 := by
  intro y hy
  rcases List.mem_or_eq_of_mem_set hy with hy | rfl
  · have := h y hy; omega
  · have := h x (hx ▸ List.getElem_mem hq); omega

/-- What set leaves. -/
def setU (s : Unit1) (lit : Int) (wait : List Int) : Unit1 :=
  { val := mset s.val (varOf lit) (.int .i64 lit), held := heldS s.held (s.at_ lit), left := (leftS s.left (s.at_ (-lit))).1, at_ := s.at_, wait := wait }

def PostSet (w : World) (B : Nat) (lab : Nat → Option Lab) (U mv ma : Nat) (fv lv hv : Value) (atv : Int → Option Value) (s : Unit1) (lit : Int) (e : Ending) (w' : World) : Prop :=
  ∃ lab' wv wait, e = .returned (.tuple #[]) ∧ wait.Perm (s.wait ++ (leftS s.left (s.at_ (-lit))).2) ∧ USt w' B lab' U mv ma fv lv hv wv atv (setU s lit wait) ∧ Own lab lab' w w'

set_option maxHeartbeats 2000000 in
set_option maxRecDepth 100000 in
theorem set_any (B : Nat) (lab : Nat → Option Lab) (U mv ma : Nat) (fv lv hv wv : Value) (atv : Int → Option Value) (s : Unit1) (lit : Int) (hl : I64 lit) (hl' : -9223372036854775807 ≤ lit) (w : World)
    (h : USt w B lab U mv ma fv lv hv wv atv s) (hb : ∀ x, ∀ i ∈ s.at_ x, 0 ≤ i ∧ i < s.held.length) (hlen : s.left.length = s.held.length)
    (hbd : ∀ x ∈ s.left, -1000000 ≤ x ∧ x ≤ 1000000) (hat : ∀ x, (s.at_ x).length ≤ 1000000) (hw : s.wait.length ≤ 1000000) :
    Calls Tryd.prog 69 #[.pointer (some ⟨U, 0, none⟩), .int .i64 lit] w (PostSet w B lab U mv ma fv lv hv atv s lit) := by
  have HB := Lib.hid hb
  have HL := Lib.hid hlen
  have HBD := Lib.hid hbd
  have HAT := Lib.hid hat
  have HWL := Lib.hid hw
  have c1 : w.cell? ⟨U, 1, none⟩ = some (.map (some mv)) := h.blk.cell 1
  obtain ⟨w1, hrun, hm1, hc1⟩ := (h.ext (Ext.drew w)).mval.update (P := Tryd.prog) Tryd.underlying76 Tryd.underlying3 (varOf lit) (.int .i64 lit)
  have h1 := (h.ext (Ext.drew w)).setVal hc1 hm1
  have HO1 : Hid (Own lab lab w w1) := Lib.hid (.same (((Ext.drew w).chg _).trans (hc1.mono fun i hi => ⟨_, hi ▸ h.lmv⟩)))
  have H1 := Lib.hid h1
  have c4 : w1.cell? ⟨U, 4, none⟩ = some (.map (some ma)) := h1.blk.cell 4
  have hlk := h1.mat.lookup (P := Tryd.prog) Tryd.underlying77 Tryd.underlying3 (zeroValue_ints w1) lit
  have hrl := own_row (show w1.ownsRow B 3 1 ((atv lit).getD (.slice none 0 0)) ((s.at_ lit).map (Value.int .i64)).length ((s.at_ lit).map (Value.int .i64)) by rw [List.length_map]; exact h1.rat lit)
  rw [List.length_map] at hrl
  obtain ⟨A1, C1, hv1, hc1a, hc1b, -⟩ := hrl
  rw [hv1] at hlk
  have HV1 := Lib.hid hv1
  clear h hb hlen hm1 hc1 h1 hv1 hbd hat hw
  go_enter Tryd.func69, Tryd.ntmps69
  go_wp2
  go_still_tail 7, (by kernel_rfl)
  still_call (var_still lit hl _)
  repeat still_step
  refine wpStill_nil ?_
  change wpList _ _ _ _ _ w.drew
  go_wp2
  go_loopw [22] (fun i wr => ∃ k : Nat, k ≤ (s.at_ lit).length ∧ i = .int .i64 k ∧ Hid (USt wr B lab U mv ma fv lv hv wv atv { s with val := mset s.val (varOf lit) (.int .i64 lit), held := heldS s.held ((s.at_ lit).take k) } ∧ Own lab lab w wr)) (fun i _ => (s.at_ lit).length - (intOf i).toNat)
  case atStart => exact ⟨0, Nat.zero_le _, rfl, H1.out, HO1.out⟩
  case round =>
    obtain ⟨k, hk, rfl, HS⟩ := hrel
    by_cases hlt : k < (s.at_ lit).length
    · obtain ⟨g, c, hsv, -, hcell, -, -⟩ := own_at (Value.int .i64) (HS.out.1.rat lit) k hlt
      have hsv' := HV1.out.symm.trans hsv
      cases hsv'
      obtain ⟨hq0, hq1⟩ := HB.out lit _ (List.getElem_mem hlt)
      obtain ⟨q, hq⟩ : ∃ q : Nat, (s.at_ lit)[k] = (q : Int) := ⟨((s.at_ lit)[k]).toNat, by omega⟩
      have hhl := heldS_len s.held ((s.at_ lit).take k)
      have hqh : q < (heldS s.held ((s.at_ lit).take k)).length := by rw [hhl]; omega
      obtain ⟨gh, ch, rfl, hBh, hch, hfh, hsh⟩ := own_at Value.bool HS.out.1.rheld q hqh
      have c3 : wr.cell? ⟨U, 3, none⟩ = some (.slice (some ⟨gh, 0, none⟩) (heldS s.held ((s.at_ lit).take k)).length ch) := HS.out.1.blk.cell 3
      rw [hq] at hcell
      have HQ := Lib.hid hq
      have HSH := Lib.hid hsh
      have HHL := Lib.hid hhl
      clear hq hsv hhl hsh hq0 hq1
      go_wp2
      go_round
      case rel =>
        refine ⟨k + 1, by omega, by go_num, ?_, ?_⟩
        · have e : heldS s.held ((s.at_ lit).take (k + 1)) = (heldS s.held ((s.at_ lit).take k)).set q true := by
            rw [heldS_take _ _ _ hlt, HQ.out]; rfl
          rw [e]
          exact HS.out.1.setHeld (by have := HSH.out true; simpa using this)
        · exact HS.out.2.trans (.same ((Chg.set wr gh q _).mono fun i hi => ⟨_, hi ▸ HS.out.1.lheld gh rfl⟩))
      case measure => simp [intOf]; omega
    · obtain rfl : k = (s.at_ lit).length := by omega
      obtain ⟨hu2, ho2⟩ := HS.out
      rw [List.take_length] at hu2
      have H2 := Lib.hid hu2
      have c4' : wr.cell? ⟨U, 4, none⟩ = some (.map (some ma)) := hu2.blk.cell 4
      have hlk2 := hu2.mat.lookup (P := Tryd.prog) Tryd.underlying77 Tryd.underlying3 (zeroValue_ints wr) (-lit)
      have hrl := own_row (show wr.ownsRow B 3 1 ((atv (-lit)).getD (.slice none 0 0)) ((s.at_ (-lit)).map (Value.int .i64)).length ((s.at_ (-lit)).map (Value.int .i64)) by rw [List.length_map]; exact hu2.rat (-lit))
      rw [List.length_map] at hrl
      obtain ⟨A2, C2, hv2, hc2a, hc2b, -⟩ := hrl
      rw [hv2] at hlk2
      have HV2 := Lib.hid hv2
      clear hv2 hu2 ho2
      obtain ⟨wx, rfl⟩ : ∃ wx : World, wx = wr := ⟨_, rfl⟩
      have hl2 : lit ≤ 9223372036854775807 := hl.2
      go_wp2
      go_loopw [41] (fun i wr => ∃ k : Nat, k ≤ (s.at_ (-lit)).length ∧ i = .int .i64 k ∧ Hid (∃ lab' wv wait, wait.Perm (s.wait ++ (leftS s.left ((s.at_ (-lit)).take k)).2) ∧
        USt wr B lab' U mv ma fv lv hv wv atv { val := mset s.val (varOf lit) (.int .i64 lit), held := heldS s.held (s.at_ lit), left := (leftS s.left ((s.at_ (-lit)).take k)).1, at_ := s.at_, wait := wait } ∧ Own lab lab' w wr ∧ (∀ y ∈ (leftS s.left ((s.at_ (-lit)).take k)).1, -1000000 - (k : Int) ≤ y ∧ y ≤ 1000000))) (fun i _ => (s.at_ (-lit)).length - (intOf i).toNat)
      case atStart => exact ⟨0, Nat.zero_le _, rfl, lab, wv, s.wait, by simp [leftS], H2.out, HS.out.2, fun y hy => by have := HBD.out y (by simpa [leftS] using hy); omega⟩
      case round =>
        obtain ⟨k, hk, rfl, HS2⟩ := hrel
        by_cases hlt : k < (s.at_ (-lit)).length
        · obtain ⟨lab2, wv2, wait2, hperm, hus, hown, hyb⟩ := HS2.out
          obtain ⟨g, c, hsv, -, hcell, -, -⟩ := own_at (Value.int .i64) (hus.rat (-lit)) k hlt
          have hsv' := HV2.out.symm.trans hsv
          cases hsv'
          obtain ⟨hq0, hq1⟩ := HB.out (-lit) _ (List.getElem_mem hlt)
          obtain ⟨q, hq⟩ : ∃ q : Nat, (s.at_ (-lit))[k] = (q : Int) := ⟨((s.at_ (-lit))[k]).toNat, by omega⟩
          have htk := leftS_take s.left (s.at_ (-lit)) k hlt
          rw [hq] at htk hcell
          have hll := leftS_len s.left ((s.at_ (-lit)).take k)
          obtain ⟨⟨L, pushed⟩, hLp⟩ : ∃ p, p = leftS s.left ((s.at_ (-lit)).take k) := ⟨_, rfl⟩
          rw [← hLp] at hll htk hyb hus hperm
          dsimp only at hll htk hyb hus hperm
          have hql : q < L.length := by rw [hll, HL.out]; omega
          obtain ⟨gl, cl, rfl, hBl, hcl, hfl, hsl⟩ := own_at (Value.int .i64) hus.rleft q hql
          have c2 : wr.cell? ⟨U, 2, none⟩ = some (.slice (some ⟨gl, 0, none⟩) L.length cl) := hus.blk.cell 2
          obtain ⟨hx0, hx1⟩ := hyb _ (List.getElem_mem hql)
          obtain ⟨x, hx⟩ : ∃ x, x = L[q] := ⟨_, rfl⟩
          rw [← hx] at hcl hx0 hx1
          have hkl := HAT.out (-lit)
          have hx2 : -3000000 ≤ x := by omega
          clear hx0
          have hus2 := hus.setLeft (i := q) (b := L.set q (x - 1)) (x := .int .i64 (x - 1)) (by have := hsl (x - 1); simpa using this)
          have c2b : (wr.setCell ⟨gl, q, none⟩ (.int .i64 (x - 1))).cell? ⟨U, 2, none⟩ = some (.slice (some ⟨gl, 0, none⟩) L.length cl) := hus2.blk.cell 2
          have hstep : leftStep (L, pushed) (q : Int) = (L.set q (x - 1), if x - 1 = 1 then pushed ++ [(q : Int)] else pushed) := by
            unfold leftStep
            simp [hx, hql]
          rw [hstep] at htk
          have hBU : B ≤ (wr.setCell ⟨gl, q, none⟩ (.int .i64 (x - 1))).heap.size := Nat.le_trans (hus2.low _ _ hus2.lU).1 (Nat.le_of_lt (hus2.low _ _ hus2.lU).2)
          have hwl2 : wait2.length ≤ 100000000 := by
            have h1 := hperm.length_eq
            have h2 := leftS_pushed s.left ((s.at_ (-lit)).take k)
            rw [← hLp, List.length_take] at h2
            dsimp only at h2
            have h3 := HWL.out
            rw [List.length_append] at h1
            omega
          have HP := Lib.hid (heapPush_any U 5 81 _ B wv2 wait2 (q : Int) (wr.setCell ⟨gl, q, none⟩ (.int .i64 (x - 1))) hus2.blk (by decide) rfl hus2.rwait hBU hwl2 hus2.heap)
          have HU2 := Lib.hid hus2
          have HTK := Lib.hid htk
          have HOWN := Lib.hid (hown.trans (.same ((Chg.set wr gl q (.int .i64 (x - 1))).mono fun i hi => ⟨_, hi ▸ hus.lleft gl rfl⟩)))
          have HYB := Lib.hid hyb
          have HPERM := Lib.hid hperm
          have HX := Lib.hid hx
          clear hsv hq0 hq1 hq hll hus hperm hown hyb hsl hus2 hstep htk hx hLp hBU hwl2
          by_cases hx3 : x - 1 = 1
          · have hxb : (x - 1 == 1) = true := by simpa using hx3
            have HX3 := Lib.hid hx3
            clear hx3
            go_wp2_with (go_at_call 68; refine HP.out.mono ?_; rintro e w2 hp; obtain ⟨lab3, wv3, ys, rfl, hyp, hu3, ho3⟩ := HU2.out.push hp; have HYP := Lib.hid hyp; have HU3 := Lib.hid hu3; have HO3 := Lib.hid ho3; clear hyp hu3 ho3 hp)
            go_round
            case rel =>
              refine ⟨k + 1, by omega, by go_num, lab3, wv3, ys, ?_, ?_, HOWN.out.trans HO3.out, ?_⟩
              · rw [HTK.out, if_pos HX3.out]
                refine HYP.out.trans ?_
                have := HPERM.out.append_right [(q : Int)]
                simpa using this
              · rw [HTK.out]; exact HU3.out
              · rw [HTK.out]
                exact left_bd HYB.out hx1 hx2 HX.out
            case measure => simp [intOf]; omega
          · have hxb : (x - 1 == 1) = false := by simpa using hx3
            have HX3 := Lib.hid hx3
            clear hx3
            go_wp2
            go_round
            case rel =>
              refine ⟨k + 1, by omega, by go_num, lab2, wv2, wait2, ?_, ?_, HOWN.out, ?_⟩
              · rw [HTK.out, if_neg HX3.out]; exact HPERM.out
              · rw [HTK.out]; exact HU2.out
              · rw [HTK.out]
                exact left_bd HYB.out hx1 hx2 HX.out
            case measure => simp [intOf]; omega
        · obtain rfl : k = (s.at_ (-lit)).length := by omega
          go_wp2
          go_end0
          obtain ⟨lab2, wv2, wait2, hperm, hus, hown, hyb⟩ := HS2.out
          rw [List.take_length] at hperm hus
          exact ⟨lab2, wv2, wait2, rfl, hperm, hus, hown⟩

end Go.Proofs.YteokoaggkpjdeaaDoor
