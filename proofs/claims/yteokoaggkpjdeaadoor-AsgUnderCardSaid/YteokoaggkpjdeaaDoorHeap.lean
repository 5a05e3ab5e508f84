/- Walks of container/heap over asg.numbers. -/
import Derived.Test.YteokoaggkpjdeaaDoorUnder
import Derived.Test.YteokoaggkpjdeaaDoorHeapMath
namespace Go.Proofs.YteokoaggkpjdeaaDoor
open Go.RowKit

/-- A call through an interface value whose make is known. -/
theorem wpList_invoke {P : Program} {ops : Array Oper} {Q : Exit → Act → World → Prop} {a : Act} {w : World} {rest : List Oper} {o : Oper}
    (x : Operand) (name : String) (ys : Array Operand) (ts : Array TypeId) (ho : o.op = .call { callee := .invoke x name, args := ys, argTypes := ts }) (hw : Region.wanted o (yielded ops a.tmps) = true)
    {t : TypeId} {v : Value} (hv : a.eval x = .iface t v) {f : FuncId} {recv : Value} (hm : ∀ n, (method (n + 1) t v name).run P w = .ok (f, recv) w) (hf : Fv P f) (args : Array Value) (ha : #[recv] ++ ys.map a.eval = args)
    (h : Calls P f args w fun e w' => ∃ v, e = .returned v ∧ wpList P ops Q rest (a.put o.dst v) w') : wpList P ops Q (o :: rest) a w := by
  refine BigFrame.wpList_want hw fun K hK => ?_
  have hrun : (execOp a.eval o).run P w = .ok (.enter f args) w := by
    unfold execOp
    have hm' := hm (P.types.size + Made.depth - 1)
    have hd : P.types.size + Made.depth - 1 + 1 = P.types.size + Made.depth := by unfold Made.depth; omega
    rw [hd] at hm'
    have h1 : (#[Value.iface t v] ++ ys.map a.eval)[0]? = some (Value.iface t v) := by simp [Array.getElem?_append]
    have h2 : (#[Value.iface t v] ++ ys.map a.eval).extract 1 (#[Value.iface t v] ++ ys.map a.eval).size = ys.map a.eval := by
      apply Array.ext'
      simp
      exact List.take_of_length_le (by simp)
    have hp : (program : Sem Program).run P w = .ok P w := rfl
    simp only [ho, resolve, hv, Sem.run_bind, Sem.run_pure, Result.andThen_ok, invoke, h1, h2, callMethod, hp, hm', run_enter hf, ha]
  unfold Oper.wp
  rw [hrun, Oper.upon_enter]
  refine h.mono fun e w'' hh => ?_
  obtain ⟨v, rfl, hk⟩ := hh
  exact hK _ _ hk

theorem m_push (a : Addr) (w : World) : ∀ n, (method (n + 1) 83 (.pointer (some a)) "Push").run Tryd.prog w = .ok (153, .pointer (some a)) w := fun n => by kernel_rfl
theorem m_pop (a : Addr) (w : World) : ∀ n, (method (n + 1) 83 (.pointer (some a)) "Pop").run Tryd.prog w = .ok (152, .pointer (some a)) w := fun n => by kernel_rfl
theorem m_Len' (a : Addr) (w : World) : ∀ n, (method (n + 1) 83 (.pointer (some a)) "Len").run Tryd.prog w = (do pure (149, ← loadVar 79 a)).run Tryd.prog w := fun n => by kernel_rfl
theorem fv_Len : Fv Tryd.prog 149 := ⟨_, Tryd.func149, by kernel_rfl, by kernel_rfl⟩
theorem m_Len (a : Addr) (w : World) {A : Option Addr} {n c : Nat} (h : w.cell? a = some (.slice A n c)) : ∀ k, (method (k + 1) 83 (.pointer (some a)) "Len").run Tryd.prog w = .ok (149, .slice A n c) w := fun k => by
  rw [m_Len']
  simp [go_sem, h]
theorem m_Less' (a : Addr) (w : World) : ∀ n, (method (n + 1) 83 (.pointer (some a)) "Less").run Tryd.prog w = (do pure (150, ← loadVar 79 a)).run Tryd.prog w := fun n => by kernel_rfl
theorem fv_Less : Fv Tryd.prog 150 := ⟨_, Tryd.func150, by kernel_rfl, by kernel_rfl⟩
theorem m_Less (a : Addr) (w : World) {A : Option Addr} {n c : Nat} (h : w.cell? a = some (.slice A n c)) : ∀ k, (method (k + 1) 83 (.pointer (some a)) "Less").run Tryd.prog w = .ok (150, .slice A n c) w := fun k => by
  rw [m_Less']
  simp [go_sem, h]
theorem m_Swap' (a : Addr) (w : World) : ∀ n, (method (n + 1) 83 (.pointer (some a)) "Swap").run Tryd.prog w = (do pure (151, ← loadVar 79 a)).run Tryd.prog w := fun n => by kernel_rfl
theorem fv_Swap : Fv Tryd.prog 151 := ⟨_, Tryd.func151, by kernel_rfl, by kernel_rfl⟩
theorem m_Swap (a : Addr) (w : World) {A : Option Addr} {n c : Nat} (h : w.cell? a = some (.slice A n c)) : ∀ k, (method (k + 1) 83 (.pointer (some a)) "Swap").run Tryd.prog w = .ok (151, .slice A n c) w := fun k => by
  rw [m_Swap']
  simp [go_sem, h]
theorem fv_NPush : Fv Tryd.prog 153 := ⟨_, Tryd.func153, by kernel_rfl, by kernel_rfl⟩
theorem fv_NPop : Fv Tryd.prog 152 := ⟨_, Tryd.func152, by kernel_rfl, by kernel_rfl⟩

theorem numLen_any (A : Option Addr) (n c : Nat) (w : World) :
    Calls Tryd.prog 149 #[.slice A n c] w fun e w' => e = .returned (.int .i64 n) ∧ w = w' := by
  go_enter Tryd.func149, Tryd.ntmps149
  go_wp2
  go_ret
  exact ⟨rfl, rfl⟩

/-- The row of a slice of the call's own: its block's cells. -/
theorem own_blk {w : World} {base : Nat} {e : TypeId} {v : Value} {vs : List Value} (h : w.ownsRow base e 1 v vs.length vs) (h0 : 0 < vs.length) :
    ∃ g c cur, v = .slice (some ⟨g, 0, none⟩) vs.length c ∧ base ≤ g ∧ Blk w g e cur ∧ vs.length ≤ c ∧ c ≤ maxLen ∧ cur.length = c ∧ cur.take vs.length = vs := by
  obtain ⟨-, ⟨-, h⟩ | ⟨g, c, cur, h1, h2, h3, h4, h5, h6, h7⟩⟩ := h
  · omega
  · exact ⟨g, c, cur.toList, h1, h2, by unfold Blk; simpa using h3, h4, h5, by simpa using h6, by simpa using h7⟩

theorem blk_own {w : World} {base : Nat} {e : TypeId} {g c : Nat} {vs cur : List Value} (h2 : base ≤ g) (h3 : Blk w g e cur) (h4 : vs.length ≤ c) (h5 : c ≤ maxLen) (h6 : cur.length = c) (h7 : cur.take vs.length = vs) :
    w.ownsRow base e 1 (.slice (some ⟨g, 0, none⟩) vs.length c) vs.length vs :=
  ⟨by simp, .inr ⟨g, c, cur.toArray, rfl, h2, h3, h4, h5, by simpa using h6, by simpa using h7⟩⟩

/-- A row of 64-bit integers of the call's own, by its block. -/
def RowAt (w : World) (g c : Nat) (xs : List Int) : Prop :=
  ∃ cur, Blk w g 3 cur ∧ xs.length ≤ c ∧ c ≤ 9223372036854775807 ∧ cur.length = c ∧ cur.take xs.length = xs.map (Value.int .i64)

theorem RowAt.cell {w : World} {g c : Nat} {xs : List Int} (h : RowAt w g c xs) (i : Nat) (hi : i < xs.length) : w.cell? ⟨g, i, none⟩ = some (.int .i64 (xs.getD i 0)) := by
  obtain ⟨cur, hb, h1, h2, h3, h4⟩ := h
  rw [hb.cell]
  have := congrArg (fun l => l[i]?) h4
  simp only [List.getElem?_take, if_pos hi, List.getElem?_map, List.getElem?_eq_getElem hi] at this
  rw [this]; simp [hi]
theorem RowAt.free {w : World} {g c : Nat} {xs : List Int} (h : RowAt w g c xs) (i : Nat) : w.frozen? ⟨g, i, none⟩ = false := by
  obtain ⟨cur, hb, -⟩ := h
  exact hb.free i
theorem RowAt.set {w : World} {g c : Nat} {xs : List Int} (h : RowAt w g c xs) (i : Nat) (x : Int) : RowAt (w.setCell ⟨g, i, none⟩ (.int .i64 x)) g c (xs.set i x) := by
  obtain ⟨cur, hb, h1, h2, h3, h4⟩ := h
  refine ⟨_, hb.set i _, by simpa using h1, h2, by simpa using h3, ?_⟩
  rw [List.length_set, List.take_set, h4, List.map_set]
theorem RowAt.ext {w w' : World} {g c : Nat} {xs : List Int} (h : RowAt w g c xs) (k : Ext w w') : RowAt w' g c xs := by
  obtain ⟨cur, hb, h1⟩ := h
  exact ⟨cur, hb.ext k, h1⟩

set_option maxHeartbeats 400000 in
theorem numLess_any (g c : Nat) (xs : List Int) (i j : Nat) (hi : i < xs.length) (hj : j < xs.length) (w : World) (hr : RowAt w g c xs) :
    Calls Tryd.prog 150 #[.slice (some ⟨g, 0, none⟩) xs.length c, .int .i64 i, .int .i64 j] w fun e w' => e = .returned (.bool (decide (xs.getD i 0 < xs.getD j 0))) ∧ ∃ n, w' = w.drewN n := by
  have c1 := hr.cell i hi
  have c2 := hr.cell j hj
  have i0 : (0 : Int) ≤ i := by omega
  have i1 : (i : Int) < xs.length := by omega
  have j0 : (0 : Int) ≤ j := by omega
  have j1 : (j : Int) < xs.length := by omega
  clear hr
  go_enter Tryd.func150, Tryd.ntmps150
  go_wp2
  go_quiet (fail)
  go_wp2
  go_ret
  exact ⟨ret_bool (by simp [hi, hj]), _, rfl⟩

set_option maxHeartbeats 1000000 in
theorem numSwap_any (g c : Nat) (xs : List Int) (i j : Nat) (hi : i < xs.length) (hj : j < xs.length) (w : World) (hr : RowAt w g c xs) :
    Calls Tryd.prog 151 #[.slice (some ⟨g, 0, none⟩) xs.length c, .int .i64 i, .int .i64 j] w fun e w' => e = .returned (.tuple #[]) ∧ RowAt w' g c (swp xs i j) ∧ Upd g w w' := by
  have c1 := hr.cell i hi
  have c2 := hr.cell j hj
  have f1 := hr.free i
  have f2 := hr.free j
  have i0 : (0 : Int) ≤ i := by omega
  have i1 : (i : Int) < xs.length := by omega
  have j0 : (0 : Int) ≤ j := by omega
  have j1 : (j : Int) < xs.length := by omega
  have HR := Lib.hid hr
  obtain ⟨u, hu⟩ : ∃ u, (w.setCell ⟨g, i, none⟩ (.int .i64 xs[j])).cell? ⟨g, j, none⟩ = some u := ⟨_, (hr.set i xs[j]).cell j (by simpa using hj)⟩
  clear hr
  go_enter Tryd.func151, Tryd.ntmps151
  go_wp2
  go_region
  go_end0
  refine ⟨rfl, ?_, ?_⟩
  · have := (((HR.out.set i (xs.getD j 0)).set j (xs.getD i 0)).ext (Ext.drew _))
    simpa [swp, hi, hj] using this
  · exact ((Upd.set w g i _).trans (Upd.set _ g j _)).trans ((Ext.drew _).upd g)

theorem own_blk_ne {w : World} {U : Nat} {eU e : TypeId} {cells : List Value} {B size n : Nat} {v : Value} {vs : List Value} (hU : Blk w U eU cells) (h : w.ownsRow B e size v n vs) (hne : eU ≠ e) : ¬ some U = v.ownBlock := fun he => by
  obtain ⟨-, -, cur, h2⟩ := own_typed h he.symm
  unfold Blk at hU
  rw [hU] at h2
  injection h2 with h2
  injection h2 with _ h2
  exact hne h2

/-- What Push of one number does to the slice behind a pointer into block U. -/
def PostNPush (w : World) (U off : Nat) (eU : TypeId) (cells : List Value) (B : Nat) (v : Value) (xs : List Int) (n : Int) (e : Ending) (w' : World) : Prop :=
  ∃ g c, e = .returned (.tuple #[]) ∧ Blk w' U eU (cells.set off (.slice (some ⟨g, 0, none⟩) (xs.length + 1) c)) ∧ B ≤ g ∧ (v.ownBlock = some g ∨ w.heap.size ≤ g) ∧ RowAt w' g c (xs ++ [n]) ∧
    Chg (fun k => k = U ∨ some k = v.ownBlock) w w'

theorem own_rowAt {w : World} {base g c n : Nat} {xs : List Int} {vs : List Value} (hv : vs = xs.map (Value.int .i64)) (hn : n = xs.length) (h : w.ownsRow base 3 1 (.slice (some ⟨g, 0, none⟩) n c) n vs) : RowAt w g c xs ∧ base ≤ g := by
  subst hv hn
  obtain ⟨-, ⟨h, -⟩ | ⟨g', c', cur, h1, h2, h3, h4, h5, h6, h7⟩⟩ := h
  · cases h
  · cases h1
    exact ⟨⟨cur.toList, by unfold Blk; simpa using h3, h4, by unfold maxLen at h5; omega, by simpa using h6, by simpa using h7⟩, h2⟩

theorem ta_int (n : Int) : ∀ w, (Instr.typeAssert (.iface 3 (.int .i64 n)) 20 3 false).run Tryd.prog w = .ok (.int .i64 n) w := fun _ => by kernel_rfl

set_option maxHeartbeats 1000000 in
theorem numPush_any (U off : Nat) (eU : TypeId) (cells : List Value) (B : Nat) (v : Value) (xs : List Int) (n : Int) (w : World) (hU : Blk w U eU cells) (hne : eU ≠ 3) (hv : cells[off]? = some v)
    (hown : w.ownsRow B 3 1 v xs.length (xs.map (Value.int .i64))) (hB : B ≤ w.heap.size) (hl : xs.length ≤ 1000000000) :
    Calls Tryd.prog 153 #[.pointer (some ⟨U, off, none⟩), .iface 3 (.int .i64 n)] w (PostNPush w U off eU cells B v xs n) := by
  have c1 : w.cell? ⟨U, off, none⟩ = some v := by rw [hU.cell]; exact hv
  have c2 : (w.alloc (.cells #[.int .i64 n] 3)).cell? ⟨U, off, none⟩ = some v := by rw [(hU.ext (Ext.alloc w _)).cell]; exact hv
  have HV := Lib.hid hv
  have HU := Lib.hid hU
  have HO := Lib.hid hown
  obtain ⟨A, c, rfl, -⟩ := own_row (show w.ownsRow B 3 1 v (xs.map (Value.int .i64)).length (xs.map (Value.int .i64)) by rw [List.length_map]; exact hown)
  rw [List.length_map] at *
  obtain ⟨i0, hi, hz0, hz1, hz2⟩ := info_parts info_int
  have HI := Lib.hid hi
  have HZ := Lib.hid hz0
  have HZ1 := Lib.hid hz1
  have HZ2 := Lib.hid hz2
  have HNE := Lib.hid hne
  clear hi hz0 hz1 hz2 hU hown hv hne
  have hta := ta_int n
  go_enter Tryd.func153, Tryd.ntmps153
  go_wp2
  go_region_law ((
    refine step_append_lies _ rfl (.tmp 7) (.tmp 10) 79 rfl B 3 i0 (.int .i64 0) 1 8 Tryd.underlying79 HI.out HZ.out HZ1.out HZ2.out rfl (by decide) (.slice A xs.length c) xs.length (xs.map (Value.int .i64)) rfl ?c1 ⟨w.heap.size, 0, none⟩ 1 1 [.int .i64 n] rfl rfl ?c2 (by simp [Value.oneCell']) (by omega) (by unfold maxLen; omega) (by omega) (by simp; omega) (w.heap.size + 1) (by simp) ?_
    case c1 => exact own_ext HO.out ((Ext.alloc w _).trans (Ext.drew _))
    case c2 => exact one_cell w _ _
    intro g cap w1 hown hgrow hat hlt
    have HOWN := Lib.hid hown
    have HGR := Lib.hid ((((Ext.alloc w _).trans (Ext.drew _)).chg _).trans (grown_chg hgrow))
    have HAT := Lib.hid hat
    have HUB := Lib.hid (HGR.out.blk HU.out (own_blk_ne HU.out HO.out HNE.out))
    have c3 : w1.cell? ⟨U, off, none⟩ = some (.slice A xs.length c) := by rw [HUB.out.cell]; exact HV.out
    have f3 := HUB.out.free off
    clear hown hgrow hat hlt))
  all_goals
    go_wp2
    go_end0
    obtain ⟨hr, hb⟩ := own_rowAt (xs := xs ++ [n]) (by simp) (by simp) HOWN.out
    refine ⟨g, cap, rfl, HUB.out.set off _, hb, ?_, ?_, ?_⟩
    · exact HAT.out.imp id (fun h => by omega)
    · obtain ⟨cur, h1, h2⟩ := hr
      have hgU : g ≠ U := fun e => by
        subst e
        have := HUB.out
        unfold Blk at this h1
        rw [this] at h1
        injection h1 with h1
        injection h1 with _ h1
        exact HNE.out h1
      exact ⟨cur, (Chg.set w1 U off _).blk h1 hgU, h2⟩
    · exact (HGR.out.mono fun i h => .inr h).trans ((Chg.set w1 U off _).mono fun i h => .inl h)

/-- A heap of numbers behind a pointer into block U: the block, the slice in it, its row. -/
structure HpS (w : World) (U off : Nat) (eU : TypeId) (cells : List Value) (g c : Nat) (xs : List Int) : Prop where
  blk : Blk w U eU cells
  val : cells[off]? = some (.slice (some ⟨g, 0, none⟩) xs.length c)
  row : RowAt w g c xs
  ne : eU ≠ 3

theorem HpS.neq {w : World} {U off : Nat} {eU : TypeId} {cells : List Value} {g c : Nat} {xs : List Int} (h : HpS w U off eU cells g c xs) : U ≠ g := fun e => by
  obtain ⟨cur, h1, -⟩ := h.row
  have h2 := h.blk
  subst e
  unfold Blk at h1 h2
  rw [h1] at h2
  injection h2 with h2
  injection h2 with _ h2
  exact h.ne h2.symm
theorem HpS.cell {w : World} {U off : Nat} {eU : TypeId} {cells : List Value} {g c : Nat} {xs : List Int} (h : HpS w U off eU cells g c xs) : w.cell? ⟨U, off, none⟩ = some (.slice (some ⟨g, 0, none⟩) xs.length c) := by
  rw [h.blk.cell]; exact h.val
theorem HpS.upd {w w' : World} {U off : Nat} {eU : TypeId} {cells : List Value} {g c : Nat} {xs ys : List Int} (h : HpS w U off eU cells g c xs) (k : Upd g w w') (hr : RowAt w' g c ys) (hl : ys.length = xs.length) : HpS w' U off eU cells g c ys :=
  ⟨k.chg.blk h.blk h.neq, by rw [hl]; exact h.val, hr, h.ne⟩
theorem HpS.ext {w w' : World} {U off : Nat} {eU : TypeId} {cells : List Value} {g c : Nat} {xs : List Int} (h : HpS w U off eU cells g c xs) (k : Ext w w') : HpS w' U off eU cells g c xs :=
  ⟨h.blk.ext k, h.val, h.row.ext k, h.ne⟩

def PostNPop (w : World) (U off : Nat) (eU : TypeId) (cells : List Value) (g c : Nat) (xs : List Int) (x : Int) (e : Ending) (w' : World) : Prop :=
  e = .returned (.iface 3 (.int .i64 x)) ∧ HpS w' U off eU (cells.set off (.slice (some ⟨g, 0, none⟩) xs.length c)) g c xs ∧ Chg (fun k => k = U) w w'

set_option maxHeartbeats 1000000 in
theorem numPop_any (U off : Nat) (eU : TypeId) (cells : List Value) (g c : Nat) (xs : List Int) (x : Int) (w : World) (h : HpS w U off eU cells g c (xs ++ [x])) (hl : xs.length ≤ 1000000000) :
    Calls Tryd.prog 152 #[.pointer (some ⟨U, off, none⟩)] w (PostNPop w U off eU cells g c xs x) := by
  have H := Lib.hid h
  have c1 := h.cell
  have c2 := h.row.cell xs.length (by simp)
  rw [List.getD_eq_getElem?_getD, List.getElem?_append_right (Nat.le_refl _)] at c2
  simp only [Nat.sub_self, List.getElem?_cons_zero, Option.getD_some] at c2
  rw [List.length_append, List.length_cons, List.length_nil] at c1
  have f1 := h.blk.free off
  obtain ⟨cur, -, hcl, hcm, -⟩ := h.row
  rw [List.length_append, List.length_cons, List.length_nil] at hcl
  have hsl := slice_to Tryd.underlying79 info_int (some ⟨g, 0, none⟩) (xs.length + (0 + 1)) c xs.length (by omega)
  clear h
  go_enter Tryd.func152, Tryd.ntmps152
  go_wp2
  go_ret
  have hb := H.out
  refine ⟨rfl, ⟨hb.blk.set off _, ?_, ?_, hb.ne⟩, Chg.set w U off _⟩
  · have : off < cells.length := (List.getElem?_eq_some_iff.1 hb.val).1
    simp [this]
  · obtain ⟨cur, h1, h2, h3, h4, h5⟩ := hb.row
    refine ⟨cur, (Chg.set w U off _).blk h1 (fun e => hb.neq e.symm), by simp at h2; omega, h3, h4, ?_⟩
    have := congrArg (List.take xs.length) h5
    rw [List.take_take, List.map_append, List.take_append_of_le_length (by simp), List.take_of_length_le (l := xs.map (Value.int .i64)) (by simp)] at this
    simpa using this

def PostUp (w : World) (g c : Nat) (xs : List Int) (e : Ending) (w' : World) : Prop :=
  ∃ ys : List Int, e = .returned (.tuple #[]) ∧ ys.Perm xs ∧ HeapOn ys xs.length ∧ RowAt w' g c ys ∧ Upd g w w'

set_option maxHeartbeats 1000000 in
theorem up_any (U off : Nat) (eU : TypeId) (cells : List Value) (g c : Nat) (xs : List Int) (j : Nat) (w : World) (h : HpS w U off eU cells g c xs) (hj : j < xs.length) (hu : HeapUp xs xs.length j) (hl : xs.length ≤ 1000000000) :
    Calls Tryd.prog 90 #[.iface 83 (.pointer (some ⟨U, off, none⟩)), .int .i64 j] w (PostUp w g c xs) := by
  have H := Lib.hid h
  have HU := Lib.hid hu
  clear h hu
  go_enter Tryd.func90, Tryd.ntmps90
  go_wp2
  go_loopw [1] (fun i wr => ∃ (k : Nat) (ys : List Int), k < xs.length ∧ i = .int .i64 k ∧ Hid (ys.Perm xs ∧ HeapUp ys xs.length k ∧ RowAt wr g c ys ∧ Upd g w wr)) (fun i _ => (intOf i).toNat)
  case atStart => exact ⟨j, xs, hj, rfl, List.Perm.refl _, HU.out, H.out.row, Upd.refl _ _⟩
  case round =>
    obtain ⟨k, ys, hk, rfl, HS⟩ := hrel
    by_cases hk0 : k = 0
    · subst hk0
      go_wp2
      go_end0
      exact ⟨ys, rfl, HS.out.1, HS.out.2.1.done (fun h => absurd h (Nat.lt_irrefl 0)), HS.out.2.2.1, HS.out.2.2.2⟩
    · obtain ⟨p, hp⟩ : ∃ p, p = par k := ⟨_, rfl⟩
      have hp1 : p < k := by rw [hp]; exact par_lt (by omega)
      have hp2 : (p : Int) = ((k : Int) - 1) / 2 := by rw [hp]; unfold par; omega
      have hpk : ((((k : Nat) : Int) - 1) / 2 == ((k : Nat) : Int)) = false := by simp; omega
      have hst := HS.out.1.length_eq
      have hss : HpS wr U off eU cells g c ys := H.out.upd HS.out.2.2.2 HS.out.2.2.1 hst
      have hc := hss.cell
      have HLE := Lib.hid (numLess_any g c ys k p (by omega) (by omega) wr hss.row)
      have HSW := Lib.hid (fun n => numSwap_any g c ys p k (by omega) (by omega) (wr.drewN n) (hss.ext (Ext.drewN wr n)).row)
      rw [hp2] at HLE HSW
      have HSS := Lib.hid hss
      have HST := Lib.hid hst
      have HPP := Lib.hid hp
      have HP2 := Lib.hid hp2
      clear hss hst hp2 hp
      by_cases hlt : ys.getD k 0 < ys.getD p 0
      · have hlb : decide (ys.getD k 0 < ys.getD p 0) = true := by simpa using hlt
        have HLT := Lib.hid hlt
        rw [hlb] at HLE
        clear hlt hlb
        go_wp2_with (first
          | ((with_reducible refine at_dst 15 rfl ?_); refine wpList_invoke (.tmp 12) "Less" #[.tmp 13, .tmp 14] _ rfl (by rfl) rfl (m_Less ⟨U, off, none⟩ wr hc) fv_Less #[.slice (some ⟨g, 0, none⟩) ys.length c, .int .i64 k, .int .i64 (((k : Int) - 1) / 2)] (by simp only [List.map_toArray, List.map_cons, List.map_nil, List.append_toArray, List.cons_append, List.nil_append]; rfl) ?_; refine HLE.out.mono ?_; rintro e w2 ⟨rfl, n, rfl⟩; refine ⟨_, rfl, ?_⟩; simp only [Act.put, List.setIfInBounds_toArray, List.set_cons_zero, List.set_cons_succ])
          | ((with_reducible refine at_dst 21 rfl ?_); refine wpList_invoke (.tmp 18) "Swap" #[.tmp 19, .tmp 20] _ rfl (by rfl) rfl (m_Swap ⟨U, off, none⟩ _ (HSS.out.ext (Ext.drewN wr n)).cell) fv_Swap #[.slice (some ⟨g, 0, none⟩) ys.length c, .int .i64 (((k : Int) - 1) / 2), .int .i64 k] (by simp only [List.map_toArray, List.map_cons, List.map_nil, List.append_toArray, List.cons_append, List.nil_append]; rfl) ?_; refine (HSW.out n).mono ?_; rintro e w3 ⟨rfl, hr3, hu3⟩; have HR3 := Lib.hid hr3; have HU3 := Lib.hid hu3; clear hr3 hu3; refine ⟨_, rfl, ?_⟩; simp only [Act.put, List.setIfInBounds_toArray, List.set_cons_zero, List.set_cons_succ]))
        go_round
        case rel =>
          refine ⟨p, swp ys p k, by omega, by rw [HP2.out], ?_, ?_, HR3.out, (HS.out.2.2.2.trans ((Ext.drewN _ _).upd g)).trans HU3.out⟩
          · exact (swp_perm ys (by have := HST.out; omega) (by have := HST.out; omega)).trans HS.out.1
          · have := HS.out.2.1.step (by have := HST.out; omega) hk (by omega) (by rw [← HPP.out]; exact HLT.out)
            rwa [← HPP.out] at this
        case measure => simp [intOf]; omega
      · have hlb : decide (ys.getD k 0 < ys.getD p 0) = false := by simpa using hlt
        have HLT := Lib.hid hlt
        rw [hlb] at HLE
        clear hlt hlb
        go_wp2_with ((with_reducible refine at_dst 15 rfl ?_); refine wpList_invoke (.tmp 12) "Less" #[.tmp 13, .tmp 14] _ rfl (by rfl) rfl (m_Less ⟨U, off, none⟩ wr hc) fv_Less #[.slice (some ⟨g, 0, none⟩) ys.length c, .int .i64 k, .int .i64 (((k : Int) - 1) / 2)] (by simp only [List.map_toArray, List.map_cons, List.map_nil, List.append_toArray, List.cons_append, List.nil_append]; rfl) ?_; refine HLE.out.mono ?_; rintro e w2 ⟨rfl, n, rfl⟩; refine ⟨_, rfl, ?_⟩; simp only [Act.put, List.setIfInBounds_toArray, List.set_cons_zero, List.set_cons_succ])
        go_end0
        refine ⟨ys, rfl, HS.out.1, HS.out.2.1.done (fun _ => ?_), HS.out.2.2.1.ext (Ext.drewN _ _), HS.out.2.2.2.trans ((Ext.drewN _ _).upd g)⟩
        rw [← HPP.out]
        have := HLT.out
        omega

theorem numLess_ext (g c : Nat) (xs : List Int) (i j : Nat) (hi : i < xs.length) (hj : j < xs.length) (w : World) (hr : RowAt w g c xs) :
    Calls Tryd.prog 150 #[.slice (some ⟨g, 0, none⟩) xs.length c, .int .i64 i, .int .i64 j] w fun e w' => e = .returned (.bool (decide (xs.getD i 0 < xs.getD j 0))) ∧ Ext w w' :=
  (numLess_any g c xs i j hi hj w hr).mono fun _ _ ⟨h1, n, h2⟩ => ⟨h1, h2 ▸ Ext.drewN w n⟩

/-- The place of the lesser child. -/
theorem child_cases {k q : Nat} (h0 : 0 < q) (hp : par q = k) : q = 2 * k + 1 ∨ q = 2 * k + 2 := by unfold par at hp; omega

def PostDown (w : World) (g c : Nat) (xs : List Int) (n : Nat) (e : Ending) (w' : World) : Prop :=
  ∃ (ys : List Int) (b : Bool), e = .returned (.bool b) ∧ ys.Perm xs ∧ HeapOn ys n ∧ (∀ q, n ≤ q → ys.getD q 0 = xs.getD q 0) ∧ RowAt w' g c ys ∧ Upd g w w'

set_option maxHeartbeats 4000000 in
theorem down_any (U off : Nat) (eU : TypeId) (cells : List Value) (g c : Nat) (xs : List Int) (n : Nat) (w : World) (h : HpS w U off eU cells g c xs) (hn : n ≤ xs.length) (hu : HeapDn xs n 0) (hl : xs.length ≤ 1000000000) :
    Calls Tryd.prog 91 #[.iface 83 (.pointer (some ⟨U, off, none⟩)), .int .i64 0, .int .i64 n] w (PostDown w g c xs n) := by
  have H := Lib.hid h
  have HU := Lib.hid hu
  clear h hu
  go_enter Tryd.func91, Tryd.ntmps91
  go_wp2
  go_loopw [7] (fun i wr => ∃ (k : Nat) (ys : List Int), k ≤ n ∧ i = .int .i64 k ∧ Hid (ys.Perm xs ∧ HeapDn ys n k ∧ (∀ q, n ≤ q → ys.getD q 0 = xs.getD q 0) ∧ RowAt wr g c ys ∧ Upd g w wr)) (fun i _ => n - (intOf i).toNat)
  case atStart => exact ⟨0, xs, Nat.zero_le _, rfl, List.Perm.refl _, HU.out, fun _ _ => rfl, H.out.row, Upd.refl _ _⟩
  case round =>
    obtain ⟨k, ys, hk, rfl, HS⟩ := hrel
    by_cases h1 : 2 * k + 1 < n
    · have hst := HS.out.1.length_eq
      have hss : HpS wr U off eU cells g c ys := H.out.upd HS.out.2.2.2.2 HS.out.2.2.2.1 hst
      have HSS := Lib.hid hss
      have HST := Lib.hid hst
      have HL1 := Lib.hid (fun (w' : World) (hw : Ext wr w') => numLess_ext g c ys (2 * k + 1) k (by omega) (by omega) w' (hss.ext hw).row)
      have hge : decide (((n : Nat) : Int) ≤ 2 * (k : Int) + 1) = false := by simp; omega
      have hlz : decide (2 * (k : Int) + 1 < 0) = false := by simp; omega
      by_cases h2 : 2 * k + 2 < n
      · have h2b : decide (2 * (k : Int) + 1 + 1 < ((n : Nat) : Int)) = true := by simp; omega
        have HL21 := Lib.hid (numLess_ext g c ys (2 * k + 2) (2 * k + 1) (by omega) (by omega) wr hss.row)
        have HL2 := Lib.hid (fun (w' : World) (hw : Ext wr w') => numLess_ext g c ys (2 * k + 2) k (by omega) (by omega) w' (hss.ext hw).row)
        clear hss hst
        by_cases h3 : ys.getD (2 * k + 2) 0 < ys.getD (2 * k + 1) 0
        · have h3b : decide (ys.getD (2 * k + 2) 0 < ys.getD (2 * k + 1) 0) = true := by simpa using h3
          rw [h3b] at HL21
          have H3 := Lib.hid h3
          clear h3 h3b
          by_cases h4 : ys.getD (2 * k + 2) 0 < ys.getD k 0
          · have h4b : decide (ys.getD (2 * k + 2) 0 < ys.getD k 0) = true := by simpa using h4
            have HSW := Lib.hid (fun (w' : World) (hw : Ext wr w') => numSwap_any g c ys k (2 * k + 2) (by have := HST.out; omega) (by have := HST.out; omega) w' (HSS.out.ext hw).row)
            have HC := HL2.out
            rw [h4b] at HC
            have HCC := Lib.hid HC
            have H4 := Lib.hid h4
            have hje : ((2 * k + 2 : Nat) : Int) = 2 * (k : Int) + 1 + 1 := by omega
            rw [hje] at HCC HSW
            have hje1 : ((2 * k + 1 : Nat) : Int) = 2 * (k : Int) + 1 := by omega
            have hje2 : ((2 * k + 2 : Nat) : Int) = 2 * (k : Int) + 1 + 1 := by omega
            have HL21' := HL21.out
            rw [hje1, hje2] at HL21'
            have HL21 := Lib.hid HL21'
            clear HL21' hje1 hje2
            have HJE := Lib.hid hje
            clear h4 h4b HC hje
            go_wp2_with (first
              | ((with_reducible refine at_dst 32 rfl ?_); refine wpList_invoke (.tmp 29) "Less" #[.tmp 30, .tmp 31] _ rfl (by rfl) rfl (m_Less ⟨U, off, none⟩ _ HSS.out.cell) fv_Less #[.slice (some ⟨g, 0, none⟩) ys.length c, .int .i64 (2 * (k : Int) + 1 + 1), .int .i64 (2 * (k : Int) + 1)] (by simp only [List.map_toArray, List.map_cons, List.map_nil, List.append_toArray, List.cons_append, List.nil_append]; rfl) ?_; refine HL21.out.mono ?_; rintro e w2 ⟨rfl, hE⟩; have HE_w2 := Lib.hid (hE); clear hE; refine ⟨_, rfl, ?_⟩; simp only [Act.put, List.setIfInBounds_toArray, List.set_cons_zero, List.set_cons_succ])
              | ((with_reducible refine at_dst 38 rfl ?_); refine wpList_invoke (.tmp 35) "Less" #[.tmp 36, .tmp 37] _ rfl (by rfl) rfl (m_Less ⟨U, off, none⟩ _ (HSS.out.ext HE_w2.out).cell) fv_Less #[.slice (some ⟨g, 0, none⟩) ys.length c, .int .i64 (2 * (k : Int) + 1 + 1), .int .i64 ((k : Int))] (by simp only [List.map_toArray, List.map_cons, List.map_nil, List.append_toArray, List.cons_append, List.nil_append]; rfl) ?_; refine (HCC.out _ HE_w2.out).mono ?_; rintro e w3 ⟨rfl, hE⟩; have HE_w3 := Lib.hid (HE_w2.out.trans hE); clear hE; refine ⟨_, rfl, ?_⟩; simp only [Act.put, List.setIfInBounds_toArray, List.set_cons_zero, List.set_cons_succ])
              | ((with_reducible refine at_dst 43 rfl ?_); refine wpList_invoke (.tmp 40) "Swap" #[.tmp 41, .tmp 42] _ rfl (by rfl) rfl (m_Swap ⟨U, off, none⟩ _ (HSS.out.ext HE_w3.out).cell) fv_Swap #[.slice (some ⟨g, 0, none⟩) ys.length c, .int .i64 ((k : Int)), .int .i64 (2 * (k : Int) + 1 + 1)] (by simp only [List.map_toArray, List.map_cons, List.map_nil, List.append_toArray, List.cons_append, List.nil_append]; rfl) ?_; refine (HSW.out _ HE_w3.out).mono ?_; rintro e w4 ⟨rfl, hr, hu⟩; have HR := Lib.hid hr; have HU := Lib.hid hu; clear hr hu; refine ⟨_, rfl, ?_⟩; simp only [Act.put, List.setIfInBounds_toArray, List.set_cons_zero, List.set_cons_succ]))
            go_round
            case rel =>
              refine ⟨2 * k + 2, swp ys k (2 * k + 2), by omega, by rw [HJE.out], (swp_perm ys (by have := HST.out; omega) (by have := HST.out; omega)).trans HS.out.1, ?_, ?_, HR.out, (HS.out.2.2.2.2.trans (HE_w3.out.upd g)).trans HU.out⟩
              · exact HS.out.2.1.step (by have := HST.out; omega) (by omega) (by omega) (by unfold par; omega) H4.out (fun q q0 qn qp => by rcases child_cases q0 qp with rfl | rfl <;> (have := H3.out; omega))
              · intro q hq
                rw [swp_get ys (by have := HST.out; omega) (by have := HST.out; omega), if_neg (by omega), if_neg (by omega)]
                exact HS.out.2.2.1 q hq
            case measure => simp [intOf]; omega
          · have h4b : decide (ys.getD (2 * k + 2) 0 < ys.getD k 0) = false := by simpa using h4
            have HC := HL2.out
            rw [h4b] at HC
            have HCC := Lib.hid HC
            have H4 := Lib.hid h4
            have hje : ((2 * k + 2 : Nat) : Int) = 2 * (k : Int) + 1 + 1 := by omega
            rw [hje] at HCC
            have hje1 : ((2 * k + 1 : Nat) : Int) = 2 * (k : Int) + 1 := by omega
            have hje2 : ((2 * k + 2 : Nat) : Int) = 2 * (k : Int) + 1 + 1 := by omega
            have HL21' := HL21.out
            rw [hje1, hje2] at HL21'
            have HL21 := Lib.hid HL21'
            clear HL21' hje1 hje2
            have HJE := Lib.hid hje
            clear h4 h4b HC hje
            go_wp2_with (first
              | ((with_reducible refine at_dst 32 rfl ?_); refine wpList_invoke (.tmp 29) "Less" #[.tmp 30, .tmp 31] _ rfl (by rfl) rfl (m_Less ⟨U, off, none⟩ _ HSS.out.cell) fv_Less #[.slice (some ⟨g, 0, none⟩) ys.length c, .int .i64 (2 * (k : Int) + 1 + 1), .int .i64 (2 * (k : Int) + 1)] (by simp only [List.map_toArray, List.map_cons, List.map_nil, List.append_toArray, List.cons_append, List.nil_append]; rfl) ?_; refine HL21.out.mono ?_; rintro e w2 ⟨rfl, hE⟩; have HE_w2 := Lib.hid (hE); clear hE; refine ⟨_, rfl, ?_⟩; simp only [Act.put, List.setIfInBounds_toArray, List.set_cons_zero, List.set_cons_succ])
              | ((with_reducible refine at_dst 38 rfl ?_); refine wpList_invoke (.tmp 35) "Less" #[.tmp 36, .tmp 37] _ rfl (by rfl) rfl (m_Less ⟨U, off, none⟩ _ (HSS.out.ext HE_w2.out).cell) fv_Less #[.slice (some ⟨g, 0, none⟩) ys.length c, .int .i64 (2 * (k : Int) + 1 + 1), .int .i64 ((k : Int))] (by simp only [List.map_toArray, List.map_cons, List.map_nil, List.append_toArray, List.cons_append, List.nil_append]; rfl) ?_; refine (HCC.out _ HE_w2.out).mono ?_; rintro e w3 ⟨rfl, hE⟩; have HE_w3 := Lib.hid (HE_w2.out.trans hE); clear hE; refine ⟨_, rfl, ?_⟩; simp only [Act.put, List.setIfInBounds_toArray, List.set_cons_zero, List.set_cons_succ]))
            go_ret
            refine ⟨ys, _, rfl, HS.out.1, HS.out.2.1.done (fun q q0 qn qp => ?_), HS.out.2.2.1, HS.out.2.2.2.1.ext HE_w3.out, HS.out.2.2.2.2.trans (HE_w3.out.upd g)⟩
            have hm : ys.getD (2 * k + 2) 0 ≤ ys.getD q 0 := by rcases child_cases q0 qp with rfl | rfl <;> (have := H3.out; omega)
            have := H4.out
            omega
        · have h3b : decide (ys.getD (2 * k + 2) 0 < ys.getD (2 * k + 1) 0) = false := by simpa using h3
          rw [h3b] at HL21
          have H3 := Lib.hid h3
          clear h3 h3b
          by_cases h4 : ys.getD (2 * k + 1) 0 < ys.getD k 0
          · have h4b : decide (ys.getD (2 * k + 1) 0 < ys.getD k 0) = true := by simpa using h4
            have HSW := Lib.hid (fun (w' : World) (hw : Ext wr w') => numSwap_any g c ys k (2 * k + 1) (by have := HST.out; omega) (by have := HST.out; omega) w' (HSS.out.ext hw).row)
            have HC := HL1.out
            rw [h4b] at HC
            have HCC := Lib.hid HC
            have H4 := Lib.hid h4
            have hje : ((2 * k + 1 : Nat) : Int) = 2 * (k : Int) + 1 := by omega
            rw [hje] at HCC HSW
            have hje1 : ((2 * k + 1 : Nat) : Int) = 2 * (k : Int) + 1 := by omega
            have hje2 : ((2 * k + 2 : Nat) : Int) = 2 * (k : Int) + 1 + 1 := by omega
            have HL21' := HL21.out
            rw [hje1, hje2] at HL21'
            have HL21 := Lib.hid HL21'
            clear HL21' hje1 hje2
            have HJE := Lib.hid hje
            clear h4 h4b HC hje
            go_wp2_with (first
              | ((with_reducible refine at_dst 32 rfl ?_); refine wpList_invoke (.tmp 29) "Less" #[.tmp 30, .tmp 31] _ rfl (by rfl) rfl (m_Less ⟨U, off, none⟩ _ HSS.out.cell) fv_Less #[.slice (some ⟨g, 0, none⟩) ys.length c, .int .i64 (2 * (k : Int) + 1 + 1), .int .i64 (2 * (k : Int) + 1)] (by simp only [List.map_toArray, List.map_cons, List.map_nil, List.append_toArray, List.cons_append, List.nil_append]; rfl) ?_; refine HL21.out.mono ?_; rintro e w2 ⟨rfl, hE⟩; have HE_w2 := Lib.hid (hE); clear hE; refine ⟨_, rfl, ?_⟩; simp only [Act.put, List.setIfInBounds_toArray, List.set_cons_zero, List.set_cons_succ])
              | ((with_reducible refine at_dst 38 rfl ?_); refine wpList_invoke (.tmp 35) "Less" #[.tmp 36, .tmp 37] _ rfl (by rfl) rfl (m_Less ⟨U, off, none⟩ _ (HSS.out.ext HE_w2.out).cell) fv_Less #[.slice (some ⟨g, 0, none⟩) ys.length c, .int .i64 (2 * (k : Int) + 1), .int .i64 ((k : Int))] (by simp only [List.map_toArray, List.map_cons, List.map_nil, List.append_toArray, List.cons_append, List.nil_append]; rfl) ?_; refine (HCC.out _ HE_w2.out).mono ?_; rintro e w3 ⟨rfl, hE⟩; have HE_w3 := Lib.hid (HE_w2.out.trans hE); clear hE; refine ⟨_, rfl, ?_⟩; simp only [Act.put, List.setIfInBounds_toArray, List.set_cons_zero, List.set_cons_succ])
              | ((with_reducible refine at_dst 43 rfl ?_); refine wpList_invoke (.tmp 40) "Swap" #[.tmp 41, .tmp 42] _ rfl (by rfl) rfl (m_Swap ⟨U, off, none⟩ _ (HSS.out.ext HE_w3.out).cell) fv_Swap #[.slice (some ⟨g, 0, none⟩) ys.length c, .int .i64 ((k : Int)), .int .i64 (2 * (k : Int) + 1)] (by simp only [List.map_toArray, List.map_cons, List.map_nil, List.append_toArray, List.cons_append, List.nil_append]; rfl) ?_; refine (HSW.out _ HE_w3.out).mono ?_; rintro e w4 ⟨rfl, hr, hu⟩; have HR := Lib.hid hr; have HU := Lib.hid hu; clear hr hu; refine ⟨_, rfl, ?_⟩; simp only [Act.put, List.setIfInBounds_toArray, List.set_cons_zero, List.set_cons_succ]))
            go_round
            case rel =>
              refine ⟨2 * k + 1, swp ys k (2 * k + 1), by omega, by rw [HJE.out], (swp_perm ys (by have := HST.out; omega) (by have := HST.out; omega)).trans HS.out.1, ?_, ?_, HR.out, (HS.out.2.2.2.2.trans (HE_w3.out.upd g)).trans HU.out⟩
              · exact HS.out.2.1.step (by have := HST.out; omega) (by omega) (by omega) (by unfold par; omega) H4.out (fun q q0 qn qp => by rcases child_cases q0 qp with rfl | rfl <;> (have := H3.out; omega))
              · intro q hq
                rw [swp_get ys (by have := HST.out; omega) (by have := HST.out; omega), if_neg (by omega), if_neg (by omega)]
                exact HS.out.2.2.1 q hq
            case measure => simp [intOf]; omega
          · have h4b : decide (ys.getD (2 * k + 1) 0 < ys.getD k 0) = false := by simpa using h4
            have HC := HL1.out
            rw [h4b] at HC
            have HCC := Lib.hid HC
            have H4 := Lib.hid h4
            have hje : ((2 * k + 1 : Nat) : Int) = 2 * (k : Int) + 1 := by omega
            rw [hje] at HCC
            have hje1 : ((2 * k + 1 : Nat) : Int) = 2 * (k : Int) + 1 := by omega
            have hje2 : ((2 * k + 2 : Nat) : Int) = 2 * (k : Int) + 1 + 1 := by omega
            have HL21' := HL21.out
            rw [hje1, hje2] at HL21'
            have HL21 := Lib.hid HL21'
            clear HL21' hje1 hje2
            have HJE := Lib.hid hje
            clear h4 h4b HC hje
            go_wp2_with (first
              | ((with_reducible refine at_dst 32 rfl ?_); refine wpList_invoke (.tmp 29) "Less" #[.tmp 30, .tmp 31] _ rfl (by rfl) rfl (m_Less ⟨U, off, none⟩ _ HSS.out.cell) fv_Less #[.slice (some ⟨g, 0, none⟩) ys.length c, .int .i64 (2 * (k : Int) + 1 + 1), .int .i64 (2 * (k : Int) + 1)] (by simp only [List.map_toArray, List.map_cons, List.map_nil, List.append_toArray, List.cons_append, List.nil_append]; rfl) ?_; refine HL21.out.mono ?_; rintro e w2 ⟨rfl, hE⟩; have HE_w2 := Lib.hid (hE); clear hE; refine ⟨_, rfl, ?_⟩; simp only [Act.put, List.setIfInBounds_toArray, List.set_cons_zero, List.set_cons_succ])
              | ((with_reducible refine at_dst 38 rfl ?_); refine wpList_invoke (.tmp 35) "Less" #[.tmp 36, .tmp 37] _ rfl (by rfl) rfl (m_Less ⟨U, off, none⟩ _ (HSS.out.ext HE_w2.out).cell) fv_Less #[.slice (some ⟨g, 0, none⟩) ys.length c, .int .i64 (2 * (k : Int) + 1), .int .i64 ((k : Int))] (by simp only [List.map_toArray, List.map_cons, List.map_nil, List.append_toArray, List.cons_append, List.nil_append]; rfl) ?_; refine (HCC.out _ HE_w2.out).mono ?_; rintro e w3 ⟨rfl, hE⟩; have HE_w3 := Lib.hid (HE_w2.out.trans hE); clear hE; refine ⟨_, rfl, ?_⟩; simp only [Act.put, List.setIfInBounds_toArray, List.set_cons_zero, List.set_cons_succ]))
            go_ret
            refine ⟨ys, _, rfl, HS.out.1, HS.out.2.1.done (fun q q0 qn qp => ?_), HS.out.2.2.1, HS.out.2.2.2.1.ext HE_w3.out, HS.out.2.2.2.2.trans (HE_w3.out.upd g)⟩
            have hm : ys.getD (2 * k + 1) 0 ≤ ys.getD q 0 := by rcases child_cases q0 qp with rfl | rfl <;> (have := H3.out; omega)
            have := H4.out
            omega
      · have h2b : decide (2 * (k : Int) + 1 + 1 < ((n : Nat) : Int)) = false := by simp; omega
        clear hss hst
        by_cases h4 : ys.getD (2 * k + 1) 0 < ys.getD k 0
        · have h4b : decide (ys.getD (2 * k + 1) 0 < ys.getD k 0) = true := by simpa using h4
          have HSW := Lib.hid (fun (w' : World) (hw : Ext wr w') => numSwap_any g c ys k (2 * k + 1) (by have := HST.out; omega) (by have := HST.out; omega) w' (HSS.out.ext hw).row)
          have HC := HL1.out
          rw [h4b] at HC
          have HCC := Lib.hid HC
          have H4 := Lib.hid h4
          have hje : ((2 * k + 1 : Nat) : Int) = 2 * (k : Int) + 1 := by omega
          rw [hje] at HCC HSW
          have HJE := Lib.hid hje
          clear h4 h4b HC hje
          go_wp2_with (first
            | ((with_reducible refine at_dst 38 rfl ?_); refine wpList_invoke (.tmp 35) "Less" #[.tmp 36, .tmp 37] _ rfl (by rfl) rfl (m_Less ⟨U, off, none⟩ _ (HSS.out.ext (Ext.refl wr)).cell) fv_Less #[.slice (some ⟨g, 0, none⟩) ys.length c, .int .i64 (2 * (k : Int) + 1), .int .i64 ((k : Int))] (by simp only [List.map_toArray, List.map_cons, List.map_nil, List.append_toArray, List.cons_append, List.nil_append]; rfl) ?_; refine (HCC.out _ (Ext.refl wr)).mono ?_; rintro e w3 ⟨rfl, hE⟩; have HE_w3 := Lib.hid ((Ext.refl wr).trans hE); clear hE; refine ⟨_, rfl, ?_⟩; simp only [Act.put, List.setIfInBounds_toArray, List.set_cons_zero, List.set_cons_succ])
            | ((with_reducible refine at_dst 43 rfl ?_); refine wpList_invoke (.tmp 40) "Swap" #[.tmp 41, .tmp 42] _ rfl (by rfl) rfl (m_Swap ⟨U, off, none⟩ _ (HSS.out.ext HE_w3.out).cell) fv_Swap #[.slice (some ⟨g, 0, none⟩) ys.length c, .int .i64 ((k : Int)), .int .i64 (2 * (k : Int) + 1)] (by simp only [List.map_toArray, List.map_cons, List.map_nil, List.append_toArray, List.cons_append, List.nil_append]; rfl) ?_; refine (HSW.out _ HE_w3.out).mono ?_; rintro e w4 ⟨rfl, hr, hu⟩; have HR := Lib.hid hr; have HU := Lib.hid hu; clear hr hu; refine ⟨_, rfl, ?_⟩; simp only [Act.put, List.setIfInBounds_toArray, List.set_cons_zero, List.set_cons_succ]))
          go_round
          case rel =>
            refine ⟨2 * k + 1, swp ys k (2 * k + 1), by omega, by rw [HJE.out], (swp_perm ys (by have := HST.out; omega) (by have := HST.out; omega)).trans HS.out.1, ?_, ?_, HR.out, (HS.out.2.2.2.2.trans (HE_w3.out.upd g)).trans HU.out⟩
            · exact HS.out.2.1.step (by have := HST.out; omega) (by omega) (by omega) (by unfold par; omega) H4.out (fun q q0 qn qp => by rcases child_cases q0 qp with rfl | rfl <;> omega)
            · intro q hq
              rw [swp_get ys (by have := HST.out; omega) (by have := HST.out; omega), if_neg (by omega), if_neg (by omega)]
              exact HS.out.2.2.1 q hq
          case measure => simp [intOf]; omega
        · have h4b : decide (ys.getD (2 * k + 1) 0 < ys.getD k 0) = false := by simpa using h4
          have HC := HL1.out
          rw [h4b] at HC
          have HCC := Lib.hid HC
          have H4 := Lib.hid h4
          have hje : ((2 * k + 1 : Nat) : Int) = 2 * (k : Int) + 1 := by omega
          rw [hje] at HCC
          have HJE := Lib.hid hje
          clear h4 h4b HC hje
          go_wp2_with (first
            | ((with_reducible refine at_dst 38 rfl ?_); refine wpList_invoke (.tmp 35) "Less" #[.tmp 36, .tmp 37] _ rfl (by rfl) rfl (m_Less ⟨U, off, none⟩ _ (HSS.out.ext (Ext.refl wr)).cell) fv_Less #[.slice (some ⟨g, 0, none⟩) ys.length c, .int .i64 (2 * (k : Int) + 1), .int .i64 ((k : Int))] (by simp only [List.map_toArray, List.map_cons, List.map_nil, List.append_toArray, List.cons_append, List.nil_append]; rfl) ?_; refine (HCC.out _ (Ext.refl wr)).mono ?_; rintro e w3 ⟨rfl, hE⟩; have HE_w3 := Lib.hid ((Ext.refl wr).trans hE); clear hE; refine ⟨_, rfl, ?_⟩; simp only [Act.put, List.setIfInBounds_toArray, List.set_cons_zero, List.set_cons_succ]))
          go_ret
          refine ⟨ys, _, rfl, HS.out.1, HS.out.2.1.done (fun q q0 qn qp => ?_), HS.out.2.2.1, HS.out.2.2.2.1.ext HE_w3.out, HS.out.2.2.2.2.trans (HE_w3.out.upd g)⟩
          have hm : ys.getD (2 * k + 1) 0 ≤ ys.getD q 0 := by rcases child_cases q0 qp with rfl | rfl <;> omega
          have := H4.out
          omega
    · have hge : decide (((n : Nat) : Int) ≤ 2 * (k : Int) + 1) = true := by simp; omega
      go_wp2
      go_ret
      exact ⟨ys, _, rfl, HS.out.1, HS.out.2.1.done (fun q q0 qn qp => by have := child_cases q0 qp; omega), HS.out.2.2.1, HS.out.2.2.2.1, HS.out.2.2.2.2⟩

end Go.Proofs.YteokoaggkpjdeaaDoor
