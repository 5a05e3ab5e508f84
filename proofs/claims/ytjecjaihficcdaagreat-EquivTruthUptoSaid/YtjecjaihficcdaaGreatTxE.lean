/- Walks and plain laws that this claim uses. -/
import Derived.Test.YtjecjaihficcdaaGreatTxD
import Derived.Test.YtjecjaihficcdaaGreatTxC
import Derived.Test.YtjecjaihficcdaaGreatTxPEquivNextx10
import Derived.Test.YtjecjaihficcdaaGreatTxPEquivNextx1
import Derived.Test.YtjecjaihficcdaaGreatTxPEquivNextx2
import Derived.Test.YtjecjaihficcdaaGreatTxPEquivNextx3
import Derived.Test.YtjecjaihficcdaaGreatTxPEquivNextx4
import Derived.Test.YtjecjaihficcdaaGreatTxPEquivNextx5
import Derived.Test.YtjecjaihficcdaaGreatTxPEquivNextx6
import Derived.Test.YtjecjaihficcdaaGreatTxPEquivNextx7
import Derived.Test.YtjecjaihficcdaaGreatTxPEquivNextx8
import Derived.Test.YtjecjaihficcdaaGreatTxPEquivNextx9
import Derived.Test.YtjecjaihficcdaaGreatTxB
import Derived.Test.YtjecjaihficcdaaGreatTxA
import Derived.Test.YtjecjaihficcdaaGreatRows
import Derived.ProofKit
import Derived.LaidMore
import Derived.Stop.Joined
import Derived.Deep.Matrix
import Derived.Deep.SlicePairs
import Derived.Deep.Strs
import Derived.SizedLaws
import Derived.JoinedCond
import Derived.RowKitVeiled
import Derived.Deep.CutRange
import Derived.Ground.SlsfProg
import Derived.Shelf.SlSortCmp.Whole1
import Derived.Test.YtjecjaihficcdaaGreatProg
import Derived.Shelf.Sort.Plain
import Derived.Ground.Names2Prog
import Derived.Shelf.Slices.CompactI
import Derived.Shelf.Slices.In.SortNone
import Derived.Lib.SlicesCompact
import Derived.Sort.Statements
import Derived.Sort.OwnSortedInts
import Derived.Lib.RowBridge
namespace Go.Proofs.YtjecjaihficcdaaGreat
open Go.RowKit
attribute [local go_sem] Oper.semAt_some
def chA : Option ChV → Array Value
 | none => #[.int .u8 0, .int .i64 0, .int .i64 0, .int .i64 0, .int .i64 0]
 | some c => #[.int .u8 c.kind, .int .i64 c.lit, .int .i64 c.tz, .int .i64 c.pos, .int .i64 c.other]
def PostNext (w : World) (r : Option ChV) (e : Ending) (w' : World) : Prop := e = .returned (.tuple #[.agg (chA r), .bool r.isSome]) ∧ Ext w w'
set_option maxRecDepth 100000 in
set_option maxHeartbeats 2000000 in
theorem Next_no (d : DqV) (vu vx vc : Value) (w : World) (hd : RD w vu vx vc d) (ok : DOk d) (hm : mayD d = false) : Calls Tryz.prog 19 #[.agg #[vu, vx, vc]] w (PostNext w none) := by
 have HM := Lib.hid (fun w' (h : Ext w w') => MayD_any d vu vx vc w' ok.x64 ok.c64 (hd.u.ext h) (hd.x.ext h) (RLL.ext' hd.c h) (fun _ => by have := ok.tot; omega) ok.xl ok.ul)
 rw [hm] at HM
 obtain ⟨⟨UA, uc, hue, -⟩, ⟨XA, xc, ons, hxe, -⟩, ⟨CA, cc, us, hce, -⟩⟩ := hd
 subst hue hxe hce
 have e1 := Ext.alloc w (.cells #[.slice UA d.univ.length uc, .slice XA d.exist.length xc, .slice CA us.length cc] 27)
 have e2 := Ext.alloc (w.alloc (.cells #[.slice UA d.univ.length uc, .slice XA d.exist.length xc, .slice CA us.length cc] 27)) (.cells #[.int .u8 0, .int .i64 0, .int .i64 0, .int .i64 0, .int .i64 0] 37)
 have HE := Lib.hid (e1.trans e2)
 have HB := Lib.hid (Blk.new (w.alloc (.cells #[.slice UA d.univ.length uc, .slice XA d.exist.length xc, .slice CA us.length cc] 27)) 37 [.int .u8 0, .int .i64 0, .int .i64 0, .int .i64 0, .int .i64 0])
 rw [World.size_alloc] at HB
 clear e1 e2 hm
 go_enter Tryz.func19, Tryz.ntmps19
 go_wp2_with (go_at_call 54; refine (HM.out _ HE.out).mono ?_; rintro e w2 ⟨rfl, hE2⟩; have HE2 := Lib.hid hE2; have hbx := (hE2.chg (fun _ => False)).blk HB.out id; have b0 := hbx.cell 0; have b1 := hbx.cell 1; have b2 := hbx.cell 2; have b3 := hbx.cell 3; have b4 := hbx.cell 4; have f0 := hbx.free 0; have f1 := hbx.free 1; have f2 := hbx.free 2; have f3 := hbx.free 3; have f4 := hbx.free 4; have hsz : w.heap.size + 2 ≤ w2.heap.size := (by have := hE2.size; simpa using this); clear hE2 hbx)
 refine bodyPost_ret (v := .tuple #[.agg (chA none), .bool false]) (by simp [results, Tryz.results19, go_sem, chA, b0, b1, b2, b3, b4]) rfl ⟨rfl, ?_⟩
 have he := HE.out.trans HE2.out
 repeat (refine Below.setCell ?_ (by simp) _)
 exact he
def ksB (f : List (List Int)) : Nat → List ((Int × Int) × Value)
 | 0 => []
 | k + 1 => if (f.getD (f.length - 1 - k) []).length = 2 then
    kput (ksB f k) ((f.getD (f.length - 1 - k) []).getD 0 0, (f.getD (f.length - 1 - k) []).getD 1 0) (.int .i64 ((f.length - 1 - k : Nat) : Int)) else ksB f k
theorem backL_length (us : List Value) (k : Nat) : (backL us k).length = k := by
 induction k with
 | zero => rfl
 | succ k ih => simp [backL, ih]
theorem backL_next {us : List Value} {k : Nat} {x : Int × Value} (h : (backL us k ++ [x]) <+: backL us us.length) : k < us.length ∧ x = (((us.length - 1 - k : Nat) : Int), us.getD (us.length - 1 - k) undef) := by
 have h1 := h.length_le
 rw [List.length_append, backL_length, backL_length] at h1
 simp only [List.length_singleton] at h1
 have hk : k < us.length := by omega
 refine ⟨hk, ?_⟩
 obtain ⟨r, hr⟩ := h
 obtain ⟨r', hr'⟩ := backL_pre us (k + 1) us.length hk
 rw [← hr', backL, List.append_assoc, List.append_assoc] at hr
 have := List.append_cancel_left hr
 simp at this
 exact this.1
theorem ksB_lkp (f : List (List Int)) (a b : Int) : ∀ k, k ≤ f.length → lkp (ksB f k) (a, b) = ((List.range' (f.length - k) k).find? fun j => decide (f.getD j [] = [a, b])).map fun j => Value.int .i64 (j : Int) := by
 intro k
 induction k with
 | zero => intro _; rfl
 | succ k ih =>
   intro hk
   have e : List.range' (f.length - (k + 1)) (k + 1) = (f.length - 1 - k) :: List.range' (f.length - k) k := by
    have e2 : f.length - (k + 1) = f.length - 1 - k := by omega
    rw [e2, List.range'_succ, show f.length - 1 - k + 1 = f.length - k by omega]
   rw [e, List.find?_cons]
   unfold ksB
   obtain ⟨j, hj⟩ : ∃ j, j = f.length - 1 - k := ⟨_, rfl⟩
   rw [← hj]
   by_cases h2 : (f.getD j []).length = 2
   · rw [if_pos h2]
     obtain ⟨x, y, hxy⟩ := two_of h2
     rw [hxy]
     simp only [List.getD_cons_zero, List.getD_cons_succ]
     rw [lkp_kput]
     by_cases h3 : (a, b) = (x, y)
     · rw [if_pos h3]
       injection h3 with h4 h5
       subst h4 h5
       simp
     · rw [if_neg h3]
       have : ¬ ([x, y] = [a, b]) := fun e => h3 (by injection e with e1 e2; injection e2 with e2 _; rw [e1, e2])
       rw [decide_eq_false this]
       exact ih (by omega)
   · rw [if_neg h2]
     have : ¬ (f.getD j [] = [a, b]) := fun e => h2 (by rw [e]; rfl)
     rw [decide_eq_false this]
     exact ih (by omega)
theorem ksB_first (d : DqV) (a b : Int) : lkp (ksB d.clauses d.clauses.length) (a, b) = (firstIdx d [a, b]).map fun j => Value.int .i64 (j : Int) := by
 rw [ksB_lkp d.clauses a b _ (Nat.le_refl _), Nat.sub_self, ← List.range_eq_range']; rfl
theorem backward_any (A : Option Addr) (n c : Nat) (w : World) : Calls Tryz.prog 55 #[.slice A n c] w fun e w' => ∃ b, e = .returned (.func (.func 107) #[] #[.pointer (some ⟨b, 0, none⟩)]) ∧ Ext w w' ∧ w.heap.size ≤ b ∧ w'.cell? ⟨b, 0, none⟩ = some (.slice A n c) := by
 go_enter Tryz.func55, Tryz.ntmps55
 go_wp2
 go_ret
 exact ⟨_, rfl, Ext.alloc w _, Nat.le_refl _, (Blk.new w _ _).cell 0⟩
def kvP (p : Int × Int) : Value := Value.agg #[.int .i64 p.1, .int .i64 p.2]
theorem fam_kvP : KeyFam Tryz.prog 89 kvP := fam_pair Tryz.underlying89 Tryz.underlying3 Tryz.isAgg3 Tryz.sizeOf3
theorem run_arrayAt2 (ad : Addr) (c : Nat) (W : World) : (Instr.arrayAt 89 (.slice (some ad) 2 c)).run Tryz.prog W = .ok (.pointer (some ad)) W := by
 simp [Instr.arrayAt, run_underlying Tryz.underlying89, Result.andThen]
theorem ret_markc {P : Program} {fn : Func} {R : Ending → World → Prop} {a : Act} {w : World} {D : Nat} {v : Value} (hd : a.defers = [markOf D]) (hK : w.heap[D]? = some (.deferred (some [])))
 (hr : (results fn a.tmps).run P (w.putObj D (.deferred none)) = .ok v (w.putObj D (.deferred none))) (h : R (.returned v) (w.putObj D (.deferred none))) : bodyPostM Fence.wide 0 P fn R .ret a w := by
 show LeavesInM Fence.wide 0 P fn a.tmps R a.defers .returning w
 rw [hd]
 exact ⟨by simp, .inl ⟨D, _, rfl, run_takeDeferred hK, v, hr, h⟩⟩
theorem zeroValue_int (w : World) : (zeroValue 3).run Tryz.prog w = .ok (.int .i64 0) w := by kernel_rfl
theorem set5 (w : World) (g : Nat) (e : TypeId) (a0 a1 a2 a3 a4 v0 v1 v2 v3 v4 : Value) (h : Blk w g e [a0, a1, a2, a3, a4]) :
 Chg (fun i => i = g) w (((((w.setCell ⟨g, 0, none⟩ v0).setCell ⟨g, 1, none⟩ v1).setCell ⟨g, 2, none⟩ v2).setCell ⟨g, 3, none⟩ v3).setCell ⟨g, 4, none⟩ v4) ∧
 Blk (((((w.setCell ⟨g, 0, none⟩ v0).setCell ⟨g, 1, none⟩ v1).setCell ⟨g, 2, none⟩ v2).setCell ⟨g, 3, none⟩ v3).setCell ⟨g, 4, none⟩ v4) g e [v0, v1, v2, v3, v4] :=
 ⟨((((Chg.set w g 0 v0).trans (Chg.set _ g 1 v1)).trans (Chg.set _ g 2 v2)).trans (Chg.set _ g 3 v3)).trans (Chg.set _ g 4 v4), ((((h.set 0 v0).set 1 v1).set 2 v2).set 3 v3).set 4 v4⟩
theorem pairP_two (d : DqV) (p q : Int) (k bb : Nat) (rest : Option ChV) : (pairP d [p, q] k bb).or rest = if (decide (0 < -p) && allowP d (-p) q) = true then some (⟨6, -p, q, k, bb⟩ : ChV) else if (decide (0 < -q) && allowP d (-q) p) = true then some (⟨6, -q, p, k, bb⟩ : ChV) else rest := by
 unfold pairP
 simp only [List.findSome?_cons, List.findSome?_nil, List.getD_cons_zero, List.getD_cons_succ, Nat.sub_zero, Nat.sub_self]
 cases decide (0 < -p) && allowP d (-p) q <;> cases decide (0 < -q) && allowP d (-q) p <;> rfl
theorem findSome_from {α : Type} (F : Nat → Option α) (n k : Nat) (h : k < n) : (List.range' k (n - k)).findSome? F = (F k).or ((List.range' (k + 1) (n - (k + 1))).findSome? F) := by
 rw [show n - k = (n - (k + 1)) + 1 by omega, List.range'_succ, List.findSome?_cons]
 cases F k <;> rfl
set_option maxRecDepth 100000 in
set_option maxHeartbeats 4000000 in
theorem Next_yes (d : DqV) (vu vx vc : Value) (w : World) (hd : RD w vu vx vc d) (ok : DOk d) (hm : mayD d = true) (R : Option ChV) (hR : R = (List.range d.clauses.length).findSome? fun i => stepP d i) : Calls Tryz.prog 19 #[.agg #[vu, vx, vc]] w (PostNext w R) := by
 have HRR := Lib.hid hR
 have HRD := Lib.hid hd
 clear hR
 have HM := Lib.hid (fun w' (h : Ext w w') => MayD_any d vu vx vc w' ok.x64 ok.c64 (hd.u.ext h) (hd.x.ext h) (RLL.ext' hd.c h) (fun _ => by have := ok.tot; omega) ok.xl ok.ul)
 rw [hm] at HM
 obtain ⟨⟨UA, uc, hue, -⟩, ⟨XA, xc, ons, hxe, -⟩, ⟨CA, cc, us, hce, c1, c2, c3, c4, c5⟩⟩ := hd
 subst hue hxe hce
 have e1 := Ext.alloc w (.cells #[.slice UA d.univ.length uc, .slice XA d.exist.length xc, .slice CA us.length cc] 27)
 have e2 := Ext.alloc (w.alloc (.cells #[.slice UA d.univ.length uc, .slice XA d.exist.length xc, .slice CA us.length cc] 27)) (.cells #[.int .u8 0, .int .i64 0, .int .i64 0, .int .i64 0, .int .i64 0] 37)
 have HE := Lib.hid (e1.trans e2)
 have HB := Lib.hid (Blk.new (w.alloc (.cells #[.slice UA d.univ.length uc, .slice XA d.exist.length xc, .slice CA us.length cc] 27)) 37 [.int .u8 0, .int .i64 0, .int .i64 0, .int .i64 0, .int .i64 0])
 have HD0 := Lib.hid ((e2.chg (fun _ => False)).blk (Blk.new w 27 [.slice UA d.univ.length uc, .slice XA d.exist.length xc, .slice CA us.length cc]) id)
 rw [World.size_alloc] at HB
 have C3 := Lib.hid c3
 have C4 := Lib.hid c4
 have C5 := Lib.hid c5
 have HM0 := Lib.hid hm
 clear e1 e2 hm c3 c4 c5
 have hmm := @run_makeMap Tryz.prog
 refine calls_marks Tryz.func19 rfl ?_
 simp only [Tryz.ntmps19, List.size_toArray, List.length_cons, List.length_nil, Nat.reduceAdd, Nat.reduceSub, Array.replicate_succ, Array.replicate_zero, List.push_toArray, List.append_toArray, List.nil_append, List.cons_append]
 go_upto_region 3 with (go_at_call 54; refine (HM.out _ HE.out).mono ?_; rintro e w2 ⟨rfl, hE2⟩; have HE2 := Lib.hid hE2; have HB2 := Lib.hid ((hE2.chg (fun _ => False)).blk HB.out id); have HD2 := Lib.hid ((hE2.chg (fun _ => False)).blk HD0.out id); have hd2 : w2.cell? ⟨w.heap.size, 2, none⟩ = some (.slice CA us.length cc) := HD2.out.cell 2; have hsz : w.heap.size + 2 ≤ w2.heap.size := (by have := hE2.size; simpa using this); clear hE2)
 go_upto_region 4 with fail
 have HE2b := Lib.hid ((HE.out.trans HE2.out))
 have hd3 : ((w2.alloc (Obj.map #[] 0)).alloc (Obj.cells #[Value.map (some w2.heap.size)] 85)).cell? ⟨w.heap.size, 2, none⟩ = some (.slice CA us.length cc) := ((Ext.alloc w2 (Obj.map #[] 0)).trans (Ext.alloc _ (Obj.cells #[Value.map (some w2.heap.size)] 85))).cell hd2
 go_wp2_with (go_at_call 55; refine (backward_any _ _ _ _).mono ?_; rintro e w3 ⟨b, rfl, hE3, hb, hcb⟩; have HE3 := Lib.hid hE3; have HBB := Lib.hid hcb; have hb3 : w2.heap.size + 2 ≤ b := (by simpa using hb); clear hE3 hcb hb)
 have E3 := Lib.hid ((((Ext.alloc w2 (Obj.map #[] 0)).trans (Ext.alloc _ (Obj.cells #[Value.map (some w2.heap.size)] 85)))).trans HE3.out)
 have HE03 := Lib.hid (HE2b.out.trans E3.out)
 have HM3 : Hid (MapK kvP w3 w2.heap.size []) := Lib.hid ((MapK.new w2).ext ((Ext.alloc _ (Obj.cells #[Value.map (some w2.heap.size)] 85)).trans HE3.out))
 have HV3 := Lib.hid ((Var1.new (w2.alloc (Obj.map #[] 0)) 85 (Value.map (some w2.heap.size))).ext HE3.out)
 rw [World.size_alloc] at HV3
 have hz3 : w2.heap.size + 2 ≤ w3.heap.size := by have := HE3.out.size; simpa using this
 have C33 := Lib.hid (C3.out.ext HE03.out)
 refine wp_range (back_iter CA cc b us w3 HBB.out C33.out c2) rfl ⟨_, Tryz.func107, by kernel_rfl, by kernel_rfl⟩ (fun k hk => hk.elim (fun e => e ▸ World.block_lt_of_cell? w3 _ HBB.out) (fun h => RowB.lt C33.out h)) (fun _ => rfl)
  (fun pre T W => ∃ k, pre = backL us k ∧ (∀ i, T i → w3.heap.size ≤ i) ∧ Chg (fun i => i = w2.heap.size ∨ T i) w3 W ∧ MapK kvP W w2.heap.size (ksB d.clauses k))
  (fun _ _ _ _ => False) ?hI (fun _ => fun _ _ _ _ _ h _ _ _ _ => h.elim) ⟨0, rfl, fun _ h => h.elim, Chg.refl _ _, HM3.out⟩
  (fun x => ⟨#[Value.agg #[Value.slice UA d.univ.length uc, Value.slice XA d.exist.length xc, Value.slice CA us.length cc],
   Value.pointer (some { block := w.heap.size, off := 0 }),
   Value.pointer (some { block := w.heap.size + 1, off := 0 }), Value.bool false,
   Value.pointer (some { block := w2.heap.size + 1, off := 0 }), .int .i64 x.1, x.2, undef, undef, undef, undef, undef,
   undef, undef,
   Value.agg #[Value.slice UA d.univ.length uc, Value.slice XA d.exist.length xc, Value.slice CA us.length cc],
   Value.bool true, Value.bool false, undef, Value.map (some w2.heap.size),
   Value.pointer (some { block := w.heap.size, off := 2 }), Value.slice CA us.length cc,
   Value.func (Fn.func 107) #[] #[Value.pointer (some { block := b, off := 0 })], .int .i64 x.1, x.2, undef, undef, undef, undef, undef, undef, undef, undef, undef, undef, undef, undef, undef, undef, undef, undef, undef, undef, undef, undef, undef, undef, undef, undef, undef, undef, undef, undef, undef, undef, undef, undef, undef, undef, undef, undef, undef, undef, undef, undef, undef, undef, undef, undef, undef, undef, undef, undef, undef, undef, undef, undef, undef, undef, undef, undef, undef, undef, undef, undef, undef, undef, undef, undef, undef], []⟩) ?assign ?body ?done ?stop
 case hI =>
  rintro s T T' A C ⟨k, e, hT, hc, hk⟩ hch h1 h2 _
  have := hc.size
  refine ⟨k, e, fun i hi => (h2 i hi).elim (hT i) (fun h => by omega), (hc.mono fun i hi => hi.imp id (h1 i)).trans (hch.mono fun i hi => .inr (h1 i hi)), hk.keep hch (fun h => by have := hT _ h; omega)⟩
 case assign =>
  intro l x W K hK
  gi_wp2
  exact hK
 case body =>
  rintro l pre x T W ⟨k, rfl, hT, hc, hk⟩ hpre hTw hWs
  obtain ⟨hkl, rfl⟩ := backL_next hpre
  obtain ⟨j, hj⟩ : ∃ j, j = us.length - 1 - k := ⟨_, rfl⟩
  rw [← hj]
  have hjl : j < us.length := by omega
  have hjf : j < d.clauses.length := by have := C4.out; omega
  have hks : ksB d.clauses (k + 1) = if (d.clauses.getD j []).length = 2 then kput (ksB d.clauses k) ((d.clauses.getD j []).getD 0 0, (d.clauses.getD j []).getD 1 0) (.int .i64 (j : Int)) else ksB d.clauses k := by
   rw [ksB, show d.clauses.length - 1 - k = j by rw [← C4.out, hj]]
  rw [getD_of _ _ hjf] at hks
  have hbl : backL us (k + 1) = backL us k ++ [((j : Int), us.getD j undef)] := by rw [backL, ← hj]
  rw [← hbl, getD_val us j hjl]
  have hEW : Ext w W := hc.toExt HE03.out (fun i hi => hi.elim (fun e => by omega) (fun h => by have := hT i h; omega))
  obtain ⟨B, cb, hbe, b1, b2, b3⟩ := (C5.out j hjl hjf)
  have HROW := Lib.hid (b3.ext hEW)
  rw [hbe]
  have hmc : W.cell? ⟨w2.heap.size + 1, 0, none⟩ = some (.map (some w2.heap.size)) := hc.cell HV3.out.cell (fun h => h.elim (fun e => by simp at e) (fun h => by have := hT _ h; simp at this; omega))
  have HKS := Lib.hid hks
  have HCH := Lib.hid hc
  have HMK := Lib.hid hk
  have HT := Lib.hid hT
  obtain ⟨L, hL⟩ : ∃ L, L = d.clauses[j].length := ⟨_, rfl⟩
  rw [← hL]
  rw [← hL] at b1 b2
  have HL := Lib.hid hL
  clear hks hbl hj hc hk hT b3 hbe hpre hTw hL HM HB HD0 HE C33 C5 HB2 HD2 HE2 HE2b HE3 hmm
  by_cases h2 : L = 2
  · have hb : ((L : Int) == 2) = true := by subst h2; rfl
    obtain ⟨p, q, hpq⟩ := two_of (HL.out.symm.trans h2)
    subst h2
    have hr := HROW.out
    rw [hpq] at hr
    obtain ⟨ad, rfl, r0⟩ := hr 0 (by simp)
    obtain ⟨ad', e', r1⟩ := hr 1 (by simp)
    injection e' with e'
    subst e'
    simp only [List.map_cons, List.map_nil, List.getElem_cons_zero, List.getElem_cons_succ] at r0 r1
    clear hr
    gi_wp2
    obtain ⟨w9, hup, hm9, hc9, -⟩ := (HMK.out.ext (Ext.drew W)).update fam_kvP Tryz.underlying85 (p, q) (.int .i64 (j : Int))
    unfold kvP at hup
    have har := run_arrayAt2 ad cb
    rw [show ad.add 0 = ad by simp [Addr.add]] at r0
    rw [show ad.add 1 = ⟨ad.block, ad.off + 1, none⟩ by simp [Addr.add]] at r1
    have HM9 := Lib.hid hm9
    have HC9 := Lib.hid hc9
    have HPQ := Lib.hid hpq
    clear hm9 hc9 hpq
    refine still_tail_in (l := l) (fun h => by obtain ⟨_, _, h⟩ := h; exact h) 5 (by kernel_rfl) (by rfl) (by kernel_rfl) ?_
    simp only [List.take_succ_cons, List.take_zero, List.drop_succ_cons, List.drop_zero]
    repeat still_step
    refine wpStill_nil ?_
    go_wp2
    have hgb : ∀ i, i = w2.heap.size → ¬ ((i = b ∨ RowB CA us.length i) ∨ T i) := fun i e h => by
     subst e
     rcases h with (h | h) | h
     · omega
     · have := RowB.lt C3.out h; omega
     · have := HT.out _ h; omega
    exact ⟨((Ext.drew W).chg _).trans (HC9.out.mono hgb), k + 1, rfl, HT.out, (HCH.out.ext (Ext.drew W)).trans (HC9.out.mono fun i h => .inl h), by rw [HKS.out, if_pos HL.out.symm, HPQ.out]; exact HM9.out⟩
  · have hb : ((L : Int) == 2) = false := by simp; omega
    gi_wp2
    exact ⟨Chg.refl _ _, k + 1, rfl, HT.out, HCH.out, by rw [HKS.out, if_neg (fun e => h2 (HL.out.trans e))]; exact HMK.out⟩
 case done =>
  rintro D T w4 hD hTD ⟨k, hke, hT, hc, hmk⟩ hK
  obtain rfl : k = us.length := by have := congrArg List.length hke; rw [backL_length, backL_length] at this; exact this.symm
  have hE4 : Ext w w4 := hc.toExt HE03.out (fun i hi => hi.elim (fun e => by omega) (fun h => by have := hT i h; omega))
  have keep4 : ∀ {g : Nat} {e : TypeId} {cur : List Value}, g < w3.heap.size → g ≠ w2.heap.size → Blk w3 g e cur → Blk w4 g e cur := fun hg hne hb => hc.blk hb (fun h => h.elim (fun e => hne e) (fun h => by have := hT _ h; omega))
  have hbd := keep4 (by omega) (by omega) (((E3.out.chg (fun _ => False)).blk HD2.out id))
  have hbr := keep4 (by omega) (by omega) (((E3.out.chg (fun _ => False)).blk HB2.out id))
  have hbv := keep4 (g := w2.heap.size + 1) (by omega) (by omega) HV3.out
  have d0 := hbd.cell 0
  have d1 := hbd.cell 1
  have d2 := hbd.cell 2
  have v0 := hbv.cell 0
  simp only [List.getElem?_cons_zero, List.getElem?_cons_succ] at d0 d1 d2 v0
  have HMK : Hid (MapK kvP w4 w2.heap.size (ksB d.clauses d.clauses.length)) := Lib.hid (C4.out ▸ hmk)
  have HE4 := Lib.hid hE4
  have HBR := Lib.hid hbr
  have HK := Lib.hid hK
  clear hke hT hc hmk hE4 keep4 hbd hbv hbr HM HB HD0 HE HB2 HD2 HE2 HE2b HE3 hmm hK hTD
  have HR0 : Hid (R = (List.range' 0 (us.length - 0)).findSome? fun i => stepP d i) := Lib.hid (by rw [HRR.out, List.range_eq_range', C4.out]; rfl)
  clear HRR
  go_wp2
  go_loopg [35] us.length (fun gn i wr => ∃ k : Nat, k ≤ us.length ∧ gn + k = us.length ∧ i = .int .i64 k ∧ Hid (Ext w4 wr) ∧ Hid (R = (List.range' k (us.length - k)).findSome? fun i => stepP d i))
  case atStart => exact ⟨0, Nat.zero_le _, by omega, rfl, Lib.hid (Ext.refl _), HR0⟩
  case round =>
   obtain ⟨k, hk, hgk, rfl, HE5, HR⟩ := hrel
   obtain ⟨w5, rfl⟩ : ∃ w5 : World, w5 = wr := ⟨_, rfl⟩
   by_cases hlt : k < us.length
   · have hkf : k < d.clauses.length := by have := C4.out; omega
     obtain ⟨ad, rfl, hck⟩ := (C3.out.ext (HE4.out.trans HE5.out)) k hlt
     obtain ⟨B, cb, hbe, b1, b2, b3⟩ := (C5.out k hlt hkf)
     have HROW := Lib.hid (b3.ext (HE4.out.trans HE5.out))
     rw [hbe] at hck
     have hrk := HR.out
     rw [findSome_from _ _ _ hlt] at hrk
     have HRK := Lib.hid hrk
     obtain ⟨L, hL⟩ : ∃ L, L = d.clauses[k].length := ⟨_, rfl⟩
     rw [← hL] at b1 b2 hck
     have HL := Lib.hid hL
     have HROWF : Hid (d.row k = d.clauses[k]) := Lib.hid (getD_of _ _ hkf)
     have v05 := HE5.out.cell v0
     clear hbe b3 hrk HR hL v0
     by_cases h2 : L = 2
     · have hb : ((L : Int) != 2) = false := by subst h2; rfl
       obtain ⟨p, q, hpq⟩ := two_of (HL.out.symm.trans h2)
       subst h2
       have hmb := row_may HM0.out k hkf
       rw [HROWF.out, hpq] at hmb
       have hasc := ((mayB_iff _).1 hmb).2
       have hp := varOf_eq (n := p) (by have := hasc p (by simp); omega)
       have hq := varOf_eq (n := q) (by have := hasc q (by simp); omega)
       have hpr := varOf_range p
       have hqr := varOf_range q
       have p1 : -65536 ≤ p := by omega
       have p2 : p ≤ 65536 := by omega
       have q1 : -65536 ≤ q := by omega
       have q2 : q ≤ 65536 := by omega
       have hr := HROW.out
       rw [hpq] at hr
       obtain ⟨bd, rfl, r0⟩ := hr 0 (by simp)
       obtain ⟨bd', e', r1⟩ := hr 1 (by simp)
       injection e' with e'
       subst e'
       simp only [List.map_cons, List.map_nil, List.getElem_cons_zero, List.getElem_cons_succ] at r0 r1
       have R0 := Lib.hid r0
       have R1 := Lib.hid r1
       have hst : stepP d k = (firstIdx d [-p, -q]).bind fun b => pairP d [p, q] k b := by
        unfold stepP
        rw [HROWF.out, hpq]; rfl
       have HST := Lib.hid hst
       have HMK5 := Lib.hid (HMK.out.ext HE5.out)
       have hkb := ksB_first d (-p) (-q)
       clear hr hpq hmb hasc hp hq hpr hqr hst r0 r1
       cases hfi : firstIdx d [-p, -q] with
       | none =>
         rw [hfi] at hkb
         have hlk : ∀ n, (Instr.lookup 85 (.map (some w2.heap.size)) (.agg #[.int .i64 (-p), .int .i64 (-q)]) true).run Tryz.prog (w5.drewN n) = .ok (.tuple #[.int .i64 0, .bool false]) (w5.drewN n) := fun n => by
          have := (HMK5.out.ext (Ext.drewN w5 n)).lookup_ok fam_kvP Tryz.underlying85 (zeroValue_int _) (-p, -q)
          rw [hkb] at this
          exact this
         have HS : Hid (R = (List.range' (k + 1) (us.length - (k + 1))).findSome? fun i => stepP d i) := Lib.hid (by rw [HRK.out, HST.out, hfi]; rfl)
         have r0 := R0.out
         have r1 := R1.out
         have r2 := R0.out
         rw [show bd.add 0 = bd by simp [Addr.add]] at r2
         have r3 := R1.out
         rw [show bd.add 1 = ⟨bd.block, bd.off + 1, none⟩ by simp [Addr.add]] at r3
         clear HRK hfi hkb
         go_upto_region 13 with fail
         go_quiet (fail)
         generalize hW : w5.drewN _ = w6
         have HE6 : Hid (Ext w4 w6) := Lib.hid (HE5.out.trans (by rw [← hW]; exact Ext.drewN w5 _))
         clear hW
         go_wp2
         go_loopg [11] 1 (fun gn i wr => i = .int .i64 0 ∧ Hid (Ext w4 wr) ∧ gn = 1)
         case atStart => exact ⟨rfl, HE6, rfl⟩
         case round =>
          obtain ⟨rfl, HE7, rfl⟩ := hrel
          go_wp2
          go_roundg (us.length - (k + 1))
          case measure => omega
          case rel => exact ⟨k + 1, by omega, by omega, by go_num, HE7, HS⟩
       | some bb =>
         rw [hfi] at hkb
         have hlk : ∀ n, (Instr.lookup 85 (.map (some w2.heap.size)) (.agg #[.int .i64 (-p), .int .i64 (-q)]) true).run Tryz.prog (w5.drewN n) = .ok (.tuple #[.int .i64 (bb : Int), .bool true]) (w5.drewN n) := fun n => by
          have := (HMK5.out.ext (Ext.drewN w5 n)).lookup_ok fam_kvP Tryz.underlying85 (zeroValue_int _) (-p, -q)
          rw [hkb] at this
          exact this
         have HS : Hid (R = (pairP d [p, q] k bb).or ((List.range' (k + 1) (us.length - (k + 1))).findSome? fun i => stepP d i)) := Lib.hid (by rw [HRK.out, HST.out, hfi]; rfl)
         have r0 := R0.out
         have r1 := R1.out
         have r2 := R0.out
         rw [show bd.add 0 = bd by simp [Addr.add]] at r2
         have r3 := R1.out
         rw [show bd.add 1 = ⟨bd.block, bd.off + 1, none⟩ by simp [Addr.add]] at r3
         clear HRK hfi hkb
         go_upto_region 13 with fail
         go_quiet (fail)
         generalize hW : w5.drewN _ = w6
         have he6 : Ext w5 w6 := by rw [← hW]; exact Ext.drewN w5 _
         have HE6 : Hid (Ext w4 w6) := Lib.hid (HE5.out.trans he6)
         have HE56 := Lib.hid he6
         clear hW he6 r0 r1 r2 r3 hlk
         go_wp2
         obtain ⟨rest, hrest⟩ : ∃ rest, rest = (List.range' (k + 1) (us.length - (k + 1))).findSome? fun i => stepP d i := ⟨_, rfl⟩
         have HREST := Lib.hid hrest
         have HJ0 : Hid (R = if (decide (0 < -p) && allowP d (-p) q) = true then some (⟨6, -p, q, k, bb⟩ : ChV) else if (decide (0 < -q) && allowP d (-q) p) = true then some (⟨6, -q, p, k, bb⟩ : ChV) else rest) := Lib.hid (by
          rw [HS.out, ← hrest]
          exact pairP_two d p q k bb rest)
         clear hrest HS
         go_loopg [11] 2 (fun gn i wr => Hid (Ext w5 wr) ∧ ((i = .int .i64 0 ∧ gn = 2 ∧ Hid (R = if (decide (0 < -p) && allowP d (-p) q) = true then some (⟨6, -p, q, k, bb⟩ : ChV) else if (decide (0 < -q) && allowP d (-q) p) = true then some (⟨6, -q, p, k, bb⟩ : ChV) else rest)) ∨
          (i = .int .i64 1 ∧ gn = 1 ∧ Hid (R = if (decide (0 < -q) && allowP d (-q) p) = true then some (⟨6, -q, p, k, bb⟩ : ChV) else rest)) ∨ (i = .int .i64 2 ∧ gn = 0 ∧ Hid (R = rest))))
         case atStart => exact ⟨HE56, .inl ⟨rfl, rfl, HJ0⟩⟩
         case round =>
          obtain ⟨HE7, ⟨rfl, rfl, HJ⟩ | ⟨rfl, rfl, HJ⟩ | ⟨rfl, rfl, HJ⟩⟩ := hrel
          · obtain ⟨w7, rfl⟩ : ∃ w7 : World, w7 = wr := ⟨_, rfl⟩
            have r0 := HE7.out.cell R0.out
            have r1 := HE7.out.cell R1.out
            have r2 := r0
            rw [show bd.add 0 = bd by simp [Addr.add]] at r2
            have r3 := r1
            rw [show bd.add 1 = ⟨bd.block, bd.off + 1, none⟩ by simp [Addr.add]] at r3
            go_upto_region 17 with fail
            go_quiet (fail)
            generalize hW : w7.drewN _ = w8
            have he8 : Ext w5 w8 := HE7.out.trans (by rw [← hW]; exact Ext.drewN w7 _)
            have e48 : Ext w4 w8 := HE5.out.trans he8
            have HE8 := Lib.hid he8
            have HE48 := Lib.hid e48
            have dd0 := e48.cell d0
            have dd1 := e48.cell d1
            have dd2 := e48.cell d2
            clear hW he8 r0 r1 r2 r3 e48
            by_cases hx : 0 < -p
            · have hxd : decide (0 < -p) = true := decide_eq_true hx
              have HAL := Lib.hid (fun w' (h : Ext w w') => allowed_any d _ _ _ (-p) q w' (HRD.out.ext h) ok ⟨by omega, by omega⟩)
              cases ha : allowP d (-p) q
              · have HJN : Hid _ := Lib.hid (HJ.out.trans (if_neg (by rw [ha, Bool.and_false]; simp)))
                rw [ha] at HAL
                clear ha hxd HJ
                go_wp2_with (go_at_call 56; refine (HAL.out _ (HE4.out.trans HE48.out)).mono ?_; rintro e w9 ⟨rfl, hE9⟩; have HE9 := Lib.hid hE9; clear hE9)
                go_roundg 1
                case measure => omega
                case rel => exact ⟨Lib.hid (HE8.out.trans HE9.out), .inr (.inl ⟨by go_num, rfl, HJN⟩)⟩
              · have HJN : Hid (R = some (⟨6, -p, q, k, bb⟩ : ChV)) := Lib.hid (HJ.out.trans (if_pos (by rw [ha, hxd]; rfl)))
                rw [ha] at HAL
                clear ha hxd HJ
                go_wp2_with (go_at_call 56; refine (HAL.out _ (HE4.out.trans HE48.out)).mono ?_; rintro e w9 ⟨rfl, hE9⟩; have HE9 := Lib.hid (HE48.out.trans hE9); have hbr9 := ((HE48.out.trans hE9).chg (fun _ => False)).blk HBR.out id; have b0 := hbr9.cell 0; have b1 := hbr9.cell 1; have b2 := hbr9.cell 2; have b3 := hbr9.cell 3; have b4 := hbr9.cell 4; have f0 := hbr9.free 0; have f1 := hbr9.free 1; have f2 := hbr9.free 2; have f3 := hbr9.free 3; have f4 := hbr9.free 4; have HBR9 := Lib.hid hbr9; clear hE9 hbr9)
                have H9 := (HE9.out.block D (Array.getElem?_eq_some_iff.1 HK.out).1).trans HK.out
                obtain ⟨hch, hblk⟩ := set5 w9 (w.heap.size + 1) 37 _ _ _ _ _ (.int .u8 6) (.int .i64 (-p)) (.int .i64 q) (.int .i64 k) (.int .i64 bb) HBR9.out
                generalize ((((w9.setCell ⟨w.heap.size + 1, 0, none⟩ _).setCell _ _).setCell _ _).setCell _ _).setCell _ _ = wF at hch hblk ⊢
                have hDF : wF.heap[D]? = some (.deferred (some [])) := (hch.block D (Array.getElem?_eq_some_iff.1 H9).1 (fun e => by omega)).trans H9
                have hp := (putObj_chg wF D (.deferred none)).blk hblk (fun e => by omega)
                have b0 := hp.cell 0
                have b1 := hp.cell 1
                have b2 := hp.cell 2
                have b3 := hp.cell 3
                have b4 := hp.cell 4
                refine ret_markc (v := .tuple #[.agg (chA (some ⟨6, -p, q, k, bb⟩)), .bool true]) rfl hDF (by simp [results, Tryz.results19, go_sem, chA, b0, b1, b2, b3, b4]) ?_
                rw [HJN.out]
                exact ⟨rfl, (hch.toExt (HE4.out.trans HE9.out) (fun i e => by omega)) |> fun h => (putObj_chg wF D (.deferred none)).toExt h (fun i e => by omega)⟩
            · have HJN : Hid _ := Lib.hid (HJ.out.trans (if_neg (by rw [decide_eq_false hx]; simp)))
              clear HJ
              go_wp2_with fail
              go_roundg 1
              case measure => omega
              case rel => exact ⟨HE8, .inr (.inl ⟨by go_num, rfl, HJN⟩)⟩
          · obtain ⟨w7, rfl⟩ : ∃ w7 : World, w7 = wr := ⟨_, rfl⟩
            have r0 := HE7.out.cell R0.out
            have r1 := HE7.out.cell R1.out
            have r2 := r0
            rw [show bd.add 0 = bd by simp [Addr.add]] at r2
            have r3 := r1
            rw [show bd.add 1 = ⟨bd.block, bd.off + 1, none⟩ by simp [Addr.add]] at r3
            go_upto_region 17 with fail
            go_quiet (fail)
            generalize hW : w7.drewN _ = w8
            have he8 : Ext w5 w8 := HE7.out.trans (by rw [← hW]; exact Ext.drewN w7 _)
            have e48 : Ext w4 w8 := HE5.out.trans he8
            have HE8 := Lib.hid he8
            have HE48 := Lib.hid e48
            have dd0 := e48.cell d0
            have dd1 := e48.cell d1
            have dd2 := e48.cell d2
            clear hW he8 r0 r1 r2 r3 e48
            by_cases hx : 0 < -q
            · have hxd : decide (0 < -q) = true := decide_eq_true hx
              have HAL := Lib.hid (fun w' (h : Ext w w') => allowed_any d _ _ _ (-q) p w' (HRD.out.ext h) ok ⟨by omega, by omega⟩)
              cases ha : allowP d (-q) p
              · have HJN : Hid _ := Lib.hid (HJ.out.trans (if_neg (by rw [ha, Bool.and_false]; simp)))
                rw [ha] at HAL
                clear ha hxd HJ
                go_wp2_with (go_at_call 56; refine (HAL.out _ (HE4.out.trans HE48.out)).mono ?_; rintro e w9 ⟨rfl, hE9⟩; have HE9 := Lib.hid hE9; clear hE9)
                go_roundg 0
                case measure => omega
                case rel => exact ⟨Lib.hid (HE8.out.trans HE9.out), .inr (.inr ⟨by go_num, rfl, HJN⟩)⟩
              · have HJN : Hid (R = some (⟨6, -q, p, k, bb⟩ : ChV)) := Lib.hid (HJ.out.trans (if_pos (by rw [ha, hxd]; rfl)))
                rw [ha] at HAL
                clear ha hxd HJ
                go_wp2_with (go_at_call 56; refine (HAL.out _ (HE4.out.trans HE48.out)).mono ?_; rintro e w9 ⟨rfl, hE9⟩; have HE9 := Lib.hid (HE48.out.trans hE9); have hbr9 := ((HE48.out.trans hE9).chg (fun _ => False)).blk HBR.out id; have b0 := hbr9.cell 0; have b1 := hbr9.cell 1; have b2 := hbr9.cell 2; have b3 := hbr9.cell 3; have b4 := hbr9.cell 4; have f0 := hbr9.free 0; have f1 := hbr9.free 1; have f2 := hbr9.free 2; have f3 := hbr9.free 3; have f4 := hbr9.free 4; have HBR9 := Lib.hid hbr9; clear hE9 hbr9)
                have H9 := (HE9.out.block D (Array.getElem?_eq_some_iff.1 HK.out).1).trans HK.out
                obtain ⟨hch, hblk⟩ := set5 w9 (w.heap.size + 1) 37 _ _ _ _ _ (.int .u8 6) (.int .i64 (-q)) (.int .i64 p) (.int .i64 k) (.int .i64 bb) HBR9.out
                generalize ((((w9.setCell ⟨w.heap.size + 1, 0, none⟩ _).setCell _ _).setCell _ _).setCell _ _).setCell _ _ = wF at hch hblk ⊢
                have hDF : wF.heap[D]? = some (.deferred (some [])) := (hch.block D (Array.getElem?_eq_some_iff.1 H9).1 (fun e => by omega)).trans H9
                have hp := (putObj_chg wF D (.deferred none)).blk hblk (fun e => by omega)
                have b0 := hp.cell 0
                have b1 := hp.cell 1
                have b2 := hp.cell 2
                have b3 := hp.cell 3
                have b4 := hp.cell 4
                refine ret_markc (v := .tuple #[.agg (chA (some ⟨6, -q, p, k, bb⟩)), .bool true]) rfl hDF (by simp [results, Tryz.results19, go_sem, chA, b0, b1, b2, b3, b4]) ?_
                rw [HJN.out]
                exact ⟨rfl, (hch.toExt (HE4.out.trans HE9.out) (fun i e => by omega)) |> fun h => (putObj_chg wF D (.deferred none)).toExt h (fun i e => by omega)⟩
            · have HJN : Hid _ := Lib.hid (HJ.out.trans (if_neg (by rw [decide_eq_false hx]; simp)))
              clear HJ
              go_wp2_with fail
              go_roundg 0
              case measure => omega
              case rel => exact ⟨HE8, .inr (.inr ⟨by go_num, rfl, HJN⟩)⟩
          · have HS2 : Hid (R = (List.range' (k + 1) (us.length - (k + 1))).findSome? fun i => stepP d i) := Lib.hid (HJ.out.trans HREST.out)
            go_wp2
            go_roundg (us.length - (k + 1))
            case measure => omega
            case rel => exact ⟨k + 1, by omega, by omega, by go_num, Lib.hid (HE5.out.trans HE7.out), HS2⟩
     · have hb : ((L : Int) != 2) = true := by simp; omega
       have HS : Hid (R = (List.range' (k + 1) (us.length - (k + 1))).findSome? fun i => stepP d i) := Lib.hid (by
        rw [HRK.out, show stepP d k = none by unfold stepP; rw [if_neg (by rw [HROWF.out, ← HL.out]; exact h2)]]; rfl)
       clear HRK
       go_wp2
       go_roundg (us.length - (k + 1))
       case measure => omega
       case rel => exact ⟨k + 1, by omega, by omega, by go_num, HE5, HS⟩
   · obtain rfl : k = us.length := by omega
     have HF : Hid (R = none) := Lib.hid (by rw [HR.out, Nat.sub_self]; rfl)
     have hbr5 := (HE5.out.chg (fun _ => False)).blk HBR.out id
     have b0 := hbr5.cell 0
     have b1 := hbr5.cell 1
     have b2 := hbr5.cell 2
     have b3 := hbr5.cell 3
     have b4 := hbr5.cell 4
     have f0 := hbr5.free 0
     have f1 := hbr5.free 1
     have f2 := hbr5.free 2
     have f3 := hbr5.free 3
     have f4 := hbr5.free 4
     have hH5 := (HE5.out.block D (Array.getElem?_eq_some_iff.1 HK.out).1).trans HK.out
     have H5 := Lib.hid hH5
     have HBR5 := Lib.hid hbr5
     clear hbr5 hH5
     go_wp2
     obtain ⟨hch, hblk⟩ := set5 w5 (w.heap.size + 1) 37 _ _ _ _ _ (.int .u8 0) (.int .i64 0) (.int .i64 0) (.int .i64 0) (.int .i64 0) HBR5.out
     generalize ((((w5.setCell ⟨w.heap.size + 1, 0, none⟩ (.int .u8 0)).setCell _ _).setCell _ _).setCell _ _).setCell _ _ = wF at hch hblk ⊢
     have hDF : wF.heap[D]? = some (.deferred (some [])) := (hch.block D (Array.getElem?_eq_some_iff.1 H5.out).1 (fun e => by omega)).trans H5.out
     have hp := (putObj_chg wF D (.deferred none)).blk hblk (fun e => by omega)
     have b0 := hp.cell 0
     have b1 := hp.cell 1
     have b2 := hp.cell 2
     have b3 := hp.cell 3
     have b4 := hp.cell 4
     refine ret_markc (v := .tuple #[.agg (chA none), .bool false]) rfl hDF (by simp [results, Tryz.results19, go_sem, chA, b0, b1, b2, b3, b4]) ?_
     rw [HF.out]
     exact ⟨rfl, ((hch.toExt (HE4.out.trans HE5.out) (fun i e => by omega)).trans (Ext.refl _)) |> fun h => (putObj_chg wF D (.deferred none)).toExt h (fun i e => by omega)⟩
 case stop =>
  intro D c pre T W _ _ _ h _
  exact h.elim
theorem Next_any (d : DqV) (vu vx vc : Value) (w : World) (hd : RD w vu vx vc d) (ok : DOk d) : Calls Tryz.prog 19 #[.agg #[vu, vx, vc]] w (PostNext w (nextP d)) := by
 unfold nextP
 cases hm : mayD d
 · rw [if_neg (by decide)]
   exact Next_no d vu vx vc w hd ok hm
 · rw [if_pos rfl]
   exact Next_yes d vu vx vc w hd ok hm _ rfl
end Go.Proofs.YtjecjaihficcdaaGreat
namespace Go.Proofs.YtjecjaihficcdaaGreat
open Go.RowKit Go.Proofs.YtjecjaihficcdaaGreatW.PrintWords
def s61 (X : List (Int × List Int)) : List PEquivNext.S61 := X.map fun x => ⟨x.1, x.2⟩
theorem s61_back (X : List (Int × List Int)) : (s61 X).map (fun s => (s.f0, s.f1)) = X := by unfold s61; rw [List.map_map]; simp [Function.comp_def]
theorem dqv_s61 (d : DqV) : PEquivNext.dqv d.univ (s61 d.exist) d.clauses = d := by unfold PEquivNext.dqv; rw [s61_back]
theorem s61_len (X : List (Int × List Int)) : (s61 X).length = X.length := by unfold s61; rw [List.length_map]
theorem s61_all {X : List (Int × List Int)} {Q : PEquivNext.S61 → Prop} (h : ∀ x ∈ X, Q ⟨x.1, x.2⟩) : ∀ x ∈ s61 X, Q x := fun x hx => by
 unfold s61 at hx
 obtain ⟨y, hy, rfl⟩ := List.mem_map.1 hx
 exact h y hy
theorem s61_get (X : List (Int × List Int)) (j : Nat) (h : j < (s61 X).length) (h' : j < X.length) : (s61 X)[j] = ⟨X[j].1, X[j].2⟩ := by simp [s61]
theorem addr_two (ad : Addr) (k : Nat) : ad.add (k * 2 + 1) = ⟨(ad.add (k * 2)).block, (ad.add (k * 2)).off + 1, none⟩ := by
 unfold Addr.add
 rw [if_neg (by omega)]
 by_cases h : k * 2 = 0
 · rw [if_pos h, h]
 · rw [if_neg h]; simp [Nat.add_assoc]
theorem RX.kd {w : World} {v : Value} {X : List (Int × List Int)} (h : RX w v X) : ∃ A c, v = .slice A (s61 X).length c ∧ (s61 X).length ≤ c ∧ Kd.C PEquivNext.k61 w A (s61 X).length (s61 X) := by
 obtain ⟨A, c, ons, rfl, h1, h2, h3, h4⟩ := h
 rw [s61_len]
 refine ⟨A, c, rfl, h1, by rw [s61_len], h2, fun h0 => ?_⟩
 obtain ⟨ad, rfl, -⟩ := h4 0 h0 (by omega)
 refine ⟨ad, rfl, fun j p hp => ?_⟩
 obtain ⟨hj, rfl⟩ := List.getElem?_eq_some_iff.1 hp
 have hjx : j < X.length := by rwa [s61_len] at hj
 obtain ⟨ad', had, c1, c2, hr⟩ := h4 j hjx (by omega)
 cases had
 obtain ⟨A', c', hv, hl, hC⟩ := hr.kd
 rw [s61_get X j hj hjx]
 refine ⟨[.int .i64 X[j].1, .slice A' X[j].2.length c'], rfl, PEquivNext.k61_mk w ⟨X[j].1, X[j].2⟩ hl hC, fun i u hu => ?_⟩
 obtain ⟨hi, rfl⟩ := List.getElem?_eq_some_iff.1 hu
 rw [show PEquivNext.k61.sz = 2 from rfl]
 match i, hi with
 | 0, _ => exact c1
 | 1, _ => rw [hv] at c2; rw [addr_two]; exact c2
theorem RD.kd {w : World} {vu vx vc : Value} {d : DqV} (h : RD w vu vx vc d) : ∃ UA uc XA xc CA cc, vu = .slice UA d.univ.length uc ∧ vx = .slice XA (s61 d.exist).length xc ∧ vc = .slice CA d.clauses.length cc ∧
 d.univ.length ≤ uc ∧ (s61 d.exist).length ≤ xc ∧ d.clauses.length ≤ cc ∧ Kd.C (Kd.int .i64) w UA d.univ.length d.univ ∧ Kd.C PEquivNext.k61 w XA (s61 d.exist).length (s61 d.exist) ∧ Kd.C (Kd.slice 3 (Kd.int .i64)) w CA d.clauses.length d.clauses := by
 obtain ⟨UA, uc, h1, h2, h3⟩ := h.u.kd
 obtain ⟨XA, xc, k1, k2, k3⟩ := h.x.kd
 obtain ⟨CA, cc, q1, q2, q3⟩ := h.c.kd
 exact ⟨UA, uc, XA, xc, CA, cc, h1, k1, q1, h2, k2, q2, h3, k3, q3⟩
theorem len_le_total' {f : List (List Int)} {l : List Int} (h : l ∈ f) : l.length ≤ total f := by
 unfold total lens
 rw [List.take_length]
 induction f with
 | nil => cases h
 | cons c f ih =>
   rw [List.map_cons, List.sum_cons]
   rcases List.mem_cons.1 h with rfl | h
   · omega
   · have := ih h; omega
section
variable {d : DqV} (ok : DOk d)
include ok
theorem mayD_evn : Evn (fun k => PEquivNext.skolemref03_MayDqbf.f k d.univ (s61 d.exist) d.clauses) (mayD d) := by
 have := PEquivNext.MayD_f d.univ (s61 d.exist) d.clauses (by have := ok.ul; omega) (by rw [s61_len]; have := ok.xl; omega) (s61_all (Q := fun s => s.f1.length ≤ 9223372036854775807) fun x hx => by have := ok.ol x hx; show x.2.length ≤ _; omega)
  (by have := ok.cl; omega) (fun c hc => by have := len_le_total' hc; have := ok.tot; omega) (by have := ok.tot; omega)
 rwa [dqv_s61] at this
theorem refMayD_any (vu vx vc : Value) (w : World) (hd : RD w vu vx vc d) : Calls Tryz.prog 24 #[.agg #[vu, vx, vc]] w fun e w' => e = .returned (.bool (mayD d)) ∧ Ext w w' := by
 obtain ⟨K, hK⟩ := mayD_evn ok
 obtain ⟨UA, uc, XA, xc, CA, cc, rfl, rfl, rfl, l1, l2, l3, h1, h2, h3⟩ := hd.kd
 refine (PEquivNext.skolemref03_MayDqbf.calls K UA uc d.univ XA xc (s61 d.exist) CA cc d.clauses _ w h1 l1 h2 l2 h3 l3 (hK K (Nat.le_refl _))).mono ?_
 rintro e w' ⟨rfl, hE⟩
 exact ⟨rfl, hE⟩
end
end Go.Proofs.YtjecjaihficcdaaGreat
namespace Go.Proofs.YtjecjaihficcdaaGreat
open Go.ChangeShapes Go.WideShapes Go.ChangeAt Go.RowKit
theorem ownK : ownKnob Tryz.prog.godebug = none := by kernel_rfl
theorem laidOutK : laidOutB Tryz.prog = true := by kernel_rfl
theorem cellsI : Tryz.prog.cellsOf 3 = 1 := by kernel_rfl
theorem cellsL : Tryz.prog.cellsOf 24 = 1 := by kernel_rfl
theorem cellsX : Tryz.prog.cellsOf 61 = 2 := by kernel_rfl
theorem cellsD : Tryz.prog.cellsOf 27 = 3 := by kernel_rfl
theorem cellsXL : Tryz.prog.cellsOf 25 = 1 := by kernel_rfl
theorem cellsLL : Tryz.prog.cellsOf 22 = 1 := by kernel_rfl
theorem I64_wf {n : Int} (h : (Lit.int .i64 n).wf = true) : I64 n := by
 have : -9223372036854775808 ≤ n ∧ n ≤ 9223372036854775807 := by simpa [Lit.wf, IntKind.min, IntKind.max, IntKind.bits, IntKind.signed] using h
 exact this
theorem bulk_one {H : Type} (d : DataW H) : 1 ≤ Rows.uptoBulk d := by
 cases d with
 | lit l => cases l <;> simp [Rows.uptoBulk]
 | nil => simp [Rows.uptoBulk]
 | ptr d => simp [Rows.uptoBulk]
 | slice elems spare => simp [Rows.uptoBulk]
 | agg parts => simp [Rows.uptoBulk]
 | iface t d => simp [Rows.uptoBulk]
 | map entries => simp [Rows.uptoBulk]
 | held h => simp [Rows.uptoBulk]
theorem bulk_part {H : Type} {d : DataW H} {l : List (DataW H)} (h : d ∈ l) : Rows.uptoBulk d ≤ Rows.uptoBulkAll l := by
 induction l with
 | nil => cases h
 | cons x r ih =>
   simp only [Rows.uptoBulkAll]
   cases List.mem_cons.1 h with
   | inl e => subst e; omega
   | inr e => have := ih e; omega
theorem bulk_len {H : Type} (l : List (DataW H)) : l.length ≤ Rows.uptoBulkAll l := by
 induction l with
 | nil => simp [Rows.uptoBulkAll]
 | cons x r ih => have := bulk_one x; simp only [Rows.uptoBulkAll, List.length_cons]; omega
theorem bulk_slice {H : Type} (elems spare : List (DataW H)) : elems.length + spare.length + 1 ≤ Rows.uptoBulk (.slice elems spare) := by
 have h1 := bulk_len elems
 have h2 := bulk_len spare
 simp only [Rows.uptoBulk]
 omega
theorem bulk_elem {H : Type} {d : DataW H} {elems spare : List (DataW H)} (h : d ∈ elems) : Rows.uptoBulk d ≤ Rows.uptoBulk (.slice elems spare) := by
 have := bulk_part h
 simp only [Rows.uptoBulk]
 omega
theorem list_of {α : Type} {P : Nat → α → Prop} : ∀ n : Nat, (∀ i, i < n → ∃ y, P i y) → ∃ l : List α, l.length = n ∧ ∀ i (h : i < l.length), P i l[i]
 | 0, _ => ⟨[], rfl, fun i h => absurd h (Nat.not_lt_zero i)⟩
 | n + 1, h => by
   obtain ⟨l, hl, hp⟩ := list_of n fun i hi => h i (by omega)
   obtain ⟨y, hy⟩ := h n (by omega)
   refine ⟨l ++ [y], by simp [hl], fun i hi => ?_⟩
   by_cases hin : i < l.length
   · rw [List.getElem_append_left hin]; exact hp i hin
   · have : i = n := by simp at hi; omega
     subst this
     rw [List.getElem_append_right (by omega)]
     simpa [hl] using hy
section
variable {H : Type} {enc : TypeId × Value → H} {W : World} {base : Nat} {held : Bool} {fuel : Nat} {x : DataW H × List MemPlace}
theorem open_RIc {v : Value} (h : DataW.trod enc Tryz.prog W base (fun _ => true) held fuel 24 [v] = some x) : ∃ xs, RI W v xs ∧ All64 xs ∧ xs.length + 1 ≤ Rows.uptoBulk x.1 := by
 rcases open_ints Tryz.underlying24 Tryz.underlying3 cellsI h with ⟨hcs, hx⟩ | ⟨a', len', cap', zs, hcs, _, hl, hm, hz, hx, hcell, hwz⟩
 · obtain rfl : v = .slice none 0 0 := by simpa using hcs
   exact ⟨[], RI.none W, fun y hy => (by cases hy), by rw [hx]; exact bulk_one _⟩
 · obtain rfl : v = .slice (some a') len' cap' := by simpa using hcs
   simp only [if_true] at hz
   have hlz : (zs.take len').length = len' := by rw [List.length_take]; omega
   unfold maxLen at hm
   refine ⟨zs.take len', ⟨some a', cap', by rw [hlz], by omega, by omega, fun j hj => ?_⟩, fun y hy => I64_wf (hwz y (List.mem_of_mem_take hy)), ?_⟩
   · rw [List.length_map, hlz] at hj
     refine ⟨a', rfl, ?_⟩
     rw [hcell j (by omega)]
     simp [show j < zs.length by omega]
   · rw [hx]
     refine Nat.le_trans ?_ (bulk_slice _ _)
     (simp [lits] <;> omega)
theorem open_RXc {v : Value} (h : DataW.trod enc Tryz.prog W base (fun _ => true) held fuel 25 [v] = some x) :
 ∃ X : List (Int × List Int), RX W v X ∧ (∀ p ∈ X, I64 p.1 ∧ All64 p.2) ∧ X.length ≤ Rows.uptoBulk x.1 ∧ ∀ p ∈ X, p.2.length ≤ Rows.uptoBulk x.1 := by
 rcases Go.Deep.open_slice_pairs Tryz.underlying25 Tryz.underlying61 cellsX rfl rfl cellsI cellsL h with ⟨hcs, hx⟩ | ⟨a, len, cap, m, n, V0, V1, D0, D1, P0, P1, hcs, -, hl, hm, hmm, hx, hf⟩
 · obtain rfl : v = .slice none 0 0 := by simpa using hcs
   exact ⟨[], ⟨Option.none, 0, [], rfl, Nat.le_refl _, by simp, rfl, fun j h => absurd h (Nat.not_lt_zero j)⟩, fun p hp => (by cases hp), Nat.zero_le _, fun p hp => (by cases hp)⟩
 · obtain rfl : v = .slice (some a) len cap := by simpa using hcs
   simp only [if_true] at hmm
   subst hmm
   unfold maxLen at hm
   obtain ⟨X, hXl, hX⟩ := list_of (P := fun i (y : Int × List Int) => V0 i = .int .i64 y.1 ∧ I64 y.1 ∧ RI W (V1 i) y.2 ∧ All64 y.2 ∧ y.2.length + 1 ≤ Rows.uptoBulk (D1 i)) len fun i hi => by
    obtain ⟨-, -, t0, t1⟩ := hf i (by omega)
    obtain ⟨z, hz, -, hwf⟩ := DataW.trod_int Tryz.underlying3 t0
    obtain ⟨ys, r1, r2, r3⟩ := open_RIc t1
    exact ⟨(z, ys), by simpa using hz, I64_wf hwf, r1, r2, r3⟩
   have hb : len ≤ Rows.uptoBulk x.1 := by
    rw [hx]
    refine Nat.le_trans ?_ (bulk_slice _ _)
    simp; omega
   have hel : ∀ i, i < len → Rows.uptoBulk (D1 i) ≤ Rows.uptoBulk x.1 := fun i hi => by
    rw [hx]
    refine Nat.le_trans ?_ (bulk_elem (List.mem_map.2 ⟨i, List.mem_range.2 hi, rfl⟩))
    simp only [Rows.uptoBulk, Rows.uptoBulkAll]
    omega
   refine ⟨X, ⟨some a, m, (List.range len).map V1, by rw [hXl], by omega, by omega, by simp [hXl], fun j hj hj' => ?_⟩, fun p hp => ?_, by omega, fun p hp => ?_⟩
   · obtain ⟨c0, c1, -, -⟩ := hf j (by omega)
     obtain ⟨q1, q2, q3, q4, q5⟩ := hX j hj
     refine ⟨a, rfl, by rw [c0, q1], ?_, ?_⟩
     · rw [← addr_two, c1]; simp
     · simpa using q3
   · obtain ⟨j, hj, rfl⟩ := List.mem_iff_getElem.1 hp
     exact ⟨(hX j hj).2.1, (hX j hj).2.2.2.1⟩
   · obtain ⟨j, hj, rfl⟩ := List.mem_iff_getElem.1 hp
     have h1 := (hX j hj).2.2.2.2
     have h2 := hel j (by omega)
     omega
theorem open_RLLc {v : Value} (h : DataW.trod enc Tryz.prog W base (fun _ => true) held fuel 22 [v] = some x) :
 ∃ f, RLL W v f ∧ All64L f ∧ f.length ≤ Rows.uptoBulk x.1 ∧ ∀ c ∈ f, c.length ≤ Rows.uptoBulk x.1 := by
 rcases Go.Deep.open_int_rows Tryz.underlying22 Tryz.underlying24 Tryz.underlying3 cellsL cellsI h with ⟨hcs, hx⟩ | ⟨a', len, cap, A, L, C, Z, hcs, _, hl, hm, hx, hr⟩
 · obtain rfl : v = .slice none 0 0 := by simpa using hcs
   exact ⟨[], RLL.none W, fun y hy => (by cases hy), Nat.zero_le _, fun y hy => (by cases hy)⟩
 · obtain rfl : v = .slice (some a') len cap := by simpa using hcs
   unfold maxLen at hm hr
   let f : List (List Int) := List.ofFn fun r : Fin len => (Z r.1).take (L r.1)
   have hfl : f.length = len := by simp [f]
   have hfg : ∀ j (hj : j < f.length), f[j] = (Z j).take (L j) := fun j hj => by simp [f]
   have hfk : ∀ j (hj : j < f.length), f[j].length = L j := fun j hj => by
    rw [hfg j hj, List.length_take]
    have := hr j (by omega); omega
   let vs : List Value := List.ofFn fun r : Fin len => Value.slice (A r.1) (L r.1) (C r.1)
   have hvl : vs.length = len := by simp [vs]
   have hvg : ∀ j (hj : j < vs.length), vs[j] = Value.slice (A j) (L j) (C j) := fun j hj => by simp [vs]
   have hb : len ≤ Rows.uptoBulk x.1 := by
    rw [hx]
    refine Nat.le_trans ?_ (bulk_slice _ _)
    simp; omega
   refine ⟨f, ⟨some a', cap, vs, by rw [hvl], by omega, by omega, fun j hj => ⟨a', rfl, ?_⟩, by omega, fun j hj hj' => ?_⟩, fun c hc => ?_, by omega, fun c hc => ?_⟩
   · rw [hvg j hj]; exact (hr j (by omega)).1
   · obtain ⟨h1, h2, h3, h4, h5, h6, h7⟩ := hr j (by omega)
     refine ⟨A j, C j, by rw [hvg j hj, hfk j hj'], by rw [hfk j hj']; exact h2, by rw [hfk j hj']; omega, fun i hi => ?_⟩
     rw [List.length_map, hfk j hj'] at hi
     cases hA : A j with
     | none => have := h6 hA; omega
     | some a'' =>
       refine ⟨a'', rfl, ?_⟩
       rw [(h7 a'' hA).2 i (by omega), List.getElem_map]
       have : f[j][i]'(by rw [hfk j hj']; exact hi) = (Z j).getD i 0 := by
        simp only [hfg j hj', List.getElem_take]
        simp [show i < (Z j).length by omega]
       rw [this]
   · obtain ⟨j, hj, rfl⟩ := List.mem_iff_getElem.1 hc
     intro y hy
     rw [hfg j hj] at hy
     exact I64_wf ((hr j (by omega)).2.2.2.2.1 y (List.mem_of_mem_take hy))
   · obtain ⟨j, hj, rfl⟩ := List.mem_iff_getElem.1 hc
     rw [hfk j hj]
     obtain ⟨h1, h2, h3, h4, h5, h6, h7⟩ := hr j (by omega)
     cases hA : A j with
     | none => have := h6 hA; omega
     | some a'' =>
       have hin : Go.Deep.intRow (H := H) .i64 (A j) (L j) (Z j) ∈ (List.range len).map fun r => Go.Deep.intRow (H := H) .i64 (A r) (L r) (Z r) := List.mem_map.2 ⟨j, List.mem_range.2 (by omega), rfl⟩
       have h8 := bulk_elem (spare := (List.range (cap - len)).map fun r => Go.Deep.intRow (H := H) .i64 (A (len + r)) (L (len + r)) (Z (len + r))) hin
       rw [hA] at h8
       have h9 := bulk_slice (lits (H := H) .i64 ((Z j).take (L j))) (lits .i64 ((Z j).drop (L j)))
       have h10 : (lits (H := H) .i64 ((Z j).take (L j))).length = L j := by simp [lits]; omega
       have h11 : Rows.uptoBulk (Go.Deep.intRow (H := H) .i64 (some a'') (L j) (Z j)) ≤ Rows.uptoBulk x.1 := by
        rw [hx]
        refine Nat.le_trans (bulk_elem ?_) (Nat.le_refl _)
        rw [← hA]
        exact hin
       have h12 : Rows.uptoBulk (Go.Deep.intRow (H := H) .i64 (some a'') (L j) (Z j)) = Rows.uptoBulk (DataW.slice (lits (H := H) .i64 ((Z j).take (L j))) (lits .i64 ((Z j).drop (L j)))) := rfl
       omega
theorem open_RDc {v : Value} (hv : ∃ cs, v = .agg cs ∧ cs.size = 3) (h : DataW.trod enc Tryz.prog W base (fun _ => true) held fuel 27 v.cells.toList = some x) (hb : Rows.uptoBulk x.1 ≤ 1048576) :
 ∃ (vu vx vc : Value) (d : DqV), v = .agg #[vu, vx, vc] ∧ RD W vu vx vc d ∧ D64 d ∧ sizeD d ≤ 9223372036854775807 := by
 obtain ⟨cs, rfl, hs⟩ := hv
 obtain ⟨cl⟩ := cs
 match cl, hs with
 | [vu, vx, vc], _ =>
   obtain ⟨y0, y1, y2, n, hx, hl, t0, t1, t2⟩ := Go.Deep.trod_struct3 Tryz.underlying27 h
   have e0 : DataW.trod enc Tryz.prog W base (fun _ => true) held n 24 [vu] = some y0 := by
    rw [cellsL] at t0; exact t0
   have e1 : DataW.trod enc Tryz.prog W base (fun _ => true) held n 25 [vx] = some y1 := by
    rw [cellsXL] at t1; exact t1
   have e2 : DataW.trod enc Tryz.prog W base (fun _ => true) held n 22 [vc] = some y2 := by
    rw [cellsLL] at t2; exact t2
   obtain ⟨U, u1, u2, u3⟩ := open_RIc e0
   obtain ⟨X, x1, x2, x3, x4⟩ := open_RXc e1
   obtain ⟨F, f1, f2, f3, f4⟩ := open_RLLc e2
   have hbb : Rows.uptoBulk x.1 = Rows.uptoBulk y0.1 + (Rows.uptoBulk y1.1 + (Rows.uptoBulk y2.1 + 0)) + 1 := by rw [hx]; simp only [Rows.uptoBulk, Rows.uptoBulkAll]
   refine ⟨vu, vx, vc, ⟨U, X, F⟩, rfl, ⟨u1, x1, f1⟩, ⟨u2, x2, f2⟩, ?_⟩
   have hsx : sumX X X.length ≤ X.length * 1048577 := by
    unfold sumX
    rw [List.take_length]
    have hall : ∀ p ∈ X, 1 + p.2.length ≤ 1048577 := fun p hp => by have := x4 p hp; omega
    clear x1 x2 x3 x4
    induction X with
    | nil => simp
    | cons c X ih =>
      have h1 := hall c (by simp)
      have h2 := ih fun p hp => hall p (by simp [hp])
      rw [List.map_cons, List.sum_cons, List.length_cons, Nat.add_mul]
      omega
   have hsf : total F ≤ F.length * 1048576 := by
    unfold total lens
    rw [List.take_length]
    have hall : ∀ p ∈ F, p.length ≤ 1048576 := fun p hp => by have := f4 p hp; omega
    clear f1 f2 f3 f4
    induction F with
    | nil => simp
    | cons c F ih =>
      have h1 := hall c (by simp)
      have h2 := ih fun p hp => hall p (by simp [hp])
      rw [List.map_cons, List.sum_cons, List.length_cons, Nat.add_mul]
      omega
   have hX : X.length * 1048577 ≤ 1048576 * 1048577 := Nat.mul_le_mul (by omega) (Nat.le_refl _)
   have hF : F.length * 1048576 ≤ 1048576 * 1048576 := Nat.mul_le_mul (by omega) (Nat.le_refl _)
   unfold sizeD
   show U.length + total F + sumX X X.length ≤ _
   omega
end
end Go.Proofs.YtjecjaihficcdaaGreat
namespace Go.Proofs.YtjecjaihficcdaaGreat
open Go.RowKit
theorem lhas_any (xs : List Int) (y : Int) (v : Value) (w : World) (hr : RI w v xs) : Calls Tryz.prog 115 #[v, .int .i64 y] w fun e w' => e = .returned (.bool (decide (y ∈ xs))) ∧ Ext w w' := by
 have H := Lib.hid (Contains_any xs y v w hr)
 clear hr
 go_enter Tryz.func115, Tryz.ntmps115
 go_wp2_with (go_at_call 86; refine H.out.mono ?_; rintro e w' ⟨rfl, hE⟩; have HE := Lib.hid hE; clear hE)
 go_ret
 exact ⟨rfl, HE.out⟩
set_option maxRecDepth 100000 in
set_option maxHeartbeats 4000000 in
theorem pair_any (d : DqV) (vu vx vc : Value) (i x y : Int) (w : World) (hd : RD w vu vx vc d) (ok : DOk d) :
 Calls Tryz.prog 58 #[.agg #[vu, vx, vc], .int .i64 i, .int .i64 x, .int .i64 y] w fun e w' => e = .returned (.bool (hasR d i x y)) ∧ Ext w w' := by
 obtain ⟨Rz, hRz⟩ : ∃ Rz, Rz = hasR d i x y := ⟨_, rfl⟩
 rw [← hRz]
 have HR := Lib.hid hRz
 obtain ⟨⟨UA, uc, hue, -⟩, ⟨XA, xc, ons, hxe, -⟩, ⟨CA, cc, us, hce, hc1, hc2, hc3, hc4, hc5⟩⟩ := hd
 subst hue hxe hce
 have HE := Lib.hid (Ext.alloc w (.cells #[.slice UA d.univ.length uc, .slice XA d.exist.length xc, .slice CA us.length cc] 27))
 have HB := Lib.hid (Blk.new w 27 [.slice UA d.univ.length uc, .slice XA d.exist.length xc, .slice CA us.length cc])
 have hcl := ok.cl
 obtain ⟨n, hn⟩ : ∃ n, n = us.length := ⟨_, rfl⟩
 have HN := Lib.hid hn
 have H4 := Lib.hid hc4
 have H5 := Lib.hid hc5
 have H3 := Lib.hid (hc3.ext HE.out)
 have hnl : n ≤ 1000000 := by rw [hn, hc4]; exact hcl
 rw [← hn]
 rw [← hn] at HE H3 HB
 clear hRz hcl hc1 hc2 hc3 hc4 hc5 hn
 by_cases h0 : 0 ≤ i
 · have h0b : decide (0 ≤ i) = true := decide_eq_true h0
   by_cases h1 : i < (n : Int)
   · have h1b : decide (i < (n : Int)) = true := decide_eq_true h1
     obtain ⟨k, hk⟩ : ∃ k : Nat, i = (k : Int) := ⟨i.toNat, by omega⟩
     subst hk
     have hkn : k < us.length := by rw [← HN.out]; omega
     have hkc : k < d.clauses.length := by rw [← H4.out]; exact hkn
     obtain ⟨ad, had, hcell⟩ := H3.out k hkn
     subst had
     have hri := H5.out k hkn hkc
     have hrow : d.row (k : Int).toNat = d.clauses[k] := by unfold DqV.row; rw [Int.toNat_natCast, getD_of _ k hkc]
     obtain ⟨C, hC⟩ : ∃ C, C = d.clauses[k] := ⟨_, rfl⟩
     rw [← hC] at hri hrow
     obtain ⟨KA, kc, hke, -⟩ := hri
     rw [hke] at hcell
     have hri := H5.out k hkn hkc
     rw [hke, ← hC] at hri
     have HRI := Lib.hid hri
     obtain ⟨m, hm⟩ : ∃ m, m = C.length := ⟨_, rfl⟩
     rw [← hm] at hcell HRI
     have HM := Lib.hid hm
     have HRE : Hid (Rz = (decide (m = 2) && decide (x ∈ C) && decide (y ∈ C))) := Lib.hid (by
      rw [HR.out]; unfold hasR
      rw [hrow, decide_eq_true (show (k : Int) < d.clauses.length by omega), decide_eq_true h0, ← hm]; rfl)
     have hkn' : k < n := by omega
     clear hri hke hkn hkc hrow hC hm
     by_cases h2 : m = 2
     · have h2b : ((m : Int) == 2) = true := by simp [h2]
       by_cases hx : x ∈ C
       · have HRF : Hid (Rz = decide (y ∈ C)) := Lib.hid (by rw [HRE.out, decide_eq_true hx, decide_eq_true h2]; rfl)
         have HX := Lib.hid (decide_eq_true hx)
         clear hx
         subst h2
         go_enter Tryz.func58, Tryz.ntmps58
         go_wp2_with (first
          | (go_at_call 115; refine (lhas_any C x _ _ (HRI.out.ext HE.out)).mono ?_; rintro e w2 ⟨rfl, hE⟩; rw [HX.out]; have HE2 := Lib.hid (HE.out.trans hE); have hb2 := ((hE.chg (fun _ => False)).blk HB.out id).cell 2; have hc2 := hE.cell hcell; clear hE)
          | (go_at_call 115; refine (lhas_any C y _ _ (HRI.out.ext HE2.out)).mono ?_; rintro e w3 ⟨rfl, hE⟩; rw [← HRF.out]; have HE3 := Lib.hid (HE2.out.trans hE); clear hE))
         go_ret
         exact ⟨rfl, HE3.out⟩
       · have HRF : Hid (Rz = false) := Lib.hid (by rw [HRE.out, decide_eq_false hx]; simp)
         have HX := Lib.hid (decide_eq_false hx)
         clear hx
         subst h2
         go_enter Tryz.func58, Tryz.ntmps58
         go_wp2_with (go_at_call 115; refine (lhas_any C x _ _ (HRI.out.ext HE.out)).mono ?_; rintro e w2 ⟨rfl, hE⟩; rw [HX.out]; have HE2 := Lib.hid (HE.out.trans hE); clear hE)
         go_ret
         exact ⟨(congrArg (fun b : Bool => Ending.returned (Value.bool b)) HRF.out).symm, HE2.out⟩
     · have h2b : ((m : Int) == 2) = false := by simp; omega
       have HRF : Hid (Rz = false) := Lib.hid (by rw [HRE.out, decide_eq_false h2]; rfl)
       go_enter Tryz.func58, Tryz.ntmps58
       go_wp2
       go_ret
       exact ⟨(congrArg (fun b : Bool => Ending.returned (Value.bool b)) HRF.out).symm, HE.out⟩
   · have h1b : decide (i < (n : Int)) = false := decide_eq_false h1
     have HF : Hid (Rz = false) := Lib.hid (by rw [HR.out]; unfold hasR; rw [decide_eq_false (show ¬ i < d.clauses.length by rw [← H4.out, ← HN.out]; exact h1)]; simp)
     go_enter Tryz.func58, Tryz.ntmps58
     go_wp2
     go_ret
     exact ⟨(congrArg (fun b : Bool => Ending.returned (Value.bool b)) HF.out).symm, HE.out⟩
 · have h0b : decide (0 ≤ i) = false := decide_eq_false h0
   have HF : Hid (Rz = false) := Lib.hid (by rw [HR.out]; unfold hasR; rw [h0b]; rfl)
   go_enter Tryz.func58, Tryz.ntmps58
   go_wp2
   go_ret
   exact ⟨(congrArg (fun b : Bool => Ending.returned (Value.bool b)) HF.out).symm, HE.out⟩
end Go.Proofs.YtjecjaihficcdaaGreat
namespace Go.Proofs.YtjecjaihficcdaaGreat
open Go.RowKit
def cmpI (a b : Int) : Int := if a < b then -1 else if b < a then 1 else 0
set_option maxHeartbeats 400000 in
theorem isNaN_any (a : Int) (w : World) : Calls Tryz.prog 131 #[.int .i64 a] w fun e w' => e = .returned (.bool false) ∧ w = w' := by
 go_enter Tryz.func131, Tryz.ntmps131
 go_wp2
 go_ret
 exact ⟨by simp, rfl⟩
set_option maxHeartbeats 400000 in
theorem cmp_any (a b : Int) (w : World) : Calls Tryz.prog 94 #[.int .i64 a, .int .i64 b] w fun e w' => e = .returned (.int .i64 (cmpI a b)) ∧ w = w' := by
 by_cases h1 : a < b
 · go_enter Tryz.func94, Tryz.ntmps94
   go_wp2_with (go_at_call 131; refine (isNaN_any _ _).mono ?_; rintro e w' ⟨rfl, rfl⟩)
   go_ret
   exact ⟨ret_int (by unfold cmpI; rw [if_pos h1]), rfl⟩
 · by_cases h2 : b < a
   · go_enter Tryz.func94, Tryz.ntmps94
     go_wp2_with (go_at_call 131; refine (isNaN_any _ _).mono ?_; rintro e w' ⟨rfl, rfl⟩)
     go_ret
     exact ⟨ret_int (by unfold cmpI; rw [if_neg (by omega), if_pos h2]), rfl⟩
   · go_enter Tryz.func94, Tryz.ntmps94
     go_wp2_with (go_at_call 131; refine (isNaN_any _ _).mono ?_; rintro e w' ⟨rfl, rfl⟩)
     go_ret
     exact ⟨ret_int (by unfold cmpI; rw [if_neg (by omega), if_neg (by omega)]), rfl⟩
end Go.Proofs.YtjecjaihficcdaaGreat
namespace Go.Proofs.YtjecjaihficcdaaGreat
open Go.RowKit
def sizeA (n : Int) : Int := if n < 0 then IntKind.u64.wrap (-(IntKind.u64.wrap n)) else IntKind.u64.wrap n
theorem sizeA_abs {n : Int} (h : I64 n) : sizeA n = (n.natAbs : Int) := by
 unfold I64 at h
 unfold sizeA
 split
 · simp only [wrapu]; omega
 · simp only [wrapu]; omega
def ordF (x y : Int) : Int := if cmpI (sizeA x) (sizeA y) = 0 then cmpI x y else cmpI (sizeA x) (sizeA y)
set_option maxHeartbeats 400000 in
theorem size_all (n : Int) (w : World) : Calls Tryz.prog 88 #[.int .i64 n] w fun e w' => e = .returned (.int .u64 (sizeA n)) ∧ w = w' := by
 by_cases h : n < 0
 · go_enter Tryz.func88, Tryz.ntmps88
   go_wp2
   go_ret
   exact ⟨ret_int (by unfold sizeA; rw [if_pos h]), rfl⟩
 · go_enter Tryz.func88, Tryz.ntmps88
   go_wp2
   go_ret
   exact ⟨ret_int (by unfold sizeA; rw [if_neg (by omega)]), rfl⟩
set_option maxHeartbeats 400000 in
theorem isNaNu_any (a : Int) (w : World) : Calls Tryz.prog 180 #[.int .u64 a] w fun e w' => e = .returned (.bool false) ∧ w = w' := by
 go_enter Tryz.func180, Tryz.ntmps180
 go_wp2
 go_ret
 exact ⟨by simp, rfl⟩
set_option maxHeartbeats 400000 in
theorem cmpu_any (a b : Int) (w : World) : Calls Tryz.prog 158 #[.int .u64 a, .int .u64 b] w fun e w' => e = .returned (.int .i64 (cmpI a b)) ∧ w = w' := by
 by_cases h1 : a < b
 · go_enter Tryz.func158, Tryz.ntmps158
   go_wp2_with (go_at_call 180; refine (isNaNu_any _ _).mono ?_; rintro e w' ⟨rfl, rfl⟩)
   go_ret
   exact ⟨ret_int (by unfold cmpI; rw [if_pos h1]), rfl⟩
 · by_cases h2 : b < a
   · go_enter Tryz.func158, Tryz.ntmps158
     go_wp2_with (go_at_call 180; refine (isNaNu_any _ _).mono ?_; rintro e w' ⟨rfl, rfl⟩)
     go_ret
     exact ⟨ret_int (by unfold cmpI; rw [if_neg (by omega), if_pos h2]), rfl⟩
   · go_enter Tryz.func158, Tryz.ntmps158
     go_wp2_with (go_at_call 180; refine (isNaNu_any _ _).mono ?_; rintro e w' ⟨rfl, rfl⟩)
     go_ret
     exact ⟨ret_int (by unfold cmpI; rw [if_neg (by omega), if_neg (by omega)]), rfl⟩
set_option maxHeartbeats 400000 in
theorem order1_fn (x y : Int) (w : World) : Calls Tryz.prog 157 #[.int .i64 x, .int .i64 y] w fun e w' => e = .returned (.int .i64 (cmpI (sizeA x) (sizeA y))) ∧ w = w' := by
 go_enter Tryz.func157, Tryz.ntmps157
 go_wp2_with fail
 refine (size_all x _).mono ?_
 rintro e w' ⟨rfl, rfl⟩
 go_wp2_with fail
 refine (size_all y _).mono ?_
 rintro e w' ⟨rfl, rfl⟩
 go_wp2_with (go_at_call 158; refine (cmpu_any _ _ _).mono ?_; rintro e w' ⟨rfl, rfl⟩)
 go_ret
 exact ⟨rfl, rfl⟩
theorem fv_order1 : Fv Tryz.prog 157 := ⟨_, Tryz.func157, by kernel_rfl, by kernel_rfl⟩
theorem fv_cmp : Fv Tryz.prog 94 := ⟨_, Tryz.func94, by kernel_rfl, by kernel_rfl⟩
set_option maxHeartbeats 2000000 in
theorem by_any (x y : Int) (g : Nat) (w : World) (h0 : w.cell? ⟨g, 0, none⟩ = some (.func (.func 157) #[] #[])) (h1 : w.cell? ⟨g, 1, none⟩ = some (.func (.func 94) #[] #[])) :
 Calls Tryz.prog 156 #[.int .i64 x, .int .i64 y, .slice (some ⟨g, 0, none⟩) 2 2] w fun e w' => e = .returned (.int .i64 (ordF x y)) ∧ w = w' := by
 by_cases hc : cmpI (sizeA x) (sizeA y) = 0
 · have HC := Lib.hid hc
   have ho := order1_fn x y w
   rw [hc] at ho
   have HO := Lib.hid ho
   clear ho hc
   go_enter Tryz.func156, Tryz.ntmps156
   go_wp2_with fail
   go_loopg [12] 2 (fun gn i wr => w = wr ∧ ((gn = 2 ∧ i = .int .i64 0) ∨ (gn = 1 ∧ i = .int .i64 1) ∨ (gn = 0 ∧ i = .int .i64 2 ∧ Hid (cmpI x y = 0))))
   case atStart => exact ⟨rfl, .inl ⟨rfl, rfl⟩⟩
   case round =>
    obtain ⟨rfl, ⟨rfl, rfl⟩ | ⟨rfl, rfl⟩ | ⟨rfl, rfl, HZ⟩⟩ := hrel
    · go_wp2_with (refine wpList_callv (.tmp 16) #[.tmp 17, .tmp 18] _ rfl rfl #[] rfl fv_order1 #[.int .i64 x, .int .i64 y] (by simp only [List.map_toArray, List.map_cons, List.map_nil]; rfl) ?_; refine HO.out.mono ?_; rintro e w' ⟨rfl, rfl⟩; refine ⟨_, rfl, ?_⟩)
      go_roundg 1
      case measure => omega
      case rel => exact ⟨rfl, .inr (.inl ⟨rfl, rfl⟩)⟩
    · by_cases hz : cmpI x y = 0
      · have hcm := cmp_any x y w
        rw [hz] at hcm
        have HCM := Lib.hid hcm
        have HZ := Lib.hid hz
        clear hcm hz
        go_wp2_with (refine wpList_callv (.tmp 16) #[.tmp 17, .tmp 18] _ rfl rfl #[] rfl fv_cmp #[.int .i64 x, .int .i64 y] (by simp only [List.map_toArray, List.map_cons, List.map_nil]; rfl) ?_; refine HCM.out.mono ?_; rintro e w' ⟨rfl, rfl⟩; refine ⟨_, rfl, ?_⟩)
        go_roundg 0
        case measure => omega
        case rel => exact ⟨rfl, .inr (.inr ⟨rfl, rfl, HZ⟩)⟩
      · have hzb : (cmpI x y != 0) = true := by simpa using hz
        have HZ := Lib.hid hz
        clear hz
        go_wp2_with (refine wpList_callv (.tmp 16) #[.tmp 17, .tmp 18] _ rfl rfl #[] rfl fv_cmp #[.int .i64 x, .int .i64 y] (by simp only [List.map_toArray, List.map_cons, List.map_nil]; rfl) ?_; refine (cmp_any x y w).mono ?_; rintro e w' ⟨rfl, rfl⟩; refine ⟨_, rfl, ?_⟩)
        go_ret
        exact ⟨ret_int (by unfold ordF; rw [if_pos HC.out]), rfl⟩
    · go_wp2_with fail
      go_ret
      exact ⟨ret_int (by unfold ordF; rw [if_pos HC.out, HZ.out]), rfl⟩
 · have hcb : (cmpI (sizeA x) (sizeA y) != 0) = true := by simpa using hc
   have HC := Lib.hid hc
   have HO := Lib.hid (order1_fn x y w)
   clear hc
   go_enter Tryz.func156, Tryz.ntmps156
   go_wp2_with fail
   go_loopg [12] 0 (fun gn i wr => w = wr ∧ i = .int .i64 0)
   case atStart => exact ⟨rfl, rfl⟩
   case round =>
    obtain ⟨rfl, rfl⟩ := hrel
    go_wp2_with (refine wpList_callv (.tmp 16) #[.tmp 17, .tmp 18] _ rfl rfl #[] rfl fv_order1 #[.int .i64 x, .int .i64 y] (by simp only [List.map_toArray, List.map_cons, List.map_nil]; rfl) ?_; refine HO.out.mono ?_; rintro e w' ⟨rfl, rfl⟩; refine ⟨_, rfl, ?_⟩)
    go_ret
    exact ⟨ret_int (by unfold ordF; rw [if_neg HC.out]), rfl⟩
set_option maxHeartbeats 400000 in
theorem order_any (x y : Int) (w : World) : Calls Tryz.prog 117 #[.int .i64 x, .int .i64 y] w fun e w' => e = .returned (.int .i64 (ordF x y)) ∧ ∃ o, w' = w.alloc o := by
 go_enter Tryz.func117, Tryz.ntmps117
 go_wp2_with fail
 refine (by_any x y w.heap.size _ ?_ ?_).mono ?_
 · exact (Blk.new w 70 [.func (.func 157) #[] #[], .func (.func 94) #[] #[]]).cell 0
 · exact (Blk.new w 70 [.func (.func 157) #[] #[], .func (.func 94) #[] #[]]).cell 1
 rintro e w' ⟨rfl, rfl⟩
 go_wp2
 go_ret
 exact ⟨rfl, _, rfl⟩
end Go.Proofs.YtjecjaihficcdaaGreat
namespace Go.Proofs
open Go.Shelf
def Tryz.laysSlF6_f51_ren : Go.Shelf.Ren := ⟨fun | 6 => 51 | 15 => 101 | 14 => 100 | 28 => 141 | 29 => 142 | 20 => 133 | 21 => 134 | 22 => 135 | 23 => 136 | 24 => 137 | 25 => 138 | 26 => 139 | 27 => 140 | 46 => 172 | 47 => 173 | 48 => 174 | 49 => 175 | 50 => 176 | 57 => 188 | n => n, fun | 22 => 24 | 24 => 3 | 25 => 70 | 3 => 3 | 39 => 118 | 0 => 0 | 53 => 145 | 55 => 51 | 4 => 4 | 46 => 139 | 45 => 138 | 50 => 90 | 5 => 5 | 9 => 9 | 66 => 165 | 70 => 169 | 76 => 181 | 77 => 182 | n => n, fun | n => n⟩
theorem Tryz.laysSlF6_f51 : Go.Proofs.SlLaysF.n6 Tryz.prog Tryz.laysSlF6_f51_ren := {
 mixed := by kernel_rfl
 f6 := ⟨Tryz.f51.name, by decide, Tryz.func51.trans (congrArg some (by kernel_rfl))⟩
 f14 := ⟨Tryz.f100.name, by decide, Tryz.func100.trans (congrArg some (by kernel_rfl))⟩
 f15 := Tryz.func101.trans (congrArg some (by kernel_rfl))
 f20 := ⟨Tryz.f133.name, by decide, Tryz.func133.trans (congrArg some (by kernel_rfl))⟩
 f21 := ⟨Tryz.f134.name, by decide, Tryz.func134.trans (congrArg some (by kernel_rfl))⟩
 f22 := ⟨Tryz.f135.name, by decide, Tryz.func135.trans (congrArg some (by kernel_rfl))⟩
 f23 := ⟨Tryz.f136.name, by decide, Tryz.func136.trans (congrArg some (by kernel_rfl))⟩
 f24 := ⟨Tryz.f137.name, by decide, Tryz.func137.trans (congrArg some (by kernel_rfl))⟩
 f25 := ⟨Tryz.f138.name, by decide, Tryz.func138.trans (congrArg some (by kernel_rfl))⟩
 f26 := ⟨Tryz.f139.name, by decide, Tryz.func139.trans (congrArg some (by kernel_rfl))⟩
 f27 := ⟨Tryz.f140.name, by decide, Tryz.func140.trans (congrArg some (by kernel_rfl))⟩
 f28 := Tryz.func141.trans (congrArg some (by kernel_rfl))
 f29 := Tryz.func142.trans (congrArg some (by kernel_rfl))
 f46 := ⟨Tryz.f172.name, by decide, Tryz.func172.trans (congrArg some (by kernel_rfl))⟩
 f47 := Tryz.func173.trans (congrArg some (by kernel_rfl))
 f48 := Tryz.func174.trans (congrArg some (by kernel_rfl))
 f49 := ⟨Tryz.f175.name, by decide, Tryz.func175.trans (congrArg some (by kernel_rfl))⟩
 f50 := ⟨Tryz.f176.name, by decide, Tryz.func176.trans (congrArg some (by kernel_rfl))⟩
 f57 := ⟨Tryz.f188.name, by decide, Tryz.func188.trans (congrArg some (by kernel_rfl))⟩
 t0 := Tryz.underlying0
 a0 := Tryz.isAgg0
 z0 := Tryz.sizeOf0
 v0 := Tryz.zeroValue0
 t3 := Tryz.underlying3
 a3 := Tryz.isAgg3
 z3 := Tryz.sizeOf3
 v3 := Tryz.zeroValue3
 t4 := Tryz.underlying4
 a4 := Tryz.isAgg4
 z4 := Tryz.sizeOf4
 v4 := Tryz.zeroValue4
 t5 := Tryz.underlying5
 a5 := Tryz.isAgg5
 z5 := Tryz.sizeOf5
 v5 := Tryz.zeroValue5
 t9 := Tryz.underlying9
 a9 := Tryz.isAgg9
 z9 := Tryz.sizeOf9
 v9 := Tryz.zeroValue9
 t22 := Tryz.underlying24
 a22 := Tryz.isAgg24
 z22 := Tryz.sizeOf24
 v22 := Tryz.zeroValue24
 a24 := Tryz.isAgg3
 z24 := Tryz.sizeOf3
 t25 := Tryz.underlying70
 a25 := Tryz.isAgg70
 z25 := Tryz.sizeOf70
 v25 := Tryz.zeroValue70
 t39 := Tryz.underlying118
 a39 := Tryz.isAgg118
 z39 := Tryz.sizeOf118
 v39 := Tryz.zeroValue118
 t45 := Tryz.underlying138
 a45 := Tryz.isAgg138
 z45 := Tryz.sizeOf138
 v45 := Tryz.zeroValue138
 t46 := Tryz.underlying139
 a46 := Tryz.isAgg139
 z46 := Tryz.sizeOf139
 v46 := Tryz.zeroValue139
 t50 := Tryz.underlying90
 a50 := Tryz.isAgg90
 z50 := Tryz.sizeOf90
 v50 := Tryz.zeroValue90
 t53 := Tryz.underlying145
 a53 := Tryz.isAgg145
 z53 := Tryz.sizeOf145
 v53 := Tryz.zeroValue145
 t55 := Tryz.underlying51
 a55 := Tryz.isAgg51
 z55 := Tryz.sizeOf51
 v55 := Tryz.zeroValue51
 t66 := Tryz.underlying165
 a66 := Tryz.isAgg165
 z66 := Tryz.sizeOf165
 v66 := Tryz.zeroValue165
 t70 := Tryz.underlying169
 a70 := Tryz.isAgg169
 z70 := Tryz.sizeOf169
 v70 := Tryz.zeroValue169
 t76 := Tryz.underlying181
 a76 := Tryz.isAgg181
 z76 := Tryz.sizeOf181
 v76 := Tryz.zeroValue181
 t77 := Tryz.underlying182
 a77 := Tryz.isAgg182
 z77 := Tryz.sizeOf182
 v77 := Tryz.zeroValue182 }
def Tryz.laysSlF6_f52_ren : Go.Shelf.Ren := ⟨fun | 6 => 52 | 15 => 101 | 14 => 102 | 28 => 141 | 29 => 142 | 20 => 143 | 21 => 144 | 22 => 145 | 23 => 146 | 24 => 147 | 25 => 148 | 26 => 149 | 27 => 150 | 46 => 177 | 47 => 173 | 48 => 174 | 49 => 178 | 50 => 179 | 57 => 189 | n => n, fun | 22 => 22 | 24 => 24 | 25 => 84 | 3 => 3 | 39 => 118 | 0 => 0 | 53 => 145 | 55 => 51 | 4 => 4 | 46 => 139 | 45 => 138 | 50 => 90 | 5 => 5 | 9 => 9 | 66 => 165 | 70 => 169 | 76 => 181 | 77 => 182 | n => n, fun | n => n⟩
theorem Tryz.laysSlF6_f52 : Go.Proofs.SlLaysF.n6 Tryz.prog Tryz.laysSlF6_f52_ren := {
 mixed := by kernel_rfl
 f6 := ⟨Tryz.f52.name, by decide, Tryz.func52.trans (congrArg some (by kernel_rfl))⟩
 f14 := ⟨Tryz.f102.name, by decide, Tryz.func102.trans (congrArg some (by kernel_rfl))⟩
 f15 := Tryz.func101.trans (congrArg some (by kernel_rfl))
 f20 := ⟨Tryz.f143.name, by decide, Tryz.func143.trans (congrArg some (by kernel_rfl))⟩
 f21 := ⟨Tryz.f144.name, by decide, Tryz.func144.trans (congrArg some (by kernel_rfl))⟩
 f22 := ⟨Tryz.f145.name, by decide, Tryz.func145.trans (congrArg some (by kernel_rfl))⟩
 f23 := ⟨Tryz.f146.name, by decide, Tryz.func146.trans (congrArg some (by kernel_rfl))⟩
 f24 := ⟨Tryz.f147.name, by decide, Tryz.func147.trans (congrArg some (by kernel_rfl))⟩
 f25 := ⟨Tryz.f148.name, by decide, Tryz.func148.trans (congrArg some (by kernel_rfl))⟩
 f26 := ⟨Tryz.f149.name, by decide, Tryz.func149.trans (congrArg some (by kernel_rfl))⟩
 f27 := ⟨Tryz.f150.name, by decide, Tryz.func150.trans (congrArg some (by kernel_rfl))⟩
 f28 := Tryz.func141.trans (congrArg some (by kernel_rfl))
 f29 := Tryz.func142.trans (congrArg some (by kernel_rfl))
 f46 := ⟨Tryz.f177.name, by decide, Tryz.func177.trans (congrArg some (by kernel_rfl))⟩
 f47 := Tryz.func173.trans (congrArg some (by kernel_rfl))
 f48 := Tryz.func174.trans (congrArg some (by kernel_rfl))
 f49 := ⟨Tryz.f178.name, by decide, Tryz.func178.trans (congrArg some (by kernel_rfl))⟩
 f50 := ⟨Tryz.f179.name, by decide, Tryz.func179.trans (congrArg some (by kernel_rfl))⟩
 f57 := ⟨Tryz.f189.name, by decide, Tryz.func189.trans (congrArg some (by kernel_rfl))⟩
 t0 := Tryz.underlying0
 a0 := Tryz.isAgg0
 z0 := Tryz.sizeOf0
 v0 := Tryz.zeroValue0
 t3 := Tryz.underlying3
 a3 := Tryz.isAgg3
 z3 := Tryz.sizeOf3
 v3 := Tryz.zeroValue3
 t4 := Tryz.underlying4
 a4 := Tryz.isAgg4
 z4 := Tryz.sizeOf4
 v4 := Tryz.zeroValue4
 t5 := Tryz.underlying5
 a5 := Tryz.isAgg5
 z5 := Tryz.sizeOf5
 v5 := Tryz.zeroValue5
 t9 := Tryz.underlying9
 a9 := Tryz.isAgg9
 z9 := Tryz.sizeOf9
 v9 := Tryz.zeroValue9
 t22 := Tryz.underlying22
 a22 := Tryz.isAgg22
 z22 := Tryz.sizeOf22
 v22 := Tryz.zeroValue22
 a24 := Tryz.isAgg24
 z24 := Tryz.sizeOf24
 t25 := Tryz.underlying84
 a25 := Tryz.isAgg84
 z25 := Tryz.sizeOf84
 v25 := Tryz.zeroValue84
 t39 := Tryz.underlying118
 a39 := Tryz.isAgg118
 z39 := Tryz.sizeOf118
 v39 := Tryz.zeroValue118
 t45 := Tryz.underlying138
 a45 := Tryz.isAgg138
 z45 := Tryz.sizeOf138
 v45 := Tryz.zeroValue138
 t46 := Tryz.underlying139
 a46 := Tryz.isAgg139
 z46 := Tryz.sizeOf139
 v46 := Tryz.zeroValue139
 t50 := Tryz.underlying90
 a50 := Tryz.isAgg90
 z50 := Tryz.sizeOf90
 v50 := Tryz.zeroValue90
 t53 := Tryz.underlying145
 a53 := Tryz.isAgg145
 z53 := Tryz.sizeOf145
 v53 := Tryz.zeroValue145
 t55 := Tryz.underlying51
 a55 := Tryz.isAgg51
 z55 := Tryz.sizeOf51
 v55 := Tryz.zeroValue51
 t66 := Tryz.underlying165
 a66 := Tryz.isAgg165
 z66 := Tryz.sizeOf165
 v66 := Tryz.zeroValue165
 t70 := Tryz.underlying169
 a70 := Tryz.isAgg169
 z70 := Tryz.sizeOf169
 v70 := Tryz.zeroValue169
 t76 := Tryz.underlying181
 a76 := Tryz.isAgg181
 z76 := Tryz.sizeOf181
 v76 := Tryz.zeroValue181
 t77 := Tryz.underlying182
 a77 := Tryz.isAgg182
 z77 := Tryz.sizeOf182
 v77 := Tryz.zeroValue182 }
open Go.RowKit Go.Lib Go.Sort in
theorem Tryz.slices_SortFunc_f51 {α : Type} [Inhabited α] (enc : α → Value) (h1 : OneCell enc) (cf : α → α → Int) (hO : SWO (ltOf cf)) (g : Nat) (cb : Array Value) (blk off cap : Nat) (d : Array α) (w : World) (eg : ∀ args w, (callFunc g args).run Tryz.prog w = .ok (.enter g args) w) (hcmp : CmpLays1 Tryz.prog g cb enc cf blk off d.size w) (hH : Holds enc w blk off d) (hblk : blk < w.heap.size) (hsz : d.size < 4611686018427387904) :
 Calls Tryz.prog 51 #[.slice (some ⟨blk, off, none⟩) d.size cap, .func (.func g) #[] cb] w fun e w' =>
  e = .returned (.tuple #[]) ∧ ∃ d' n os, PermIn 0 d.size d d' ∧ SortedIn (ltOf cf) 0 d.size d' ∧ w' = sortWorld enc w blk off n d' os := Any.slices_SortFunc Tryz.laysSlF6_f51 enc h1 cf hO g cb blk off cap d w eg hcmp hH hblk hsz
open Go.RowKit Go.Lib Go.Sort in
theorem Tryz.slices_SortFunc_f52 {α : Type} [Inhabited α] (enc : α → Value) (h1 : OneCell enc) (cf : α → α → Int) (hO : SWO (ltOf cf)) (g : Nat) (cb : Array Value) (blk off cap : Nat) (d : Array α) (w : World) (eg : ∀ args w, (callFunc g args).run Tryz.prog w = .ok (.enter g args) w) (hcmp : CmpLays1 Tryz.prog g cb enc cf blk off d.size w) (hH : Holds enc w blk off d) (hblk : blk < w.heap.size) (hsz : d.size < 4611686018427387904) :
 Calls Tryz.prog 52 #[.slice (some ⟨blk, off, none⟩) d.size cap, .func (.func g) #[] cb] w fun e w' =>
  e = .returned (.tuple #[]) ∧ ∃ d' n os, PermIn 0 d.size d d' ∧ SortedIn (ltOf cf) 0 d.size d' ∧ w' = sortWorld enc w blk off n d' os := Any.slices_SortFunc Tryz.laysSlF6_f52 enc h1 cf hO g cb blk off cap d w eg hcmp hH hblk hsz
end Go.Proofs
namespace Go.Proofs
open Go.Shelf
def Tryz.laysNm220_ren : Go.Shelf.Ren := ⟨fun | 20 => 74 | n => n, fun | 22 => 24 | 3 => 3 | 4 => 4 | 0 => 0 | n => n, fun | n => n⟩
theorem Tryz.laysNm220 : Go.Proofs.Lays2.n20 Tryz.prog Tryz.laysNm220_ren := {
 mixed := by kernel_rfl
 f20 := Tryz.func74.trans (congrArg some (by kernel_rfl))
 t0 := Tryz.underlying0
 a0 := Tryz.isAgg0
 z0 := Tryz.sizeOf0
 v0 := Tryz.zeroValue0
 t3 := Tryz.underlying3
 a3 := Tryz.isAgg3
 z3 := Tryz.sizeOf3
 v3 := Tryz.zeroValue3
 t4 := Tryz.underlying4
 a4 := Tryz.isAgg4
 z4 := Tryz.sizeOf4
 v4 := Tryz.zeroValue4
 t22 := Tryz.underlying24
 a22 := Tryz.isAgg24
 z22 := Tryz.sizeOf24
 v22 := Tryz.zeroValue24
 i3 := by kernel_rfl }
open Go.RowKit Go.Lib Go.Sort in
theorem Tryz.slices_Compact_int (blk off cap : Nat) (zs : List Int) (w : World) (hH : Holds (Value.int .i64) w blk off zs.toArray) (hsz : zs.length ≤ 9223372036854775807) (hcap : zs.length ≤ cap) :
 Calls Tryz.prog 74 #[.slice (some ⟨blk, off, none⟩) zs.length cap] w fun e w' => e = .returned (.slice (some ⟨blk, off, none⟩) (Lib.compact zs).length cap) ∧ ∃ q, w' = putRow (Value.int .i64) (Sort.ahead w q) blk off (Lib.compact zs ++ List.replicate (zs.length - (Lib.compact zs).length) 0).toArray := Any.slices_Compact_int Tryz.laysNm220 blk off cap zs w hH hsz hcap
open Go.RowKit Go.Lib Go.Sort in
theorem Tryz.slices_Compact_int_empty (a : Option Addr) (cap : Nat) (w : World) :
 Calls Tryz.prog 74 #[.slice a 0 cap] w fun e w' => e = .returned (.slice a 0 cap) ∧ w' = w := Any.slices_Compact_int_empty Tryz.laysNm220 a cap w
end Go.Proofs
namespace Go.Proofs.YtjecjaihficcdaaGreat
theorem compact_upto {lt : Int → Int → Prop} (tri : ∀ a b, lt a b ∨ a = b ∨ lt b a) (trans : ∀ a b c, lt a b → lt b c → lt a c) (zs : List Int) (hs : zs.Pairwise fun a b => ¬ lt b a) :
 ∀ m, m ≤ zs.length → (Lib.compactUpTo zs.toArray m).Pairwise lt ∧ (∀ x, x ∈ Lib.compactUpTo zs.toArray m ↔ x ∈ zs.take m) ∧ ∀ h : 0 < m, ∀ hm : m - 1 < zs.length, ∀ x ∈ Lib.compactUpTo zs.toArray m, x = zs[m - 1] ∨ lt x zs[m - 1]
 | 0, _ => ⟨by simp [Lib.compactUpTo], fun x => by simp [Lib.compactUpTo], fun h => absurd h (Nat.lt_irrefl _)⟩
 | m + 1, hm => by
   obtain ⟨h1, h2, h3⟩ := compact_upto tri trans zs hs m (by omega)
   have hml : m < zs.length := by omega
   have hg : ∀ j (hj : j < zs.length), zs.toArray[j]! = zs[j] := fun j hj => by simp [getElem!_pos, hj]
   rw [Lib.compactUpTo_succ]
   have hlast : ∀ x ∈ Lib.compactUpTo zs.toArray m, x = zs[m] ∨ lt x zs[m] := fun x hx => by
    rcases Nat.eq_zero_or_pos m with h0 | h0
    · subst h0; simp [Lib.compactUpTo] at hx
    · have hm1 : m - 1 < zs.length := by omega
      have hle : ¬ lt zs[m] zs[m - 1] := List.pairwise_iff_getElem.1 hs (m - 1) m hm1 hml (by omega)
      have hle' : zs[m - 1] = zs[m] ∨ lt zs[m - 1] zs[m] := by
       rcases tri zs[m - 1] zs[m] with h | h | h
       · exact .inr h
       · exact .inl h
       · exact absurd h hle
      rcases h3 h0 hm1 x hx with rfl | h4
      · exact hle'
      · rcases hle' with h5 | h5
        · rw [← h5]; exact .inr h4
        · exact .inr (trans _ _ _ h4 h5)
   by_cases hk : Lib.keeps zs.toArray m = true
   · rw [if_pos hk, hg m hml]
     have hne : ∀ x ∈ Lib.compactUpTo zs.toArray m, lt x zs[m] := fun x hx => by
      rcases hlast x hx with rfl | h
      · unfold Lib.keeps at hk
        rw [decide_eq_true_eq] at hk
        rcases hk with h0 | h0
        · subst h0; simp [Lib.compactUpTo] at hx
        · rcases Nat.eq_zero_or_pos m with hz | hz
          · subst hz; simp [Lib.compactUpTo] at hx
          · have hm1 : m - 1 < zs.length := by omega
            rw [hg m hml, hg (m - 1) hm1] at h0
            have hle : ¬ lt zs[m] zs[m - 1] := List.pairwise_iff_getElem.1 hs (m - 1) m hm1 hml (by omega)
            rcases h3 hz hm1 _ hx with h6 | h6
            · exact absurd h6 h0
            · exact absurd h6 hle
      · exact h
     refine ⟨List.pairwise_append.2 ⟨h1, by simp, fun x hx y hy => ?_⟩, fun x => ?_, fun _ _ x hx => ?_⟩
     · rw [List.mem_singleton.1 hy]; exact hne x hx
     · rw [List.mem_append, h2, List.take_succ_eq_append_getElem hml, List.mem_append]
     · simp only [Nat.add_sub_cancel]
       rcases List.mem_append.1 hx with h | h
       · exact .inr (hne x h)
       · exact .inl (List.mem_singleton.1 h)
   · rw [if_neg hk, List.append_nil]
     have hk' : m ≠ 0 ∧ zs.toArray[m]! = zs.toArray[m - 1]! := by
      unfold Lib.keeps at hk
      rw [decide_eq_true_eq, not_or, Classical.not_not] at hk
      exact hk
     have hm1 : m - 1 < zs.length := by omega
     rw [hg m hml, hg (m - 1) hm1] at hk'
     refine ⟨h1, fun x => ?_, fun _ _ x hx => ?_⟩
     · rw [h2, List.take_succ_eq_append_getElem hml, List.mem_append, List.mem_singleton]
       constructor
       · exact .inl
       · rintro (h | rfl)
         · exact h
         · rw [hk'.2, List.mem_take_iff_getElem]
           exact ⟨m - 1, by omega, rfl⟩
     · simp only [Nat.add_sub_cancel]
       exact hlast x hx
theorem compact_strict {lt : Int → Int → Prop} (tri : ∀ a b, lt a b ∨ a = b ∨ lt b a) (trans : ∀ a b c, lt a b → lt b c → lt a c) (zs : List Int) (hs : zs.Pairwise fun a b => ¬ lt b a) :
 (Lib.compact zs).Pairwise lt ∧ ∀ x, x ∈ Lib.compact zs ↔ x ∈ zs := by
 obtain ⟨h1, h2, _⟩ := compact_upto tri trans zs hs zs.length (Nat.le_refl _)
 exact ⟨h1, fun x => by rw [show Lib.compact zs = Lib.compactUpTo zs.toArray zs.length from rfl, h2, List.take_length]⟩
end Go.Proofs.YtjecjaihficcdaaGreat
namespace Go.Proofs.YtjecjaihficcdaaGreat
open Go.RowKit
theorem grow_none (w : World) : Sort.grow w #[] = w := by simp [Sort.grow]
theorem own_shorter {w : World} {base : Nat} {e : TypeId} {A : Option Addr} {n m c : Nat} {xs : List Value} (h : w.ownsRow base e 1 (.slice A n c) n xs) (hm : m ≤ n) (hA : A = none → c = 0) : w.ownsRow base e 1 (.slice A m c) m (xs.take m) := by
 obtain ⟨h0, ⟨he, h1⟩ | ⟨g, cap, cur, he, hb, hg, hn, hmx, hs, ht⟩⟩ := h
 · injection he with e1 e2 e3
   subst e1 e2 e3
   have : m = 0 := by omega
   subst this
   exact ⟨by simp, .inl ⟨rfl, rfl⟩⟩
 · injection he with e1 _ e3
   subst e1 e3
   refine ⟨by rw [List.length_take]; omega, .inr ⟨g, c, cur, rfl, hb, hg, by omega, hmx, hs, ?_⟩⟩
   rw [← ht, List.take_take]
   congr 1
   omega
theorem Compact_own (xs : List Int) (v : Value) (base : Nat) (w : World) (h : OwnI w base v xs) (hl : xs.length ≤ 100000000) :
 Calls Tryz.prog 74 #[v] w fun e w' => ∃ v', e = .returned v' ∧ OwnI w' base v' (Lib.compact xs) ∧ w.grownBy w' v.ownBlock ∧ v'.ownBlock = v.ownBlock := by
 have hle := Lib.compact_length_le xs
 unfold OwnI at h ⊢
 obtain ⟨-, ⟨rfl, h0⟩ | ⟨g, cap, cur, rfl, hb, hg, hn, hm, hs, ht⟩⟩ := h
 · have : xs = [] := List.length_eq_zero_iff.1 h0
   subst this
   refine (Tryz.slices_Compact_int_empty none 0 w).mono ?_
   rintro e w' ⟨rfl, rfl⟩
   exact ⟨_, rfl, World.ownsRow_nil _ _ _ 1, ⟨rfl, rfl, rfl, Nat.le_refl _, fun _ _ _ => rfl⟩, rfl⟩
 · have hmx : cap ≤ 9223372036854775807 := by unfold maxLen at hm; exact hm
   refine (Tryz.slices_Compact_int g 0 cap xs w (holds_of_blockI hg (by rw [Nat.mul_one] at ht; exact ht)) (by omega) hn).mono ?_
   rintro e w' ⟨rfl, q, rfl⟩
   have hl2 : (Lib.compact xs ++ List.replicate (xs.length - (Lib.compact xs).length) 0).length = xs.length := by simp; omega
   have h1 := ownsRow_sortedI (n := q) (os := #[]) (ts := Lib.compact xs ++ List.replicate (xs.length - (Lib.compact xs).length) 0) (ss := xs) hl2 hb hg hn hm hs
   rw [grow_none] at h1
   have h2 := own_shorter h1 hle (fun h => by cases h)
   rw [List.map_append, List.take_append_of_le_length (by simp), List.take_of_length_le (by simp)] at h2
   have h3 := grownBy_sortedI (w := w) (g := g) (n := q) (os := #[]) (Lib.compact xs ++ List.replicate (xs.length - (Lib.compact xs).length) 0).toArray
   rw [grow_none] at h3
   exact ⟨_, rfl, h2, h3, rfl⟩
end Go.Proofs.YtjecjaihficcdaaGreat
