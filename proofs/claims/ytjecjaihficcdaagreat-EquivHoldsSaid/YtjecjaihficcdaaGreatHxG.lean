/- Walks and plain laws that this claim uses. -/
import Derived.Test.YtjecjaihficcdaaGreatHxF
import Derived.Test.YtjecjaihficcdaaGreatHxE
import Derived.Test.YtjecjaihficcdaaGreatHxD
import Derived.Test.YtjecjaihficcdaaGreatHxC
import Derived.Test.YtjecjaihficcdaaGreatHxB
import Derived.Test.YtjecjaihficcdaaGreatHxA
import Derived.BigRegion
namespace Go.Proofs.YtjecjaihficcdaaGreat
open Go.RowKit
attribute [local go_sem] Oper.semAt_some
def chA : Option ChV → Array Value
 | none => #[.int .u8 0, .int .i64 0, .int .i64 0, .int .i64 0, .int .i64 0]
 | some c => #[.int .u8 c.kind, .int .i64 c.lit, .int .i64 c.tz, .int .i64 c.pos, .int .i64 c.other]
def PostNext (w : World) (r : Option ChV) (e : Ending) (w' : World) : Prop := e = .returned (.tuple #[.agg (chA r), .bool r.isSome]) ∧ Ext w w'
set_option maxRecDepth 100000 in
set_option maxHeartbeats 2000000 in
theorem Next_no (d : DqV) (vu vx vc : Value) (w : World) (hd : RD w vu vx vc d) (ok : DOk d) (hm : mayD d = false) : Calls Tryz.prog 19 #[.agg #[vu, vx, vc]] w (PostNext w none) := by
 have HM := Lib.hid (fun w' (h : Ext w w') => MayD_any d vu vx vc w' ok.x64 ok.c64 (hd.u.ext h) (hd.x.ext h) (RLL.ext' hd.c h) (fun _ => by have := ok.tot; omega) ok.xl ok.ul)
 rw [hm] at HM
 obtain ⟨⟨UA, uc, hue, -⟩, ⟨XA, xc, ons, hxe, -⟩, ⟨CA, cc, us, hce, -⟩⟩ := hd
 subst hue hxe hce
 have e1 := Ext.alloc w (.cells #[.slice UA d.univ.length uc, .slice XA d.exist.length xc, .slice CA us.length cc] 27)
 have e2 := Ext.alloc (w.alloc (.cells #[.slice UA d.univ.length uc, .slice XA d.exist.length xc, .slice CA us.length cc] 27)) (.cells #[.int .u8 0, .int .i64 0, .int .i64 0, .int .i64 0, .int .i64 0] 37)
 have HE := Lib.hid (e1.trans e2)
 have HB := Lib.hid (Blk.new (w.alloc (.cells #[.slice UA d.univ.length uc, .slice XA d.exist.length xc, .slice CA us.length cc] 27)) 37 [.int .u8 0, .int .i64 0, .int .i64 0, .int .i64 0, .int .i64 0])
 rw [World.size_alloc] at HB
 clear e1 e2 hm
 go_enter Tryz.func19, Tryz.ntmps19
 go_wp2_with (go_at_call 54; refine (HM.out _ HE.out).mono ?_; rintro e w2 ⟨rfl, hE2⟩; have HE2 := Lib.hid hE2; have hbx := (hE2.chg (fun _ => False)).blk HB.out id; have b0 := hbx.cell 0; have b1 := hbx.cell 1; have b2 := hbx.cell 2; have b3 := hbx.cell 3; have b4 := hbx.cell 4; have f0 := hbx.free 0; have f1 := hbx.free 1; have f2 := hbx.free 2; have f3 := hbx.free 3; have f4 := hbx.free 4; have hsz : w.heap.size + 2 ≤ w2.heap.size := (by have := hE2.size; simpa using this); clear hE2 hbx)
 refine bodyPost_ret (v := .tuple #[.agg (chA none), .bool false]) (by simp [results, Tryz.results19, go_sem, chA, b0, b1, b2, b3, b4]) rfl ⟨rfl, ?_⟩
 have he := HE.out.trans HE2.out
 repeat (refine Below.setCell ?_ (by simp) _)
 exact he
def ksB (f : List (List Int)) : Nat → List ((Int × Int) × Value)
 | 0 => []
 | k + 1 => if (f.getD (f.length - 1 - k) []).length = 2 then
    kput (ksB f k) ((f.getD (f.length - 1 - k) []).getD 0 0, (f.getD (f.length - 1 - k) []).getD 1 0) (.int .i64 ((f.length - 1 - k : Nat) : Int)) else ksB f k
theorem backL_length (us : List Value) (k : Nat) : (backL us k).length = k := by
 induction k with
 | zero => rfl
 | succ k ih => simp [backL, ih]
theorem backL_next {us : List Value} {k : Nat} {x : Int × Value} (h : (backL us k ++ [x]) <+: backL us us.length) : k < us.length ∧ x = (((us.length - 1 - k : Nat) : Int), us.getD (us.length - 1 - k) undef) := by
 have h1 := h.length_le
 rw [List.length_append, backL_length, backL_length] at h1
 simp only [List.length_singleton] at h1
 have hk : k < us.length := by omega
 refine ⟨hk, ?_⟩
 obtain ⟨r, hr⟩ := h
 obtain ⟨r', hr'⟩ := backL_pre us (k + 1) us.length hk
 rw [← hr', backL, List.append_assoc, List.append_assoc] at hr
 have := List.append_cancel_left hr
 simp at this
 exact this.1
theorem ksB_lkp (f : List (List Int)) (a b : Int) : ∀ k, k ≤ f.length → lkp (ksB f k) (a, b) = ((List.range' (f.length - k) k).find? fun j => decide (f.getD j [] = [a, b])).map fun j => Value.int .i64 (j : Int) := by
 intro k
 induction k with
 | zero => intro _; rfl
 | succ k ih =>
   intro hk
   have e : List.range' (f.length - (k + 1)) (k + 1) = (f.length - 1 - k) :: List.range' (f.length - k) k := by
    have e2 : f.length - (k + 1) = f.length - 1 - k := by omega
    rw [e2, List.range'_succ, show f.length - 1 - k + 1 = f.length - k by omega]
   rw [e, List.find?_cons]
   unfold ksB
   obtain ⟨j, hj⟩ : ∃ j, j = f.length - 1 - k := ⟨_, rfl⟩
   rw [← hj]
   by_cases h2 : (f.getD j []).length = 2
   · rw [if_pos h2]
     obtain ⟨x, y, hxy⟩ := two_of h2
     rw [hxy]
     simp only [List.getD_cons_zero, List.getD_cons_succ]
     rw [lkp_kput]
     by_cases h3 : (a, b) = (x, y)
     · rw [if_pos h3]
       injection h3 with h4 h5
       subst h4 h5
       simp
     · rw [if_neg h3]
       have : ¬ ([x, y] = [a, b]) := fun e => h3 (by injection e with e1 e2; injection e2 with e2 _; rw [e1, e2])
       rw [decide_eq_false this]
       exact ih (by omega)
   · rw [if_neg h2]
     have : ¬ (f.getD j [] = [a, b]) := fun e => h2 (by rw [e]; rfl)
     rw [decide_eq_false this]
     exact ih (by omega)
theorem ksB_first (d : DqV) (a b : Int) : lkp (ksB d.clauses d.clauses.length) (a, b) = (firstIdx d [a, b]).map fun j => Value.int .i64 (j : Int) := by
 rw [ksB_lkp d.clauses a b _ (Nat.le_refl _), Nat.sub_self, ← List.range_eq_range']; rfl
theorem backward_any (A : Option Addr) (n c : Nat) (w : World) : Calls Tryz.prog 55 #[.slice A n c] w fun e w' => ∃ b, e = .returned (.func (.func 107) #[] #[.pointer (some ⟨b, 0, none⟩)]) ∧ Ext w w' ∧ w.heap.size ≤ b ∧ w'.cell? ⟨b, 0, none⟩ = some (.slice A n c) := by
 go_enter Tryz.func55, Tryz.ntmps55
 go_wp2
 go_ret
 exact ⟨_, rfl, Ext.alloc w _, Nat.le_refl _, (Blk.new w _ _).cell 0⟩
def kvP (p : Int × Int) : Value := Value.agg #[.int .i64 p.1, .int .i64 p.2]
theorem fam_kvP : KeyFam Tryz.prog 89 kvP := fam_pair Tryz.underlying89 Tryz.underlying3 Tryz.isAgg3 Tryz.sizeOf3
theorem run_arrayAt2 (ad : Addr) (c : Nat) (W : World) : (Instr.arrayAt 89 (.slice (some ad) 2 c)).run Tryz.prog W = .ok (.pointer (some ad)) W := by
 simp [Instr.arrayAt, run_underlying Tryz.underlying89, Result.andThen]
theorem ret_markc {P : Program} {fn : Func} {R : Ending → World → Prop} {a : Act} {w : World} {D : Nat} {v : Value} (hd : a.defers = [markOf D]) (hK : w.heap[D]? = some (.deferred (some [])))
 (hr : (results fn a.tmps).run P (w.putObj D (.deferred none)) = .ok v (w.putObj D (.deferred none))) (h : R (.returned v) (w.putObj D (.deferred none))) : bodyPostM Fence.wide 0 P fn R .ret a w := by
 show LeavesInM Fence.wide 0 P fn a.tmps R a.defers .returning w
 rw [hd]
 exact ⟨by simp, .inl ⟨D, _, rfl, run_takeDeferred hK, v, hr, h⟩⟩
theorem zeroValue_int (w : World) : (zeroValue 3).run Tryz.prog w = .ok (.int .i64 0) w := by kernel_rfl
theorem set5 (w : World) (g : Nat) (e : TypeId) (a0 a1 a2 a3 a4 v0 v1 v2 v3 v4 : Value) (h : Blk w g e [a0, a1, a2, a3, a4]) :
 Chg (fun i => i = g) w (((((w.setCell ⟨g, 0, none⟩ v0).setCell ⟨g, 1, none⟩ v1).setCell ⟨g, 2, none⟩ v2).setCell ⟨g, 3, none⟩ v3).setCell ⟨g, 4, none⟩ v4) ∧
 Blk (((((w.setCell ⟨g, 0, none⟩ v0).setCell ⟨g, 1, none⟩ v1).setCell ⟨g, 2, none⟩ v2).setCell ⟨g, 3, none⟩ v3).setCell ⟨g, 4, none⟩ v4) g e [v0, v1, v2, v3, v4] :=
 ⟨((((Chg.set w g 0 v0).trans (Chg.set _ g 1 v1)).trans (Chg.set _ g 2 v2)).trans (Chg.set _ g 3 v3)).trans (Chg.set _ g 4 v4), ((((h.set 0 v0).set 1 v1).set 2 v2).set 3 v3).set 4 v4⟩
theorem pairP_two (d : DqV) (p q : Int) (k bb : Nat) (rest : Option ChV) : (pairP d [p, q] k bb).or rest = if (decide (0 < -p) && allowP d (-p) q) = true then some (⟨6, -p, q, k, bb⟩ : ChV) else if (decide (0 < -q) && allowP d (-q) p) = true then some (⟨6, -q, p, k, bb⟩ : ChV) else rest := by
 unfold pairP
 simp only [List.findSome?_cons, List.findSome?_nil, List.getD_cons_zero, List.getD_cons_succ, Nat.sub_zero, Nat.sub_self]
 cases decide (0 < -p) && allowP d (-p) q <;> cases decide (0 < -q) && allowP d (-q) p <;> rfl
theorem findSome_from {α : Type} (F : Nat → Option α) (n k : Nat) (h : k < n) : (List.range' k (n - k)).findSome? F = (F k).or ((List.range' (k + 1) (n - (k + 1))).findSome? F) := by
 rw [show n - k = (n - (k + 1)) + 1 by omega, List.range'_succ, List.findSome?_cons]
 cases F k <;> rfl
set_option maxRecDepth 100000 in
set_option maxHeartbeats 4000000 in
theorem Next_yes (d : DqV) (vu vx vc : Value) (w : World) (hd : RD w vu vx vc d) (ok : DOk d) (hm : mayD d = true) (R : Option ChV) (hR : R = (List.range d.clauses.length).findSome? fun i => stepP d i) : Calls Tryz.prog 19 #[.agg #[vu, vx, vc]] w (PostNext w R) := by
 have HRR := Lib.hid hR
 have HRD := Lib.hid hd
 clear hR
 have HM := Lib.hid (fun w' (h : Ext w w') => MayD_any d vu vx vc w' ok.x64 ok.c64 (hd.u.ext h) (hd.x.ext h) (RLL.ext' hd.c h) (fun _ => by have := ok.tot; omega) ok.xl ok.ul)
 rw [hm] at HM
 obtain ⟨⟨UA, uc, hue, -⟩, ⟨XA, xc, ons, hxe, -⟩, ⟨CA, cc, us, hce, c1, c2, c3, c4, c5⟩⟩ := hd
 subst hue hxe hce
 have e1 := Ext.alloc w (.cells #[.slice UA d.univ.length uc, .slice XA d.exist.length xc, .slice CA us.length cc] 27)
 have e2 := Ext.alloc (w.alloc (.cells #[.slice UA d.univ.length uc, .slice XA d.exist.length xc, .slice CA us.length cc] 27)) (.cells #[.int .u8 0, .int .i64 0, .int .i64 0, .int .i64 0, .int .i64 0] 37)
 have HE := Lib.hid (e1.trans e2)
 have HB := Lib.hid (Blk.new (w.alloc (.cells #[.slice UA d.univ.length uc, .slice XA d.exist.length xc, .slice CA us.length cc] 27)) 37 [.int .u8 0, .int .i64 0, .int .i64 0, .int .i64 0, .int .i64 0])
 have HD0 := Lib.hid ((e2.chg (fun _ => False)).blk (Blk.new w 27 [.slice UA d.univ.length uc, .slice XA d.exist.length xc, .slice CA us.length cc]) id)
 rw [World.size_alloc] at HB
 have C3 := Lib.hid c3
 have C4 := Lib.hid c4
 have C5 := Lib.hid c5
 have HM0 := Lib.hid hm
 clear e1 e2 hm c3 c4 c5
 have hmm := @run_makeMap Tryz.prog
 refine calls_marks Tryz.func19 rfl ?_
 simp only [Tryz.ntmps19, List.size_toArray, List.length_cons, List.length_nil, Nat.reduceAdd, Nat.reduceSub, Array.replicate_succ, Array.replicate_zero, List.push_toArray, List.append_toArray, List.nil_append, List.cons_append]
 go_upto_region 3 with (go_at_call 54; refine (HM.out _ HE.out).mono ?_; rintro e w2 ⟨rfl, hE2⟩; have HE2 := Lib.hid hE2; have HB2 := Lib.hid ((hE2.chg (fun _ => False)).blk HB.out id); have HD2 := Lib.hid ((hE2.chg (fun _ => False)).blk HD0.out id); have hd2 : w2.cell? ⟨w.heap.size, 2, none⟩ = some (.slice CA us.length cc) := HD2.out.cell 2; have hsz : w.heap.size + 2 ≤ w2.heap.size := (by have := hE2.size; simpa using this); clear hE2)
 go_upto_region 4 with fail
 have HE2b := Lib.hid ((HE.out.trans HE2.out))
 have hd3 : ((w2.alloc (Obj.map #[] 0)).alloc (Obj.cells #[Value.map (some w2.heap.size)] 85)).cell? ⟨w.heap.size, 2, none⟩ = some (.slice CA us.length cc) := ((Ext.alloc w2 (Obj.map #[] 0)).trans (Ext.alloc _ (Obj.cells #[Value.map (some w2.heap.size)] 85))).cell hd2
 go_wp2_with (go_at_call 55; refine (backward_any _ _ _ _).mono ?_; rintro e w3 ⟨b, rfl, hE3, hb, hcb⟩; have HE3 := Lib.hid hE3; have HBB := Lib.hid hcb; have hb3 : w2.heap.size + 2 ≤ b := (by simpa using hb); clear hE3 hcb hb)
 have E3 := Lib.hid ((((Ext.alloc w2 (Obj.map #[] 0)).trans (Ext.alloc _ (Obj.cells #[Value.map (some w2.heap.size)] 85)))).trans HE3.out)
 have HE03 := Lib.hid (HE2b.out.trans E3.out)
 have HM3 : Hid (MapK kvP w3 w2.heap.size []) := Lib.hid ((MapK.new w2).ext ((Ext.alloc _ (Obj.cells #[Value.map (some w2.heap.size)] 85)).trans HE3.out))
 have HV3 := Lib.hid ((Var1.new (w2.alloc (Obj.map #[] 0)) 85 (Value.map (some w2.heap.size))).ext HE3.out)
 rw [World.size_alloc] at HV3
 have hz3 : w2.heap.size + 2 ≤ w3.heap.size := by have := HE3.out.size; simpa using this
 have C33 := Lib.hid (C3.out.ext HE03.out)
 refine wp_range (back_iter CA cc b us w3 HBB.out C33.out c2) rfl ⟨_, Tryz.func107, by kernel_rfl, by kernel_rfl⟩ (fun k hk => hk.elim (fun e => e ▸ World.block_lt_of_cell? w3 _ HBB.out) (fun h => RowB.lt C33.out h)) (fun _ => rfl)
  (fun pre T W => ∃ k, pre = backL us k ∧ (∀ i, T i → w3.heap.size ≤ i) ∧ Chg (fun i => i = w2.heap.size ∨ T i) w3 W ∧ MapK kvP W w2.heap.size (ksB d.clauses k))
  (fun _ _ _ _ => False) ?hI (fun _ => fun _ _ _ _ _ h _ _ _ _ => h.elim) ⟨0, rfl, fun _ h => h.elim, Chg.refl _ _, HM3.out⟩
  (fun x => ⟨#[Value.agg #[Value.slice UA d.univ.length uc, Value.slice XA d.exist.length xc, Value.slice CA us.length cc],
   Value.pointer (some { block := w.heap.size, off := 0 }),
   Value.pointer (some { block := w.heap.size + 1, off := 0 }), Value.bool false,
   Value.pointer (some { block := w2.heap.size + 1, off := 0 }), .int .i64 x.1, x.2, undef, undef, undef, undef, undef,
   undef, undef,
   Value.agg #[Value.slice UA d.univ.length uc, Value.slice XA d.exist.length xc, Value.slice CA us.length cc],
   Value.bool true, Value.bool false, undef, Value.map (some w2.heap.size),
   Value.pointer (some { block := w.heap.size, off := 2 }), Value.slice CA us.length cc,
   Value.func (Fn.func 107) #[] #[Value.pointer (some { block := b, off := 0 })], .int .i64 x.1, x.2, undef, undef, undef, undef, undef, undef, undef, undef, undef, undef, undef, undef, undef, undef, undef, undef, undef, undef, undef, undef, undef, undef, undef, undef, undef, undef, undef, undef, undef, undef, undef, undef, undef, undef, undef, undef, undef, undef, undef, undef, undef, undef, undef, undef, undef, undef, undef, undef, undef, undef, undef, undef, undef, undef, undef, undef, undef, undef, undef, undef, undef, undef, undef, undef, undef], []⟩) ?assign ?body ?done ?stop
 case hI =>
  rintro s T T' A C ⟨k, e, hT, hc, hk⟩ hch h1 h2 _
  have := hc.size
  refine ⟨k, e, fun i hi => (h2 i hi).elim (hT i) (fun h => by omega), (hc.mono fun i hi => hi.imp id (h1 i)).trans (hch.mono fun i hi => .inr (h1 i hi)), hk.keep hch (fun h => by have := hT _ h; omega)⟩
 case assign =>
  intro l x W K hK
  gi_wp2
  exact hK
 case body =>
  rintro l pre x T W ⟨k, rfl, hT, hc, hk⟩ hpre hTw hWs
  obtain ⟨hkl, rfl⟩ := backL_next hpre
  obtain ⟨j, hj⟩ : ∃ j, j = us.length - 1 - k := ⟨_, rfl⟩
  rw [← hj]
  have hjl : j < us.length := by omega
  have hjf : j < d.clauses.length := by have := C4.out; omega
  have hks : ksB d.clauses (k + 1) = if (d.clauses.getD j []).length = 2 then kput (ksB d.clauses k) ((d.clauses.getD j []).getD 0 0, (d.clauses.getD j []).getD 1 0) (.int .i64 (j : Int)) else ksB d.clauses k := by
   rw [ksB, show d.clauses.length - 1 - k = j by rw [← C4.out, hj]]
  rw [getD_of _ _ hjf] at hks
  have hbl : backL us (k + 1) = backL us k ++ [((j : Int), us.getD j undef)] := by rw [backL, ← hj]
  rw [← hbl, getD_val us j hjl]
  have hEW : Ext w W := hc.toExt HE03.out (fun i hi => hi.elim (fun e => by omega) (fun h => by have := hT i h; omega))
  obtain ⟨B, cb, hbe, b1, b2, b3⟩ := (C5.out j hjl hjf)
  have HROW := Lib.hid (b3.ext hEW)
  rw [hbe]
  have hmc : W.cell? ⟨w2.heap.size + 1, 0, none⟩ = some (.map (some w2.heap.size)) := hc.cell HV3.out.cell (fun h => h.elim (fun e => by simp at e) (fun h => by have := hT _ h; simp at this; omega))
  have HKS := Lib.hid hks
  have HCH := Lib.hid hc
  have HMK := Lib.hid hk
  have HT := Lib.hid hT
  obtain ⟨L, hL⟩ : ∃ L, L = d.clauses[j].length := ⟨_, rfl⟩
  rw [← hL]
  rw [← hL] at b1 b2
  have HL := Lib.hid hL
  clear hks hbl hj hc hk hT b3 hbe hpre hTw hL HM HB HD0 HE C33 C5 HB2 HD2 HE2 HE2b HE3 hmm
  by_cases h2 : L = 2
  · have hb : ((L : Int) == 2) = true := by subst h2; rfl
    obtain ⟨p, q, hpq⟩ := two_of (HL.out.symm.trans h2)
    subst h2
    have hr := HROW.out
    rw [hpq] at hr
    obtain ⟨ad, rfl, r0⟩ := hr 0 (by simp)
    obtain ⟨ad', e', r1⟩ := hr 1 (by simp)
    injection e' with e'
    subst e'
    simp only [List.map_cons, List.map_nil, List.getElem_cons_zero, List.getElem_cons_succ] at r0 r1
    clear hr
    gi_wp2
    obtain ⟨w9, hup, hm9, hc9, -⟩ := (HMK.out.ext (Ext.drew W)).update fam_kvP Tryz.underlying85 (p, q) (.int .i64 (j : Int))
    unfold kvP at hup
    have har := run_arrayAt2 ad cb
    rw [show ad.add 0 = ad by simp [Addr.add]] at r0
    rw [show ad.add 1 = ⟨ad.block, ad.off + 1, none⟩ by simp [Addr.add]] at r1
    have HM9 := Lib.hid hm9
    have HC9 := Lib.hid hc9
    have HPQ := Lib.hid hpq
    clear hm9 hc9 hpq
    refine still_tail_in (l := l) (fun h => by obtain ⟨_, _, h⟩ := h; exact h) 5 (by kernel_rfl) (by rfl) (by kernel_rfl) ?_
    simp only [List.take_succ_cons, List.take_zero, List.drop_succ_cons, List.drop_zero]
    repeat still_step
    refine wpStill_nil ?_
    go_wp2
    have hgb : ∀ i, i = w2.heap.size → ¬ ((i = b ∨ RowB CA us.length i) ∨ T i) := fun i e h => by
     subst e
     rcases h with (h | h) | h
     · omega
     · have := RowB.lt C3.out h; omega
     · have := HT.out _ h; omega
    exact ⟨((Ext.drew W).chg _).trans (HC9.out.mono hgb), k + 1, rfl, HT.out, (HCH.out.ext (Ext.drew W)).trans (HC9.out.mono fun i h => .inl h), by rw [HKS.out, if_pos HL.out.symm, HPQ.out]; exact HM9.out⟩
  · have hb : ((L : Int) == 2) = false := by simp; omega
    gi_wp2
    exact ⟨Chg.refl _ _, k + 1, rfl, HT.out, HCH.out, by rw [HKS.out, if_neg (fun e => h2 (HL.out.trans e))]; exact HMK.out⟩
 case done =>
  rintro D T w4 hD hTD ⟨k, hke, hT, hc, hmk⟩ hK
  obtain rfl : k = us.length := by have := congrArg List.length hke; rw [backL_length, backL_length] at this; exact this.symm
  have hE4 : Ext w w4 := hc.toExt HE03.out (fun i hi => hi.elim (fun e => by omega) (fun h => by have := hT i h; omega))
  have keep4 : ∀ {g : Nat} {e : TypeId} {cur : List Value}, g < w3.heap.size → g ≠ w2.heap.size → Blk w3 g e cur → Blk w4 g e cur := fun hg hne hb => hc.blk hb (fun h => h.elim (fun e => hne e) (fun h => by have := hT _ h; omega))
  have hbd := keep4 (by omega) (by omega) (((E3.out.chg (fun _ => False)).blk HD2.out id))
  have hbr := keep4 (by omega) (by omega) (((E3.out.chg (fun _ => False)).blk HB2.out id))
  have hbv := keep4 (g := w2.heap.size + 1) (by omega) (by omega) HV3.out
  have d0 := hbd.cell 0
  have d1 := hbd.cell 1
  have d2 := hbd.cell 2
  have v0 := hbv.cell 0
  simp only [List.getElem?_cons_zero, List.getElem?_cons_succ] at d0 d1 d2 v0
  have HMK : Hid (MapK kvP w4 w2.heap.size (ksB d.clauses d.clauses.length)) := Lib.hid (C4.out ▸ hmk)
  have HE4 := Lib.hid hE4
  have HBR := Lib.hid hbr
  have HK := Lib.hid hK
  clear hke hT hc hmk hE4 keep4 hbd hbv hbr HM HB HD0 HE HB2 HD2 HE2 HE2b HE3 hmm hK hTD
  have HR0 : Hid (R = (List.range' 0 (us.length - 0)).findSome? fun i => stepP d i) := Lib.hid (by rw [HRR.out, List.range_eq_range', C4.out]; rfl)
  clear HRR
  go_wp2
  go_loopg [35] us.length (fun gn i wr => ∃ k : Nat, k ≤ us.length ∧ gn + k = us.length ∧ i = .int .i64 k ∧ Hid (Ext w4 wr) ∧ Hid (R = (List.range' k (us.length - k)).findSome? fun i => stepP d i))
  case atStart => exact ⟨0, Nat.zero_le _, by omega, rfl, Lib.hid (Ext.refl _), HR0⟩
  case round =>
   obtain ⟨k, hk, hgk, rfl, HE5, HR⟩ := hrel
   obtain ⟨w5, rfl⟩ : ∃ w5 : World, w5 = wr := ⟨_, rfl⟩
   by_cases hlt : k < us.length
   · have hkf : k < d.clauses.length := by have := C4.out; omega
     obtain ⟨ad, rfl, hck⟩ := (C3.out.ext (HE4.out.trans HE5.out)) k hlt
     obtain ⟨B, cb, hbe, b1, b2, b3⟩ := (C5.out k hlt hkf)
     have HROW := Lib.hid (b3.ext (HE4.out.trans HE5.out))
     rw [hbe] at hck
     have hrk := HR.out
     rw [findSome_from _ _ _ hlt] at hrk
     have HRK := Lib.hid hrk
     obtain ⟨L, hL⟩ : ∃ L, L = d.clauses[k].length := ⟨_, rfl⟩
     rw [← hL] at b1 b2 hck
     have HL := Lib.hid hL
     have HROWF : Hid (d.row k = d.clauses[k]) := Lib.hid (getD_of _ _ hkf)
     have v05 := HE5.out.cell v0
     clear hbe b3 hrk HR hL v0
     by_cases h2 : L = 2
     · have hb : ((L : Int) != 2) = false := by subst h2; rfl
       obtain ⟨p, q, hpq⟩ := two_of (HL.out.symm.trans h2)
       subst h2
       have hmb := row_may HM0.out k hkf
       rw [HROWF.out, hpq] at hmb
       have hasc := ((mayB_iff _).1 hmb).2
       have hp := varOf_eq (n := p) (by have := hasc p (by simp); omega)
       have hq := varOf_eq (n := q) (by have := hasc q (by simp); omega)
       have hpr := varOf_range p
       have hqr := varOf_range q
       have p1 : -65536 ≤ p := by omega
       have p2 : p ≤ 65536 := by omega
       have q1 : -65536 ≤ q := by omega
       have q2 : q ≤ 65536 := by omega
       have hr := HROW.out
       rw [hpq] at hr
       obtain ⟨bd, rfl, r0⟩ := hr 0 (by simp)
       obtain ⟨bd', e', r1⟩ := hr 1 (by simp)
       injection e' with e'
       subst e'
       simp only [List.map_cons, List.map_nil, List.getElem_cons_zero, List.getElem_cons_succ] at r0 r1
       have R0 := Lib.hid r0
       have R1 := Lib.hid r1
       have hst : stepP d k = (firstIdx d [-p, -q]).bind fun b => pairP d [p, q] k b := by
        unfold stepP
        rw [HROWF.out, hpq]; rfl
       have HST := Lib.hid hst
       have HMK5 := Lib.hid (HMK.out.ext HE5.out)
       have hkb := ksB_first d (-p) (-q)
       clear hr hpq hmb hasc hp hq hpr hqr hst r0 r1
       cases hfi : firstIdx d [-p, -q] with
       | none =>
         rw [hfi] at hkb
         have hlk : ∀ n, (Instr.lookup 85 (.map (some w2.heap.size)) (.agg #[.int .i64 (-p), .int .i64 (-q)]) true).run Tryz.prog (w5.drewN n) = .ok (.tuple #[.int .i64 0, .bool false]) (w5.drewN n) := fun n => by
          have := (HMK5.out.ext (Ext.drewN w5 n)).lookup_ok fam_kvP Tryz.underlying85 (zeroValue_int _) (-p, -q)
          rw [hkb] at this
          exact this
         have HS : Hid (R = (List.range' (k + 1) (us.length - (k + 1))).findSome? fun i => stepP d i) := Lib.hid (by rw [HRK.out, HST.out, hfi]; rfl)
         have r0 := R0.out
         have r1 := R1.out
         have r2 := R0.out
         rw [show bd.add 0 = bd by simp [Addr.add]] at r2
         have r3 := R1.out
         rw [show bd.add 1 = ⟨bd.block, bd.off + 1, none⟩ by simp [Addr.add]] at r3
         clear HRK hfi hkb
         go_upto_region 13 with fail
         go_quiet (fail)
         generalize hW : w5.drewN _ = w6
         have HE6 : Hid (Ext w4 w6) := Lib.hid (HE5.out.trans (by rw [← hW]; exact Ext.drewN w5 _))
         clear hW
         go_wp2
         go_loopg [11] 1 (fun gn i wr => i = .int .i64 0 ∧ Hid (Ext w4 wr) ∧ gn = 1)
         case atStart => exact ⟨rfl, HE6, rfl⟩
         case round =>
          obtain ⟨rfl, HE7, rfl⟩ := hrel
          go_wp2
          go_roundg (us.length - (k + 1))
          case measure => omega
          case rel => exact ⟨k + 1, by omega, by omega, by go_num, HE7, HS⟩
       | some bb =>
         rw [hfi] at hkb
         have hlk : ∀ n, (Instr.lookup 85 (.map (some w2.heap.size)) (.agg #[.int .i64 (-p), .int .i64 (-q)]) true).run Tryz.prog (w5.drewN n) = .ok (.tuple #[.int .i64 (bb : Int), .bool true]) (w5.drewN n) := fun n => by
          have := (HMK5.out.ext (Ext.drewN w5 n)).lookup_ok fam_kvP Tryz.underlying85 (zeroValue_int _) (-p, -q)
          rw [hkb] at this
          exact this
         have HS : Hid (R = (pairP d [p, q] k bb).or ((List.range' (k + 1) (us.length - (k + 1))).findSome? fun i => stepP d i)) := Lib.hid (by rw [HRK.out, HST.out, hfi]; rfl)
         have r0 := R0.out
         have r1 := R1.out
         have r2 := R0.out
         rw [show bd.add 0 = bd by simp [Addr.add]] at r2
         have r3 := R1.out
         rw [show bd.add 1 = ⟨bd.block, bd.off + 1, none⟩ by simp [Addr.add]] at r3
         clear HRK hfi hkb
         go_upto_region 13 with fail
         go_quiet (fail)
         generalize hW : w5.drewN _ = w6
         have he6 : Ext w5 w6 := by rw [← hW]; exact Ext.drewN w5 _
         have HE6 : Hid (Ext w4 w6) := Lib.hid (HE5.out.trans he6)
         have HE56 := Lib.hid he6
         clear hW he6 r0 r1 r2 r3 hlk
         go_wp2
         obtain ⟨rest, hrest⟩ : ∃ rest, rest = (List.range' (k + 1) (us.length - (k + 1))).findSome? fun i => stepP d i := ⟨_, rfl⟩
         have HREST := Lib.hid hrest
         have HJ0 : Hid (R = if (decide (0 < -p) && allowP d (-p) q) = true then some (⟨6, -p, q, k, bb⟩ : ChV) else if (decide (0 < -q) && allowP d (-q) p) = true then some (⟨6, -q, p, k, bb⟩ : ChV) else rest) := Lib.hid (by
          rw [HS.out, ← hrest]
          exact pairP_two d p q k bb rest)
         clear hrest HS
         go_loopg [11] 2 (fun gn i wr => Hid (Ext w5 wr) ∧ ((i = .int .i64 0 ∧ gn = 2 ∧ Hid (R = if (decide (0 < -p) && allowP d (-p) q) = true then some (⟨6, -p, q, k, bb⟩ : ChV) else if (decide (0 < -q) && allowP d (-q) p) = true then some (⟨6, -q, p, k, bb⟩ : ChV) else rest)) ∨
          (i = .int .i64 1 ∧ gn = 1 ∧ Hid (R = if (decide (0 < -q) && allowP d (-q) p) = true then some (⟨6, -q, p, k, bb⟩ : ChV) else rest)) ∨ (i = .int .i64 2 ∧ gn = 0 ∧ Hid (R = rest))))
         case atStart => exact ⟨HE56, .inl ⟨rfl, rfl, HJ0⟩⟩
         case round =>
          obtain ⟨HE7, ⟨rfl, rfl, HJ⟩ | ⟨rfl, rfl, HJ⟩ | ⟨rfl, rfl, HJ⟩⟩ := hrel
          · obtain ⟨w7, rfl⟩ : ∃ w7 : World, w7 = wr := ⟨_, rfl⟩
            have r0 := HE7.out.cell R0.out
            have r1 := HE7.out.cell R1.out
            have r2 := r0
            rw [show bd.add 0 = bd by simp [Addr.add]] at r2
            have r3 := r1
            rw [show bd.add 1 = ⟨bd.block, bd.off + 1, none⟩ by simp [Addr.add]] at r3
            go_upto_region 17 with fail
            go_quiet (fail)
            generalize hW : w7.drewN _ = w8
            have he8 : Ext w5 w8 := HE7.out.trans (by rw [← hW]; exact Ext.drewN w7 _)
            have e48 : Ext w4 w8 := HE5.out.trans he8
            have HE8 := Lib.hid he8
            have HE48 := Lib.hid e48
            have dd0 := e48.cell d0
            have dd1 := e48.cell d1
            have dd2 := e48.cell d2
            clear hW he8 r0 r1 r2 r3 e48
            by_cases hx : 0 < -p
            · have hxd : decide (0 < -p) = true := decide_eq_true hx
              have HAL := Lib.hid (fun w' (h : Ext w w') => allowed_any d _ _ _ (-p) q w' (HRD.out.ext h) ok ⟨by omega, by omega⟩)
              cases ha : allowP d (-p) q
              · have HJN : Hid _ := Lib.hid (HJ.out.trans (if_neg (by rw [ha, Bool.and_false]; simp)))
                rw [ha] at HAL
                clear ha hxd HJ
                go_wp2_with (go_at_call 56; refine (HAL.out _ (HE4.out.trans HE48.out)).mono ?_; rintro e w9 ⟨rfl, hE9⟩; have HE9 := Lib.hid hE9; clear hE9)
                go_roundg 1
                case measure => omega
                case rel => exact ⟨Lib.hid (HE8.out.trans HE9.out), .inr (.inl ⟨by go_num, rfl, HJN⟩)⟩
              · have HJN : Hid (R = some (⟨6, -p, q, k, bb⟩ : ChV)) := Lib.hid (HJ.out.trans (if_pos (by rw [ha, hxd]; rfl)))
                rw [ha] at HAL
                clear ha hxd HJ
                go_wp2_with (go_at_call 56; refine (HAL.out _ (HE4.out.trans HE48.out)).mono ?_; rintro e w9 ⟨rfl, hE9⟩; have HE9 := Lib.hid (HE48.out.trans hE9); have hbr9 := ((HE48.out.trans hE9).chg (fun _ => False)).blk HBR.out id; have b0 := hbr9.cell 0; have b1 := hbr9.cell 1; have b2 := hbr9.cell 2; have b3 := hbr9.cell 3; have b4 := hbr9.cell 4; have f0 := hbr9.free 0; have f1 := hbr9.free 1; have f2 := hbr9.free 2; have f3 := hbr9.free 3; have f4 := hbr9.free 4; have HBR9 := Lib.hid hbr9; clear hE9 hbr9)
                have H9 := (HE9.out.block D (Array.getElem?_eq_some_iff.1 HK.out).1).trans HK.out
                obtain ⟨hch, hblk⟩ := set5 w9 (w.heap.size + 1) 37 _ _ _ _ _ (.int .u8 6) (.int .i64 (-p)) (.int .i64 q) (.int .i64 k) (.int .i64 bb) HBR9.out
                generalize ((((w9.setCell ⟨w.heap.size + 1, 0, none⟩ _).setCell _ _).setCell _ _).setCell _ _).setCell _ _ = wF at hch hblk ⊢
                have hDF : wF.heap[D]? = some (.deferred (some [])) := (hch.block D (Array.getElem?_eq_some_iff.1 H9).1 (fun e => by omega)).trans H9
                have hp := (putObj_chg wF D (.deferred none)).blk hblk (fun e => by omega)
                have b0 := hp.cell 0
                have b1 := hp.cell 1
                have b2 := hp.cell 2
                have b3 := hp.cell 3
                have b4 := hp.cell 4
                refine ret_markc (v := .tuple #[.agg (chA (some ⟨6, -p, q, k, bb⟩)), .bool true]) rfl hDF (by simp [results, Tryz.results19, go_sem, chA, b0, b1, b2, b3, b4]) ?_
                rw [HJN.out]
                exact ⟨rfl, (hch.toExt (HE4.out.trans HE9.out) (fun i e => by omega)) |> fun h => (putObj_chg wF D (.deferred none)).toExt h (fun i e => by omega)⟩
            · have HJN : Hid _ := Lib.hid (HJ.out.trans (if_neg (by rw [decide_eq_false hx]; simp)))
              clear HJ
              go_wp2_with fail
              go_roundg 1
              case measure => omega
              case rel => exact ⟨HE8, .inr (.inl ⟨by go_num, rfl, HJN⟩)⟩
          · obtain ⟨w7, rfl⟩ : ∃ w7 : World, w7 = wr := ⟨_, rfl⟩
            have r0 := HE7.out.cell R0.out
            have r1 := HE7.out.cell R1.out
            have r2 := r0
            rw [show bd.add 0 = bd by simp [Addr.add]] at r2
            have r3 := r1
            rw [show bd.add 1 = ⟨bd.block, bd.off + 1, none⟩ by simp [Addr.add]] at r3
            go_upto_region 17 with fail
            go_quiet (fail)
            generalize hW : w7.drewN _ = w8
            have he8 : Ext w5 w8 := HE7.out.trans (by rw [← hW]; exact Ext.drewN w7 _)
            have e48 : Ext w4 w8 := HE5.out.trans he8
            have HE8 := Lib.hid he8
            have HE48 := Lib.hid e48
            have dd0 := e48.cell d0
            have dd1 := e48.cell d1
            have dd2 := e48.cell d2
            clear hW he8 r0 r1 r2 r3 e48
            by_cases hx : 0 < -q
            · have hxd : decide (0 < -q) = true := decide_eq_true hx
              have HAL := Lib.hid (fun w' (h : Ext w w') => allowed_any d _ _ _ (-q) p w' (HRD.out.ext h) ok ⟨by omega, by omega⟩)
              cases ha : allowP d (-q) p
              · have HJN : Hid _ := Lib.hid (HJ.out.trans (if_neg (by rw [ha, Bool.and_false]; simp)))
                rw [ha] at HAL
                clear ha hxd HJ
                go_wp2_with (go_at_call 56; refine (HAL.out _ (HE4.out.trans HE48.out)).mono ?_; rintro e w9 ⟨rfl, hE9⟩; have HE9 := Lib.hid hE9; clear hE9)
                go_roundg 0
                case measure => omega
                case rel => exact ⟨Lib.hid (HE8.out.trans HE9.out), .inr (.inr ⟨by go_num, rfl, HJN⟩)⟩
              · have HJN : Hid (R = some (⟨6, -q, p, k, bb⟩ : ChV)) := Lib.hid (HJ.out.trans (if_pos (by rw [ha, hxd]; rfl)))
                rw [ha] at HAL
                clear ha hxd HJ
                go_wp2_with (go_at_call 56; refine (HAL.out _ (HE4.out.trans HE48.out)).mono ?_; rintro e w9 ⟨rfl, hE9⟩; have HE9 := Lib.hid (HE48.out.trans hE9); have hbr9 := ((HE48.out.trans hE9).chg (fun _ => False)).blk HBR.out id; have b0 := hbr9.cell 0; have b1 := hbr9.cell 1; have b2 := hbr9.cell 2; have b3 := hbr9.cell 3; have b4 := hbr9.cell 4; have f0 := hbr9.free 0; have f1 := hbr9.free 1; have f2 := hbr9.free 2; have f3 := hbr9.free 3; have f4 := hbr9.free 4; have HBR9 := Lib.hid hbr9; clear hE9 hbr9)
                have H9 := (HE9.out.block D (Array.getElem?_eq_some_iff.1 HK.out).1).trans HK.out
                obtain ⟨hch, hblk⟩ := set5 w9 (w.heap.size + 1) 37 _ _ _ _ _ (.int .u8 6) (.int .i64 (-q)) (.int .i64 p) (.int .i64 k) (.int .i64 bb) HBR9.out
                generalize ((((w9.setCell ⟨w.heap.size + 1, 0, none⟩ _).setCell _ _).setCell _ _).setCell _ _).setCell _ _ = wF at hch hblk ⊢
                have hDF : wF.heap[D]? = some (.deferred (some [])) := (hch.block D (Array.getElem?_eq_some_iff.1 H9).1 (fun e => by omega)).trans H9
                have hp := (putObj_chg wF D (.deferred none)).blk hblk (fun e => by omega)
                have b0 := hp.cell 0
                have b1 := hp.cell 1
                have b2 := hp.cell 2
                have b3 := hp.cell 3
                have b4 := hp.cell 4
                refine ret_markc (v := .tuple #[.agg (chA (some ⟨6, -q, p, k, bb⟩)), .bool true]) rfl hDF (by simp [results, Tryz.results19, go_sem, chA, b0, b1, b2, b3, b4]) ?_
                rw [HJN.out]
                exact ⟨rfl, (hch.toExt (HE4.out.trans HE9.out) (fun i e => by omega)) |> fun h => (putObj_chg wF D (.deferred none)).toExt h (fun i e => by omega)⟩
            · have HJN : Hid _ := Lib.hid (HJ.out.trans (if_neg (by rw [decide_eq_false hx]; simp)))
              clear HJ
              go_wp2_with fail
              go_roundg 0
              case measure => omega
              case rel => exact ⟨HE8, .inr (.inr ⟨by go_num, rfl, HJN⟩)⟩
          · have HS2 : Hid (R = (List.range' (k + 1) (us.length - (k + 1))).findSome? fun i => stepP d i) := Lib.hid (HJ.out.trans HREST.out)
            go_wp2
            go_roundg (us.length - (k + 1))
            case measure => omega
            case rel => exact ⟨k + 1, by omega, by omega, by go_num, Lib.hid (HE5.out.trans HE7.out), HS2⟩
     · have hb : ((L : Int) != 2) = true := by simp; omega
       have HS : Hid (R = (List.range' (k + 1) (us.length - (k + 1))).findSome? fun i => stepP d i) := Lib.hid (by
        rw [HRK.out, show stepP d k = none by unfold stepP; rw [if_neg (by rw [HROWF.out, ← HL.out]; exact h2)]]; rfl)
       clear HRK
       go_wp2
       go_roundg (us.length - (k + 1))
       case measure => omega
       case rel => exact ⟨k + 1, by omega, by omega, by go_num, HE5, HS⟩
   · obtain rfl : k = us.length := by omega
     have HF : Hid (R = none) := Lib.hid (by rw [HR.out, Nat.sub_self]; rfl)
     have hbr5 := (HE5.out.chg (fun _ => False)).blk HBR.out id
     have b0 := hbr5.cell 0
     have b1 := hbr5.cell 1
     have b2 := hbr5.cell 2
     have b3 := hbr5.cell 3
     have b4 := hbr5.cell 4
     have f0 := hbr5.free 0
     have f1 := hbr5.free 1
     have f2 := hbr5.free 2
     have f3 := hbr5.free 3
     have f4 := hbr5.free 4
     have hH5 := (HE5.out.block D (Array.getElem?_eq_some_iff.1 HK.out).1).trans HK.out
     have H5 := Lib.hid hH5
     have HBR5 := Lib.hid hbr5
     clear hbr5 hH5
     go_wp2
     obtain ⟨hch, hblk⟩ := set5 w5 (w.heap.size + 1) 37 _ _ _ _ _ (.int .u8 0) (.int .i64 0) (.int .i64 0) (.int .i64 0) (.int .i64 0) HBR5.out
     generalize ((((w5.setCell ⟨w.heap.size + 1, 0, none⟩ (.int .u8 0)).setCell _ _).setCell _ _).setCell _ _).setCell _ _ = wF at hch hblk ⊢
     have hDF : wF.heap[D]? = some (.deferred (some [])) := (hch.block D (Array.getElem?_eq_some_iff.1 H5.out).1 (fun e => by omega)).trans H5.out
     have hp := (putObj_chg wF D (.deferred none)).blk hblk (fun e => by omega)
     have b0 := hp.cell 0
     have b1 := hp.cell 1
     have b2 := hp.cell 2
     have b3 := hp.cell 3
     have b4 := hp.cell 4
     refine ret_markc (v := .tuple #[.agg (chA none), .bool false]) rfl hDF (by simp [results, Tryz.results19, go_sem, chA, b0, b1, b2, b3, b4]) ?_
     rw [HF.out]
     exact ⟨rfl, ((hch.toExt (HE4.out.trans HE5.out) (fun i e => by omega)).trans (Ext.refl _)) |> fun h => (putObj_chg wF D (.deferred none)).toExt h (fun i e => by omega)⟩
 case stop =>
  intro D c pre T W _ _ _ h _
  exact h.elim
theorem Next_any (d : DqV) (vu vx vc : Value) (w : World) (hd : RD w vu vx vc d) (ok : DOk d) : Calls Tryz.prog 19 #[.agg #[vu, vx, vc]] w (PostNext w (nextP d)) := by
 unfold nextP
 cases hm : mayD d
 · rw [if_neg (by decide)]
   exact Next_no d vu vx vc w hd ok hm
 · rw [if_pos rfl]
   exact Next_yes d vu vx vc w hd ok hm _ rfl
end Go.Proofs.YtjecjaihficcdaaGreat
namespace Go.Proofs.YtjecjaihficcdaaGreat
open Go.RowKit
attribute [local go_sem] Oper.semAt_some
theorem reached_any (g : Nat) (x : Int) (w : World) : Calls Tryz.prog 40 #[.map (some g), .int .i64 x] w fun e w' => ∃ b3 b2, e = .returned (.func (.func 92) #[] #[.pointer (some ⟨b3, 0, none⟩), .pointer (some ⟨b2, 0, none⟩)]) ∧ Ext w w' ∧ w'.cell? ⟨b3, 0, none⟩ = some (.int .i64 x) ∧ w'.cell? ⟨b2, 0, none⟩ = some (.map (some g)) ∧ w.heap.size ≤ b3 ∧ w.heap.size ≤ b2 := by
 have e1 := Ext.alloc w (.cells #[.map (some g)] 67)
 have e2 := Ext.alloc (w.alloc (.cells #[.map (some g)] 67)) (.cells #[.int .i64 x] 3)
 have c1 := (Var1.new (w.alloc (.cells #[.map (some g)] 67)) 3 (.int .i64 x)).cell
 have c2 := ((Var1.new w 67 (.map (some g))).ext e2).cell
 rw [World.size_alloc] at c1
 have E1 := Lib.hid (e1.trans e2)
 have C1 := Lib.hid c1
 have C2 := Lib.hid c2
 clear e1 e2 c1 c2
 go_enter Tryz.func40, Tryz.ntmps40
 go_wp2
 go_ret
 exact ⟨_, _, rfl, E1.out, C1.out, C2.out, by omega, by omega⟩
theorem fv_reached1 : Fv Tryz.prog 92 := ⟨_, Tryz.func92, by kernel_rfl, by kernel_rfl⟩
set_option maxRecDepth 100000 in
set_option maxHeartbeats 2000000 in
theorem reaches_any (f : List (List Int)) (g : Nat) (ks : List (Int × Value)) (x y : Int) (w : World) (hf : f.length ≤ 20000) (hg : GR w g ks f) :
 Calls Tryz.prog 48 #[.map (some g), .int .i64 x, .int .i64 y] w fun e w' => e = .returned (.bool (decide (y ∈ reachL f x))) ∧ Ext w w' := by
 have HG := Lib.hid hg
 have HV := Lib.hid (Var1.new w 3 (.int .i64 y))
 have HR := Lib.hid (Var1.new (w.alloc (.cells #[.int .i64 y] 3)) 4 (.bool false))
 rw [World.size_alloc] at HR
 have HE := Lib.hid ((Ext.alloc w (.cells #[.int .i64 y] 3)).trans (Ext.alloc _ (.cells #[.bool false] 4)))
 have HE' := Lib.hid (Ext.alloc (w.alloc (.cells #[.int .i64 y] 3)) (.cells #[.bool false] 4))
 clear hg
 refine calls_marks Tryz.func48 rfl ?_
 simp only [Tryz.ntmps48, List.size_toArray, List.length_cons, List.length_nil, Nat.reduceAdd, Nat.reduceSub, Array.replicate_succ, Array.replicate_zero, List.push_toArray, List.append_toArray, List.nil_append, List.cons_append]
 go_wp2_with (go_at_call 40; refine (reached_any _ _ _).mono ?_; rintro e w2 ⟨b3, b2, rfl, hE, h3, h2, hb3, hb2⟩; have HB3 : w.heap.size + 2 ≤ b3 := (by simpa using hb3); have HB2 : w.heap.size + 2 ≤ b2 := (by simpa using hb2); have HE2 := Lib.hid hE; have H3 := Lib.hid h3; have H2 := Lib.hid h2; clear hE h3 h2 hb3 hb2)
 have hz2 : w.heap.size + 2 ≤ w2.heap.size := by have := HE2.out.size; simpa using this
 have HW2 := Lib.hid (HE.out.trans HE2.out)
 have HV2 := Lib.hid ((HV.out.ext HE'.out).ext HE2.out)
 have HR2 := Lib.hid (HR.out.ext HE2.out)
 have hrk : ∀ k, (k = b3 ∨ k = b2 ∨ GB g ks k) → k < w2.heap.size := fun k hk => by
  rcases hk with rfl | rfl | hk
  · exact World.block_lt_of_cell? w2 _ H3.out
  · exact World.block_lt_of_cell? w2 _ H2.out
  · exact (HG.out.ext HW2.out).lt hk
 have HRK := Lib.hid hrk
 clear hrk
 refine wp_range (reached_iter f g b3 b2 ks x w2 hf H3.out H2.out (HG.out.ext HW2.out)) rfl fv_reached1 HRK.out (fun _ => rfl)
  (fun pre T W => y ∉ pre ∧ (∀ i, T i → w2.heap.size ≤ i) ∧ Chg T w2 W)
  (fun c pre T W => c = .ret ∧ y ∈ pre ∧ (∀ i, T i → w2.heap.size ≤ i) ∧ Chg (fun i => T i ∨ i = w.heap.size + 1) w2 W ∧ Var1 W (w.heap.size + 1) 4 (.bool true)) ?hI ?hIx ⟨by simp, fun _ h => h.elim, Chg.refl _ _⟩
  (fun z => ⟨#[.map (some g), .int .i64 x, .int .i64 y, undef, undef, .pointer (some ⟨w.heap.size, 0, none⟩), .pointer (some ⟨w.heap.size + 1, 0, none⟩), .int .i64 z, .map (some g), .int .i64 x,
   .func (.func 92) #[] #[.pointer (some ⟨b3, 0, none⟩), .pointer (some ⟨b2, 0, none⟩)], .int .i64 z, undef, undef, undef], []⟩) ?assign ?body ?done ?stop
 case hI =>
  rintro s T T' A C ⟨h1, hT, hc⟩ hch h2 h3 _
  have := hc.size
  exact ⟨h1, fun i hi => (h3 i hi).elim (hT i) (fun h => by omega), (hc.mono h2).trans (hch.mono h2)⟩
 case hIx =>
  rintro c s T T' A C ⟨h0, h1, hT, hc, hv⟩ hch h2 h3 _
  have := hc.size
  exact ⟨h0, h1, fun i hi => (h3 i hi).elim (hT i) (fun h => by omega), (hc.mono fun i hi => hi.imp (h2 i) id).trans (hch.mono fun i hi => .inl (h2 i hi)), (hch.block _ hv.lt (fun h => by have := hT _ h; omega)).trans hv⟩
 case assign =>
  intro l z W K hK
  gi_wp2
  exact hK
 case body =>
  rintro l pre z T W ⟨hno, hT, hc⟩ hpre hTw hWs
  have hcy : W.cell? ⟨w.heap.size, 0, none⟩ = some (.int .i64 y) := hc.cell HV2.out.cell (fun h => by have := hT _ h; simp at this; omega)
  have hvr : Var1 W (w.heap.size + 1) 4 (.bool false) := (hc.block _ HR2.out.lt (fun h => by have := hT _ h; omega)).trans HR2.out
  have hcr := hvr.cell
  have hfr := hvr.free
  have HVR := Lib.hid hvr
  have HC := Lib.hid hc
  have HT := Lib.hid hT
  have HNO := Lib.hid hno
  clear hvr hc hT hno hpre hTw hWs
  by_cases hzy : z = y
  · have hb : (z == y) = true := by simpa using hzy
    gi_wp2
    exact ⟨(Chg.set W _ _ _).mono fun i hi h => by
     subst hi
     rcases h with h | h
     · rcases h with h | h | h
       · omega
       · omega
       · have := HG.out.lt h; omega
     · have := HT.out _ h; omega, rfl, by simp [hzy], HT.out, (HC.out.mono fun _ h => .inl h).trans ((Chg.set W _ _ _).mono fun _ h => .inr h), HVR.out.set _⟩
  · have hb : (z == y) = false := by simpa using hzy
    gi_wp2
    exact ⟨Chg.refl _ _, by simp only [List.mem_append, List.mem_singleton, not_or]; exact ⟨HNO.out, fun e => hzy e.symm⟩, HT.out, HC.out⟩
 case done =>
  rintro D T W hD hTD ⟨hno, hT, hc⟩ hK
  have hvr : Var1 W (w.heap.size + 1) 4 (.bool false) := (hc.block _ HR2.out.lt (fun h => by have := hT _ h; omega)).trans HR2.out
  have hcr := hvr.cell
  have hfr := hvr.free
  have HVR := Lib.hid hvr
  have hE : Ext w W := hc.toExt HW2.out (fun i hi => by have := hT i hi; omega)
  have HEW := Lib.hid hE
  have HK := Lib.hid hK
  have HNO := Lib.hid hno
  clear hvr hE hK hc hT hno hTD
  go_wp2
  have hKF : (W.setCell ⟨w.heap.size + 1, 0, none⟩ (.bool false)).heap[D]? = some (.deferred (some [])) := ((Chg.set W (w.heap.size + 1) 0 (.bool false)).block D (Array.getElem?_eq_some_iff.1 HK.out).1 (fun e => by omega)).trans HK.out
  have hcell := ((putObj_chg (W.setCell ⟨w.heap.size + 1, 0, none⟩ (.bool false)) D (.deferred none)).block _ (HVR.out.set (.bool false)).lt (fun e => by omega)).trans (HVR.out.set (.bool false))
  have hcell2 : Var1 _ _ _ _ := hcell
  have b0 := hcell2.cell
  refine ret_markc (v := .bool false) rfl hKF (by simp [results, Tryz.results48, go_sem, b0]) ?_
  exact ⟨by rw [decide_eq_false HNO.out], ((putObj_chg _ D (.deferred none)).toExt ((Chg.set W (w.heap.size + 1) 0 (.bool false)).toExt HEW.out (fun i e => by omega)) (fun i e => by omega))⟩
 case stop =>
  rintro D c pre T W hD hTD hpre ⟨rfl, hy, hT, hc, hv⟩ hK
  have hE : Ext w W := hc.toExt HW2.out (fun i hi => hi.elim (fun h => by have := hT i h; omega) (fun h => by omega))
  have hcell2 : Var1 (W.putObj D (.deferred none)) (w.heap.size + 1) 4 (.bool true) := ((putObj_chg W D (.deferred none)).block _ hv.lt (fun e => by omega)).trans hv
  have b0 := hcell2.cell
  have HB0 := Lib.hid b0
  have HEW := Lib.hid hE
  have HK := Lib.hid hK
  have HY := Lib.hid hy
  clear hE hcell2 b0 hK hT hc hv hTD hy
  go_wp2
  have b0 := HB0.out
  refine ret_markc (v := .bool true) rfl HK.out (by simp [results, Tryz.results48, go_sem, b0]) ?_
  exact ⟨by rw [decide_eq_true (hpre.subset HY.out)], (putObj_chg W D (.deferred none)).toExt HEW.out (fun i e => by omega)⟩
end Go.Proofs.YtjecjaihficcdaaGreat
namespace Go.Proofs.YtjecjaihficcdaaGreat
open Go.RowKit
theorem collect_any (xs : List Int) (gf : FuncId) (lb : Array Value) (Rk : Nat → Prop) (w : World) (hit : Iter Tryz.prog gf lb (fun y : Int => #[.int .i64 y]) xs Rk w) (hf : Fv Tryz.prog gf) (hRk : ∀ k, Rk k → k < w.heap.size) (hl : xs.length ≤ 1000000) :
 Calls Tryz.prog 91 #[.func (.func gf) #[] lb] w fun e w' => ∃ v, e = .returned v ∧ OwnI w' w.heap.size v xs ∧ Ext w w' := by
 have HA := Lib.hid (appendSeq_any xs gf lb Rk w hit hf hRk hl)
 clear hit hRk
 go_enter Tryz.func91, Tryz.ntmps91
 go_wp2_with (go_at_call 130; refine HA.out.mono ?_; rintro e w' ⟨v, rfl, ho, hE⟩; have HO := Lib.hid ho; have HE := Lib.hid hE; clear ho hE)
 go_ret
 exact ⟨_, rfl, HO.out, HE.out⟩
theorem sortedFunc_any (xs : List Int) (gf : FuncId) (lb : Array Value) (Rk : Nat → Prop) (w : World) (hit : Iter Tryz.prog gf lb (fun y : Int => #[.int .i64 y]) xs Rk w) (hf : Fv Tryz.prog gf) (hRk : ∀ k, Rk k → k < w.heap.size) (hl : xs.length ≤ 1000000)
 (hn : xs.Nodup) (hv : ∀ x ∈ xs, varOf x ≠ 0) :
 Calls Tryz.prog 38 #[.func (.func gf) #[] lb, .func (.func 41) #[] #[]] w fun e w' => ∃ v, e = .returned v ∧ OwnI w' w.heap.size v (setL [] xs) ∧ Ext w w' := by
 have HA := Lib.hid (collect_any xs gf lb Rk w hit hf hRk hl)
 have h64 : All64 xs := fun x hx => by have := varOf_eq (hv x hx); have := varOf_range x; unfold I64; omega
 have H64 := Lib.hid h64
 have HN := Lib.hid hn
 have HV := Lib.hid hv
 clear hit hRk hn hv h64
 go_enter Tryz.func38, Tryz.ntmps38
 go_wp2_with (first
  | (go_at_call 91; refine HA.out.mono ?_; rintro e w1 ⟨v, rfl, ho, hE⟩; have HO := Lib.hid ho; have HE := Lib.hid hE; clear ho hE)
  | (go_at_call 51; refine (SortE_own xs v _ _ HO.out (by omega) H64.out).mono ?_; rintro e w2 ⟨ys, rfl, ho, hg, hp, hs⟩; have HO2 : Hid (OwnI w2 w.heap.size v (setL [] xs)) := Lib.hid (sortE_set hp hs HN.out HV.out ▸ ho); have HE2 := Lib.hid (grow_ext HE.out HO.out hg); clear ho hg hp hs))
 go_ret
 exact ⟨_, rfl, HO2.out, HE2.out⟩
theorem mayCnf_var {f : List (List Int)} (hm : mayCnfB f = true) : ∀ c ∈ f, ∀ x ∈ c, varOf x ≠ 0 := fun c hc x hx => by
 obtain ⟨k, hk, rfl⟩ := List.getElem_of_mem hc
 have := ((mayB_iff _).1 (mayCnfB_get hm k hk)).2 x hx
 omega
theorem lits2_var {f : List (List Int)} (hm : mayCnfB f = true) : ∀ x ∈ lits2 f, varOf x ≠ 0 := fun x hx => by
 unfold lits2 at hx
 obtain ⟨c, hc, hm'⟩ := List.mem_flatMap.1 hx
 split at hm'
 · exact mayCnf_var hm c hc x hm'
 · cases hm'
theorem reachL_var {f : List (List Int)} (hm : mayCnfB f = true) {lit : Int} (hv : varOf lit ≠ 0) : ∀ x ∈ reachL f lit, varOf x ≠ 0 := fun x hx => by
 rcases (reachL_spec f lit).2.1 x hx with rfl | h
 · exact hv
 · exact lits2_var hm x h
set_option maxHeartbeats 1000000 in
theorem Reaches_any (f : List (List Int)) (lit : Int) (u : Value) (w : World) (hlit : I64 lit) (h64 : All64L f) (kr : RLL w u f) (ht : f.length ≤ 20000 → total f ≤ 9223372036854775807) :
 Calls Tryz.prog 12 #[u, .int .i64 lit] w fun e w' => ∃ v, e = .returned v ∧ OwnI w' w.heap.size v (ReachV f lit) ∧ Ext w w' := by
 have HM := Lib.hid (fun w' (h : Ext w w') => mayCnf_any u f w' (RLL.ext' kr h) h64 ht)
 have HV := Lib.hid (fun w' => var_any lit hlit w')
 have HKR := Lib.hid kr
 obtain ⟨A, c, vs, rfl, k1, k2, -⟩ := kr
 obtain ⟨v, hv⟩ : ∃ v, v = varOf lit := ⟨_, rfl⟩
 unfold ReachV
 rw [← hv] at HV ⊢
 have HVE := Lib.hid hv
 clear hv
 by_cases h0 : v = 0
 · rw [if_pos (.inl h0)]
   have hb : (v == 0) = true := by simpa using h0
   clear h0
   go_enter Tryz.func12, Tryz.ntmps12
   go_wp2_with (go_at_call 36; refine (HV.out _).mono ?_; rintro e w' ⟨rfl, rfl⟩)
   go_ret
   exact ⟨_, rfl, OwnI.nil _ _, Ext.refl _⟩
 · have hb : (v == 0) = false := by simpa using h0
   cases hm : mayCnfB f
   · rw [if_pos (.inr rfl)]
     rw [hm] at HM
     clear hm h0
     go_enter Tryz.func12, Tryz.ntmps12
     go_wp2_with (first
      | (go_at_call 36; refine (HV.out _).mono ?_; rintro e w' ⟨rfl, rfl⟩)
      | (go_at_call 37; refine (HM.out _ (Ext.refl _)).mono ?_; rintro e w1 ⟨rfl, hE⟩; have HE := Lib.hid hE; clear hE))
     go_ret
     exact ⟨_, rfl, OwnI.nil _ _, HE.out⟩
   · rw [if_neg (by simp [h0])]
     rw [hm] at HM
     have HMM := Lib.hid hm
     have H0 := Lib.hid h0
     clear hm h0
     go_enter Tryz.func12, Tryz.ntmps12
     go_wp2_with (first
      | (go_at_call 36; refine (HV.out _).mono ?_; rintro e w' ⟨rfl, rfl⟩)
      | (go_at_call 37; refine (HM.out _ (Ext.refl _)).mono ?_; rintro e w1 ⟨rfl, hE⟩; have HE := Lib.hid hE; clear hE)
      | (go_at_call 39; refine (implications_any f _ _ h64 (RLL.ext' HKR.out HE.out) HMM.out).mono ?_; rintro e w2 ⟨g, ks, rfl, hg, hE⟩; have HG := Lib.hid (GM.reads hg); have HE2 := Lib.hid (HE.out.trans hE); clear hg hE)
      | (go_at_call 40; refine (reached_any _ _ _).mono ?_; rintro e w3 ⟨b3, b2, rfl, hE, h3, h2, -, -⟩; have HE3 := Lib.hid (HE2.out.trans hE); have HG3 := Lib.hid (HG.out.ext hE); have H3 := Lib.hid h3; have H2 := Lib.hid h2; clear hE h3 h2)
      | (go_at_call 38
         refine (sortedFunc_any (reachL f lit) _ _ _ _ (reached_iter f g b3 b2 ks lit _ (mayCnfB_len HMM.out) H3.out H2.out HG3.out) fv_reached1 (fun k hk => (by
          rcases hk with rfl | rfl | hk
          · exact World.block_lt_of_cell? _ _ H3.out
          · exact World.block_lt_of_cell? _ _ H2.out
          · exact HG3.out.lt hk)) (by have := reachL_len f lit; have := mayCnfB_len HMM.out; omega) (reachL_spec f lit).1 (reachL_var HMM.out (by rw [← HVE.out]; exact H0.out))).mono ?_
         rintro e w4 ⟨v4, rfl, ho, hE⟩
         have HO := Lib.hid (own_lower ho HE3.out.size)
         have HE4 := Lib.hid (HE3.out.trans hE)
         clear ho hE))
     go_ret
     exact ⟨_, rfl, HO.out, HE4.out⟩
end Go.Proofs.YtjecjaihficcdaaGreat
namespace Go.Proofs.YtjecjaihficcdaaGreat
open Go.RowKit Go.ChangeMaps
section
variable {κ : Type} {P : Program} {kv : κ → Value} {g r : Nat} {ks told : List (κ × Value)} {w : World}
def MR (kv : κ → Value) (w : World) (g r : Nat) (ks told : List (κ × Value)) : Prop :=
 ∃ (es : Array MapEntry) (clock since : Nat) (c0 : Nat) (tl : List MapEntry), w.heap[g]? = some (.map es clock) ∧ MapKept.Stamped es clock ∧ es.toList.map (fun e => (e.key, e.val)) = ks.map (fun p => (kv p.1, p.2)) ∧
  w.heap[r]? = some (.mapIter (some g) since (tl.map (·.born)).toArray c0) ∧ (∀ x ∈ es.toList, x.born < since) ∧ (since ≤ c0 ∧ since ≤ clock) ∧ (∀ e ∈ tl, e ∈ es.toList) ∧ (tl.map (·.born)).Nodup ∧ tl.map (fun e => (e.key, e.val)) = told.map fun p => (kv p.1, p.2)
theorem MapK.range (h : MapK kv w g ks) {T K E : TypeId} (hT : P.underlying T = some (.map K E)) :
 ∃ w', (Instr.range T (.map (some g))).run P w = .ok (.pointer (some ⟨w.heap.size, 0, none⟩)) w' ∧ MR kv w' g w.heap.size ks [] ∧ Ext w w' ∧ w'.heap.size = w.heap.size + 1 := by
 obtain ⟨es, clock, hg, hs, hm⟩ := h
 refine ⟨w.alloc (.mapIter (some g) clock #[] clock), run_range_map w T K E g es clock hT hg, ⟨es, clock, clock, clock, [], ?_, hs, hm, heap_alloc_new w _, hs.1, ⟨Nat.le_refl _, Nat.le_refl _⟩, by simp, by simp, rfl⟩, Ext.alloc w _, by simp⟩
 · exact (Ext.alloc w _).block g (Array.getElem?_eq_some_iff.1 hg).1 |>.trans hg
theorem nodup_lenN : ∀ (l u : List Nat), l.Nodup → (∀ x ∈ l, x ∈ u) → l.length ≤ u.length
 | [], _, _, _ => by simp
 | x :: l, u, hn, hs => by
   rw [List.nodup_cons] at hn
   have hx := hs x (by simp)
   have h1 := nodup_lenN l (u.erase x) hn.2 (fun y hy => (List.mem_erase_of_ne (fun e => hn.1 (by rw [← e]; exact hy))).2 (hs y (by simp [hy])))
   rw [List.length_erase_of_mem hx] at h1
   have := List.length_pos_of_mem hx
   simp only [List.length_cons]
   omega
theorem MR.len (h : MR kv w g r ks told) : told.length ≤ ks.length := by
 obtain ⟨es, clock, since, c0, tl, -, -, hm, -, -, -, h1, h2, h3⟩ := h
 have e1 := congrArg List.length h3
 have e2 := congrArg List.length hm
 simp only [List.length_map] at e1 e2
 have := nodup_lenN (tl.map (·.born)) (es.toList.map (·.born)) h2 (fun b hb => by
  obtain ⟨e, he, rfl⟩ := List.mem_map.1 hb
  exact List.mem_map.2 ⟨e, h1 e he, rfl⟩)
 simp only [List.length_map] at this
 omega
theorem MR.keep {S : Nat → Prop} {w' : World} (h : MR kv w g r ks told) (k : Chg S w w') (hg : ¬ S g) (hr : ¬ S r) : MR kv w' g r ks told := by
 obtain ⟨es, clock, since, c0, tl, h1, h2, h3, h4, h5⟩ := h
 exact ⟨es, clock, since, c0, tl, (k.block g (Array.getElem?_eq_some_iff.1 h1).1 hg).trans h1, h2, h3, (k.block r (Array.getElem?_eq_some_iff.1 h4).1 hr).trans h4, h5⟩
theorem MR.lt (h : MR kv w g r ks told) : r < w.heap.size := by
 obtain ⟨es, clock, since, c0, tl, h1, h2, h3, h4, h5⟩ := h
 exact (Array.getElem?_eq_some_iff.1 h4).1
theorem setBlock_chg (w : World) (r : Nat) (o : Obj) : Chg (fun k => k = r) w (setBlock w r o) :=
 ⟨rfl, rfl, rfl, by simp [setBlock], fun k _ hn => by simp only [setBlock]; rw [Array.getElem?_setIfInBounds_ne (fun e => hn e.symm)]⟩
theorem MR.next (h : MR kv w g r ks told) (hgr : g ≠ r) (ty : TypeId) :
 ((∀ p ∈ ks, ∃ q ∈ told, kv q.1 = kv p.1 ∧ q.2 = p.2) ∧ (Instr.next (.pointer (some ⟨r, 0, none⟩)) false ty).run P w = .ok (.tuple #[.bool false]) w) ∨
 ∃ p ∈ ks, ∃ w', (Instr.next (.pointer (some ⟨r, 0, none⟩)) false ty).run P w = .ok (.tuple #[.bool true, kv p.1, p.2]) w' ∧ (Instr.entry (.pointer (some ⟨r, 0, none⟩))).run P w' = .ok (.tuple #[kv p.1, p.2]) w' ∧ MR kv w' g r ks (told ++ [p]) ∧ Chg (fun k => k = r) w w' := by
 obtain ⟨es, clock, since, c0, tl, hg, hs, hm, hr, hb, hsc, h1, h2, h3⟩ := h
 have find : ∀ e ∈ es.toList, ∃ p ∈ ks, e.key = kv p.1 ∧ e.val = p.2 := fun e he => by
  obtain ⟨j, hj, rfl⟩ := List.getElem_of_mem he
  have hlen := congrArg List.length hm
  simp only [List.length_map] at hlen
  have := congrArg (fun l => l[j]?) hm
  simp only [List.getElem?_map, List.getElem?_eq_getElem hj, List.getElem?_eq_getElem (show j < ks.length by omega), Option.map_some] at this
  injection this with this
  exact ⟨ks[j], List.getElem_mem _, congrArg Prod.fst this, congrArg Prod.snd this⟩
 rcases run_next_at (P := P) w ty r g since c0 _ es clock hr hg hb hsc.1 with ⟨h0, hrun⟩ | ⟨e, he, w1, hw1, hrun⟩
 · refine .inl ⟨fun p hp => ?_, hrun⟩
   obtain ⟨j, hj, rfl⟩ := List.getElem_of_mem hp
   have hlen := congrArg List.length hm
   simp only [List.length_map] at hlen
   have hje : j < es.toList.length := by omega
   have hkv := congrArg (fun l => l[j]?) hm
   simp only [List.getElem?_map, List.getElem?_eq_getElem hj, List.getElem?_eq_getElem hje, Option.map_some] at hkv
   injection hkv with hkv
   have hin : es.toList[j].born ∈ tl.map (·.born) := by
    by_cases hc : es.toList[j].born ∈ tl.map (·.born)
    · exact hc
    · exfalso
      have : es.toList[j] ∈ (leftOf es (tl.map (·.born)).toArray).toList := by
       unfold leftOf
       simp only [Array.toList_filter, List.mem_filter]
       refine ⟨List.getElem_mem hje, ?_⟩
       simpa using hc
      have h9 := List.length_pos_of_mem this
      simp at h9
      omega
   obtain ⟨e', he', heb⟩ := List.mem_map.1 hin
   have hee : e' = es.toList[j] := by
    have hn := hs.2.1
    obtain ⟨i, hi, rfl⟩ := List.getElem_of_mem (h1 e' he')
    have : i = j := by
     have h5 : (es.toList.map (·.born))[i]? = (es.toList.map (·.born))[j]? := by
      simp only [List.getElem?_map, List.getElem?_eq_getElem hi, List.getElem?_eq_getElem hje, Option.map_some, heb]
     exact (List.getElem?_inj (by simpa using hi) hn).1 h5
    subst this; rfl
   have hm3 : (e'.key, e'.val) ∈ told.map fun p => (kv p.1, p.2) := by rw [← h3]; exact List.mem_map.2 ⟨e', he', rfl⟩
   obtain ⟨q, hq, hqe⟩ := List.mem_map.1 hm3
   rw [hee] at hqe
   have e1 := congrArg Prod.fst hqe
   have e2 := congrArg Prod.snd hqe
   have e3 := congrArg Prod.fst hkv
   have e4 := congrArg Prod.snd hkv
   exact ⟨q, hq, e1.trans e3, e2.trans e4⟩
 · unfold leftOf at he
   simp only [Array.toList_filter, List.mem_filter] at he
   obtain ⟨hein, hnew⟩ := he
   obtain ⟨p, hp, hk1, hk2⟩ := find e hein
   have hE1 : Ext w w1 := by rcases hw1 with rfl | rfl; exact Ext.refl _; exact Ext.drew w
   have hr1 : w1.heap[r]? = some (.mapIter (some g) since (tl.map (·.born)).toArray c0) := (hE1.block r (Array.getElem?_eq_some_iff.1 hr).1).trans hr
   have hg1 : w1.heap[g]? = some (.map es clock) := (hE1.block g (Array.getElem?_eq_some_iff.1 hg).1).trans hg
   have hrl := (Array.getElem?_eq_some_iff.1 hr1).1
   have hr2 : (setBlock w1 r (.mapIter (some g) since ((tl.map (·.born)).toArray.push e.born) clock)).heap[r]? = some (.mapIter (some g) since ((tl.map (·.born)).toArray.push e.born) clock) := by
    simp [setBlock, hrl]
   have hg2 : (setBlock w1 r (.mapIter (some g) since ((tl.map (·.born)).toArray.push e.born) clock)).heap[g]? = some (.map es clock) :=
    ((setBlock_chg w1 r _).block g (Array.getElem?_eq_some_iff.1 hg1).1 hgr).trans hg1
   have hent := run_entry_at (P := P) _ r g since _ es clock e hr2 hg2 hein hs.2.1
   have hpush : (tl.map (·.born)).toArray.push e.born = ((tl ++ [e]).map (·.born)).toArray := by simp
   refine .inr ⟨p, hp, _, by rw [← hk1, ← hk2]; exact hrun, by rw [← hk1, ← hk2]; exact hent, ⟨es, clock, since, clock, tl ++ [e], hg2, hs, hm, by rw [hr2, hpush], hb, ?_, ?_, ?_, ?_⟩, (hE1.chg _).trans (setBlock_chg w1 r _)⟩
   · exact ⟨hsc.2, hsc.2⟩
   · intro e' he'
     rcases List.mem_append.1 he' with h | h
     · exact h1 e' h
     · simp at h; subst h; exact hein
   · rw [List.map_append, List.nodup_append]
     refine ⟨h2, by simp, fun a ha b hb2 hab => ?_⟩
     simp at hb2
     subst hb2
     subst hab
     simp at hnew
     obtain ⟨x, hx, hxe⟩ := List.mem_map.1 ha
     exact hnew x hx hxe
   · rw [List.map_append, h3, List.map_append, List.map_singleton, List.map_singleton, hk1, hk2]
end
end Go.Proofs.YtjecjaihficcdaaGreat
namespace Go.Proofs.YtjecjaihficcdaaGreat
open Go.RowKit
def keyL (told : List (Int × Value)) : List Int := told.flatMap fun p => [p.1, -p.1]
theorem keyL_len (told : List (Int × Value)) : (keyL told).length = 2 * told.length := by
 unfold keyL
 induction told with
 | nil => rfl
 | cons p t ih => rw [List.flatMap_cons, List.length_append, ih, List.length_cons]; simp; omega
theorem keyL_snoc (told : List (Int × Value)) (p : Int × Value) : keyL (told ++ [p]) = keyL told ++ [p.1, -p.1] := by unfold keyL; rw [List.flatMap_append]; simp
theorem ri2 (w : World) (x y : Int) : RI (w.alloc (.cells #[.int .i64 x, .int .i64 y] 3)) (.slice (some ⟨w.heap.size, 0, none⟩) 2 2) [x, y] := lit0 w [x, y] (by simp)
theorem mem_keyL (told : List (Int × Value)) (x : Int) : x ∈ keyL told ↔ ∃ p ∈ told, x = p.1 ∨ x = -p.1 := by
 unfold keyL
 simp only [List.mem_flatMap, List.mem_cons, List.not_mem_nil, or_false]
theorem keyL_var {f : List (List Int)} {ks told : List (Int × Value)} (hm : mayCnfB f = true) (hd : ∀ n, n ∈ ks.map Prod.fst ↔ -n ∈ lits2 f) (hs : ∀ p ∈ told, p ∈ ks) : ∀ x ∈ keyL told, varOf x ≠ 0 := fun x hx => by
 obtain ⟨p, hp, h⟩ := (mem_keyL told x).1 hx
 have h1 := lits2_var hm _ ((hd p.1).1 (List.mem_map.2 ⟨p, hs p hp, rfl⟩))
 rw [varOf_neg] at h1
 rcases h with rfl | rfl
 · exact h1
 · rw [varOf_neg]; exact h1
theorem keyL_set {f : List (List Int)} {ks told : List (Int × Value)} (hd : ∀ n, n ∈ ks.map Prod.fst ↔ -n ∈ lits2 f) (hs : ∀ p ∈ told, p ∈ ks) (ha : ∀ p ∈ ks, ∃ q ∈ told, q.1 = p.1) : setL [] (keyL told) = graphLits f := by
 refine sorted_ext blt_asym (setL_sorted _ List.Pairwise.nil) (setL_sorted _ List.Pairwise.nil) fun x => ?_
 rw [mem_graphLits, mem_setL, mem_keyL]
 constructor
 · rintro (h | ⟨p, hp, rfl | rfl⟩)
   · cases h
   · exact .inr ((hd _).1 (List.mem_map.2 ⟨p, hs p hp, rfl⟩))
   · exact .inl ((hd _).1 (List.mem_map.2 ⟨p, hs p hp, rfl⟩))
 · rintro (h | h)
   · obtain ⟨p, hp, he⟩ := List.mem_map.1 ((hd (-x)).2 (by simpa using h))
     obtain ⟨q, hq, hqe⟩ := ha p hp
     exact .inr ⟨q, hq, .inr (by omega)⟩
   · obtain ⟨p, hp, he⟩ := List.mem_map.1 ((hd x).2 h)
     obtain ⟨q, hq, hqe⟩ := ha p hp
     exact .inr ⟨q, hq, .inl (by omega)⟩
set_option maxRecDepth 100000 in
set_option maxHeartbeats 2000000 in
theorem literals_any (f : List (List Int)) (g : Nat) (ks : List (Int × Value)) (w : World) (hg : GR w g ks f) (hm : mayCnfB f = true) (hkl : ks.length ≤ 100000) :
 Calls Tryz.prog 46 #[.map (some g)] w fun e w' => ∃ v, e = .returned v ∧ OwnI w' w.heap.size v (graphLits f) ∧ Ext w w' := by
 obtain ⟨w1, hrun, hmr, hE, hsz⟩ := hg.map.range (P := Tryz.prog) Tryz.underlying67
 have hgl : g < w.heap.size := hg.map.lt
 have HMR := Lib.hid hmr
 have HE := Lib.hid hE
 have HG := Lib.hid hg
 have HM := Lib.hid hm
 have hz1 : w.heap.size + 1 ≤ w1.heap.size := by omega
 clear hmr hE hg hm hsz
 go_enter Tryz.func46, Tryz.ntmps46
 go_wp2
 go_loopg [3] ks.length (fun gn v wr => ∃ told, gn + told.length = ks.length ∧ Hid (MR kvI wr g w.heap.size ks told ∧ OwnI wr (w.heap.size + 1) v (keyL told) ∧ Ext w wr ∧ (∀ p ∈ told, p ∈ ks) ∧ w.heap.size + 1 ≤ wr.heap.size))
 case atStart => exact ⟨[], rfl, Lib.hid ⟨HMR.out, OwnI.nil _ _, HE.out, by simp, hz1⟩⟩
 case round =>
  obtain ⟨told, hgn, HS⟩ := hrel
  obtain ⟨w2, rfl⟩ : ∃ w2 : World, w2 = wr := ⟨_, rfl⟩
  rcases HS.out.1.next (P := Tryz.prog) (by omega) 0 with ⟨hall, hnext⟩ | ⟨p, hp, w3, hnext, hent, hmr3, hc3⟩
  · have hall' : ∀ p ∈ ks, ∃ q ∈ told, q.1 = p.1 := fun p hp => by
     obtain ⟨q, hq, h1, -⟩ := hall p hp
     unfold kvI at h1
     injection h1 with _ h1
     exact ⟨q, hq, h1⟩
    have hvar := keyL_var HM.out HG.out.dom HS.out.2.2.2.1
    have h64 : All64 (keyL told) := fun x hx => by have := varOf_eq (hvar x hx); have := varOf_range x; unfold I64; omega
    have hlen : (keyL told).length ≤ 1000000 := by rw [keyL_len]; have := HS.out.1.len; omega
    have HST := Lib.hid (keyL_set HG.out.dom HS.out.2.2.2.1 hall')
    have HVAR := Lib.hid hvar
    have H64 := Lib.hid h64
    have HO := Lib.hid HS.out.2.1
    have HE2 := Lib.hid HS.out.2.2.1
    have HLEN := Lib.hid hlen
    clear hall hall' hvar h64 HS hgn hrun hlen
    go_wp2_with (first
     | (go_at_call 51; refine (SortE_own (keyL told) _ _ _ HO.out (by have := HLEN.out; omega) H64.out).mono ?_; rintro e w4 ⟨ys, rfl, ho, hgr, hp, hs⟩; have HO2 := Lib.hid ho; have HE4 := Lib.hid (HE2.out.grown hgr (fun k hk => by have := (own_typed HO.out hk).1; omega)); have HC := Lib.hid (sortE_compact hp hs HVAR.out); have HYL : Hid (ys.length ≤ 1000000) := Lib.hid (by rw [hp.length_eq]; exact HLEN.out); clear ho hgr hp hs)
     | (go_at_call 74; refine (Compact_own ys _ _ _ HO2.out (by have := HYL.out; omega)).mono ?_; rintro e w5 ⟨v5, rfl, ho, hgr, -⟩; rw [HC.out, HST.out] at ho; have HO5 := Lib.hid ho; have HE5 := Lib.hid (HE4.out.grown hgr (fun k hk => by have := (own_typed HO2.out hk).1; omega)); clear ho hgr))
    go_ret
    exact ⟨_, rfl, own_lower HO5.out (by omega), HE5.out⟩
  · have hpk : varOf p.1 ≠ 0 := by
     have h1 := lits2_var HM.out _ ((HG.out.dom p.1).1 (List.mem_map.2 ⟨p, hp, rfl⟩))
     rwa [varOf_neg] at h1
    have hpv := varOf_eq hpk
    have hpr := varOf_range p.1
    have hO3 : OwnI w3 (w.heap.size + 1) u3 (keyL told) := hc3.own HS.out.2.1 (fun b hb e => by have := (own_typed HS.out.2.1 hb).1; omega)
    have hE3 : Ext w w3 := hc3.toExt HS.out.2.2.1 (fun i hi => by omega)
    have hs3 : w.heap.size + 1 ≤ w3.heap.size := Nat.le_trans HS.out.2.2.2.2 hc3.size
    have hlen := hmr3.len
    rw [List.length_append, List.length_singleton] at hlen
    have HP := Lib.hid hp
    obtain ⟨k, hk⟩ : ∃ k, k = p.1 := ⟨_, rfl⟩
    rw [← hk] at hpv hpr hpk
    unfold kvI at hnext hent
    rw [← hk] at hnext hent
    have hk1 : -65536 ≤ k := by omega
    have hk2 : k ≤ 65536 := by omega
    have HKE := Lib.hid hk
    have HO3 := Lib.hid hO3
    have HE3 := Lib.hid hE3
    have HMR3 := Lib.hid hmr3
    have hkl2 : (keyL told).length ≤ 200000 := by rw [keyL_len]; omega
    have HKL2 := Lib.hid hkl2
    obtain ⟨pv, hpv2⟩ : ∃ pv, pv = p.2 := ⟨_, rfl⟩
    rw [← hpv2] at hnext hent
    clear hp hpk hpv hpr hO3 hE3 hmr3 hc3 hk hkl2 hpv2 hrun
    go_wp2_with (at_builtin
                 refine app_I rfl (.tmp 11) (.tmp 15) rfl (base := w.heap.size + 1) (xs := keyL told) (ys := [k, -k]) rfl rfl (own_ext HO3.out (Ext.alloc _ _)) (ri2 w3 k (-k)) (by have := HKL2.out; simp; omega) (by simp; omega) ?_
                 intro v' w4 hown hgr
                 have HO4 := Lib.hid hown
                 have hne : ∀ b, some b = u3.ownBlock → ¬ b = w.heap.size := fun b hb e => by have := (own_typed HO3.out hb.symm).1; omega
                 have hgc := grown_chg hgr
                 have HMR4 := Lib.hid ((HMR3.out.keep ((Ext.alloc w3 (.cells #[.int .i64 k, .int .i64 (-k)] 3)).chg (fun _ => False)) id id).keep hgc (fun h => by have := (own_typed HO3.out h.symm).1; omega) (fun h => hne _ h rfl))
                 have HE4 := Lib.hid ((HE3.out.trans (Ext.alloc w3 (.cells #[.int .i64 k, .int .i64 (-k)] 3))).grown hgr (fun b hb => by have := (own_typed HO3.out hb).1; omega))
                 have hs4 : w.heap.size + 1 ≤ w4.heap.size := (by have := hgr.size; simp at this; omega)
                 clear hown hgr hne hgc)
    go_roundg (ks.length - (told.length + 1))
    case measure => omega
    case rel => exact ⟨told ++ [p], by rw [List.length_append, List.length_singleton]; omega, Lib.hid ⟨HMR4.out, by rw [keyL_snoc, ← HKE.out]; exact HO4.out, HE4.out, fun q hq => by
     rcases List.mem_append.1 hq with h | h
     · exact HS.out.2.2.2.1 q h
     · simp at h; subst h; exact HP.out, hs4⟩⟩
end Go.Proofs.YtjecjaihficcdaaGreat
namespace Go.Proofs.YtjecjaihficcdaaGreat
open Go.RowKit
theorem fv_failed1 : Fv Tryz.prog 47 := ⟨_, Tryz.func47, by kernel_rfl, by kernel_rfl⟩
set_option maxHeartbeats 400000 in
theorem failed1_fn (f : List (List Int)) (g b : Nat) (ks : List (Int × Value)) (x : Int) (w : World) (hf : f.length ≤ 20000) (hg : GR w g ks f) (hb : w.cell? ⟨b, 0, none⟩ = some (.map (some g))) (h1 : -65536 ≤ x) (h2 : x ≤ 65536) :
 Calls Tryz.prog 47 #[.int .i64 x, .pointer (some ⟨b, 0, none⟩)] w fun e w' => e = .returned (.bool (!decide (-x ∈ reachL f x))) ∧ Ext w w' := by
 have HR := Lib.hid (reaches_any f g ks x (-x) w hf hg)
 obtain ⟨r, hr⟩ : ∃ r, r = decide (-x ∈ reachL f x) := ⟨_, rfl⟩
 rw [← hr] at HR ⊢
 clear hr hg
 go_enter Tryz.func47, Tryz.ntmps47
 go_wp2_with (go_at_call 48; refine HR.out.mono ?_; rintro e w' ⟨rfl, hE⟩; have HE := Lib.hid hE; clear hE)
 cases r
 all_goals
  go_ret
  exact ⟨rfl, HE.out⟩
theorem keys_len {f : List (List Int)} {g : Nat} {ks : List (Int × Value)} {w : World} (hg : GR w g ks f) : ks.length ≤ 2 * f.length := by
 have h1 := MapK.nodup hg.map
 have h2 := nodup_len (ks.map Prod.fst) ((lits2 f).map fun x => -x) h1 (fun x hx => List.mem_map.2 ⟨-x, (hg.dom x).1 hx, by omega⟩)
 rw [List.length_map, List.length_map] at h2
 have := lits2_len f
 omega
set_option maxHeartbeats 1000000 in
theorem Failed_any (f : List (List Int)) (u : Value) (w : World) (h64 : All64L f) (kr : RLL w u f) (ht : f.length ≤ 20000 → total f ≤ 9223372036854775807) :
 Calls Tryz.prog 14 #[u] w fun e w' => ∃ v, e = .returned v ∧ OwnI w' w.heap.size v (FailV f) ∧ Ext w w' := by
 have HM := Lib.hid (fun w' (h : Ext w w') => mayCnf_any u f w' (RLL.ext' kr h) h64 ht)
 have HKR := Lib.hid kr
 obtain ⟨A, c, vs, rfl, k1, k2, -⟩ := kr
 unfold FailV
 cases hm : mayCnfB f
 · rw [if_pos rfl]
   rw [hm] at HM
   clear hm
   go_enter Tryz.func14, Tryz.ntmps14
   go_wp2_with (go_at_call 37; refine (HM.out _ (Ext.refl _)).mono ?_; rintro e w1 ⟨rfl, hE⟩; have HE := Lib.hid hE; clear hE)
   go_ret
   exact ⟨_, rfl, OwnI.nil _ _, HE.out⟩
 · rw [if_neg (by simp)]
   rw [hm] at HM
   have HMM := Lib.hid hm
   obtain ⟨R, hR⟩ : ∃ R, R = (graphLits f).filter fun x => decide (-x ∈ reachL f x) := ⟨_, rfl⟩
   rw [← hR]
   have HRR := Lib.hid hR
   clear hm hR
   go_enter Tryz.func14, Tryz.ntmps14
   go_wp2_with (first
    | (go_at_call 37; refine (HM.out _ (Ext.refl _)).mono ?_; rintro e w1 ⟨rfl, hE⟩; have HE := Lib.hid hE; clear hE)
    | (go_at_call 39; refine (implications_any f _ _ h64 (RLL.ext' HKR.out HE.out) HMM.out).mono ?_; rintro e w2 ⟨g, ks, rfl, hg, hE⟩; have HG := Lib.hid (GM.reads hg); have HE2 := Lib.hid (HE.out.trans hE); clear hg hE)
    | (go_at_call 46
       refine (literals_any f g ks _ (HG.out.ext (Ext.alloc w2 _)) HMM.out (by have := keys_len HG.out; have := mayCnfB_len HMM.out; omega)).mono ?_
       rintro e w3 ⟨v3, rfl, ho, hE⟩
       have HO := Lib.hid ho
       have HE3 := Lib.hid (HE2.out.trans ((Ext.alloc w2 _).trans hE))
       have HG3 := Lib.hid (HG.out.ext ((Ext.alloc w2 _).trans hE))
       have HB3 := Lib.hid ((Var1.new w2 67 (.map (some g))).ext hE)
       clear ho hE)
    | (go_at_call 45
       refine (deleteI 47 #[.pointer (some ⟨w2.heap.size, 0, none⟩)] fv_failed1 _ v3 (graphLits f) (fun x => !decide (-x ∈ reachL f x)) _ HO.out (fun x hx w' hw' => (by
        have hgr := grown_chg hw'
        have hown : ∀ b, some b = v3.ownBlock → w2.heap.size + 1 ≤ b := fun b hb => by have := (own_typed HO.out hb.symm).1; simpa using this
        have hg' := HG3.out.chg hgr (fun k hk h => by have := HG.out.lt hk; have := hown k h; omega)
        have hb' := hgr.cell HB3.out.cell (fun h => by have := hown _ h; simp at this; omega)
        have hv : varOf x ≠ 0 := by
         rcases (mem_graphLits f x).1 hx with h | h
         · exact lits2_var HMM.out x h
         · have := lits2_var HMM.out _ h; rwa [varOf_neg] at this
        have := varOf_eq hv
        have := varOf_range x
        exact failed1_fn f g w2.heap.size ks x w' (mayCnfB_len HMM.out) hg' hb' (by omega) (by omega)))).mono ?_
       rintro e w4 ⟨v4, rfl, ho, hgr⟩
       have HO4 := Lib.hid ho
       have HE4 := Lib.hid (HE3.out.grown hgr (fun k hk => (by have := (own_typed HO.out hk).1; simp at this; have := HE2.out.size; omega)))
       clear ho hgr))
   go_ret
   refine ⟨_, rfl, ?_, HE4.out⟩
   have := HO4.out
   simp only [Bool.not_not] at this
   rw [← HRR.out, List.length_map] at this
   exact own_lower this (by have := HE2.out.size; simp; omega)
end Go.Proofs.YtjecjaihficcdaaGreat
namespace Go.Proofs.YtjecjaihficcdaaGreat
open Go.RowKit
section
variable {κ : Type} [DecidableEq κ] {P : Program} {T K E : TypeId} {kv : κ → Value} {w : World} {g : Nat} {ks : List (κ × Value)}
theorem findIdx_born (es : List MapEntry) (e : MapEntry) (hn : (es.map (·.born)).Nodup) (j : Nat) (hj : j < es.length) (he : es[j] = e) : es.findIdx? (fun x => (x.born : Int) == (e.born : Int)) = some j := by
 rw [List.findIdx?_eq_some_iff_getElem]
 refine ⟨hj, by simp [he], fun i hi => ?_⟩
 simp only [beq_iff_eq]
 intro hb
 have h1 : (es.map (·.born))[i]? = (es.map (·.born))[j]? := by
  simp only [List.getElem?_map, List.getElem?_eq_getElem hj, List.getElem?_eq_getElem (show i < es.length by omega), Option.map_some, he]
  congr 1; omega
 have := (List.getElem?_inj (by simp; omega) hn).1 h1
 omega
theorem arr_findIdx (xs : Array MapEntry) (p : MapEntry → Bool) : xs.findIdx? p = xs.toList.findIdx? p := by obtain ⟨l⟩ := xs; simp
theorem MapK.entry_new (h : MapK kv w g ks) (F : KeyFam P K kv) (hT : P.underlying T = some (.map K E)) {z : Value} (hz : (zeroValue E).run P w = .ok z w) (n : κ) (hno : lkp ks n = none) :
 ∃ st w1, (Instr.mapEntry T (.map (some g)) (kv n)).run P w = .ok (.tuple #[z, .int .i64 st]) w1 ∧ MapK kv w1 g (ks ++ [(n, z)]) ∧ Chg (fun k => k = g) w w1 ∧
  ∀ w2 v, w2.heap[g]? = w1.heap[g]? → ∃ w3, (Instr.entryStore T (.map (some g)) (.int .i64 st) v).run P w2 = .ok () w3 ∧ MapK kv w3 g (kput ks n v) ∧ Chg (fun k => k = g) w2 w3 := by
 obtain ⟨es, clock, hg, hs, hm⟩ := h
 have hf := F.find ks es.toList n w hm
 have hc := F.chk false n w
 have hidx : idxK ks n 0 = none := by
  have := idxK_val ks n 0
  rw [hno] at this
  simpa using this
 rw [hidx] at hf
 have hno' := idxK_none hidx
 have hkeys : ∀ x ∈ es.toList, x.key ≠ kv n := fun x hx e => by
  have : (x.key, x.val) ∈ ks.map fun p => (kv p.1, p.2) := by rw [← hm]; exact List.mem_map.2 ⟨x, hx, rfl⟩
  obtain ⟨p, hp, hpe⟩ := List.mem_map.1 this
  have h1 : kv p.1 = kv n := (congrArg Prod.fst hpe).trans e
  exact hno' (by rw [← F.inj _ _ h1]; exact List.mem_map.2 ⟨p, hp, rfl⟩)
 have hst := MapKept.stamped_push (val := z) hs hkeys
 have hg1 := setObjW_at (o' := .map (es.push { key := kv n, val := z, born := clock }) (clock + 1)) hg
 refine ⟨(clock : Int), setObjW w g (.map (es.push { key := kv n, val := z, born := clock }) (clock + 1)), ?_, ⟨_, _, hg1, hst, ?_⟩, setObjW_chg w g _, fun w2 v hw2 => ?_⟩
 · simp [Instr.mapEntry, run_underlying hT, MapKept.run_getObj_map hg, hc, hf, hz, Result.andThen, MapKept.run_setObj_map _ hg, setObjW, goInt]
 · rw [Array.toList_push, List.map_append, hm]; simp
 · have hg2 := hw2.trans hg1
   have hfi : (es.push { key := kv n, val := z, born := clock }).findIdx? (fun e => (e.born : Int) == (clock : Int)) = some es.size := by
    rw [arr_findIdx]
    have hb : (es.push { key := kv n, val := z, born := clock }).toList.length = es.size + 1 := by simp
    have := findIdx_born (es.push { key := kv n, val := z, born := clock }).toList { key := kv n, val := z, born := clock } hst.2.1 es.size (by omega) (by simp)
    exact this
   refine ⟨setObjW w2 g (.map ((es.push { key := kv n, val := z, born := clock }).modify es.size fun e => { e with val := v }) (clock + 1)), ?_, ⟨_, _, setObjW_at hg2, MapKept.stamped_modify hst _ _ (fun _ _ => rfl) (fun _ _ _ => rfl), ?_⟩, setObjW_chg w2 g _⟩
   · simp [Instr.entryStore, MapKept.run_getObj_map hg2, asInt, asIntOf, hfi, Result.andThen, MapKept.run_setObj_map _ hg2, setObjW]
   · have hes : ((es.push { key := kv n, val := z, born := clock }).modify es.size fun e => { e with val := v }).toList = es.toList ++ [{ key := kv n, val := v, born := clock }] := by
      rw [Array.toList_modify, modify_set _ _ _ (by simp)]
      simp
     rw [hes, List.map_append, hm, kput_new hno']; simp
omit [DecidableEq κ] in
theorem MapK.len (h : MapK kv w g ks) (hT : P.underlying T = some (.map K E)) (ty : TypeId) : (Builtin.len_ #[T] ty #[.map (some g)]).run P w = .ok (.int .i64 (ks.length : Int)) w := by
 obtain ⟨es, clock, hg, hl⟩ := h.size
 simp [Builtin.len_, run_underlying hT, MapKept.run_getObj_map hg, Result.andThen, Builtin.lenOf, goInt, hl]
end
end Go.Proofs.YtjecjaihficcdaaGreat
namespace Go.Proofs.YtjecjaihficcdaaGreat
open Go.RowKit
def OwnCl (w : World) (base : Nat) (pv cv : Value) (vs : List Value) (cls : List (List Int)) : Prop :=
 w.ownsRow base 24 1 cv vs.length vs ∧ vs.length = cls.length ∧ (∀ j (h : j < vs.length) (h' : j < cls.length), OwnI w base vs[j] cls[j]) ∧
  (∀ v ∈ vs, ∀ k, v.ownBlock = some k → pv.ownBlock ≠ some k) ∧ vs.Pairwise fun a b => ∀ k, a.ownBlock = some k → b.ownBlock ≠ some k
structure FB where
 F : Nat
 g : Nat
 gn : Nat
 gl : Nat
 go : Nat
 ks : List (Int × Value)
 lv : Value
 lx : List Int
structure TW (base : Nat) (f : List (List Int)) (B : FB) (w : World) (pv cv : Value) (vs : List Value) (s : Tj) : Prop where
 fb : Blk w B.F 80 [.map (some B.g), .map (some B.gn), .map (some B.gl), .map (some B.go), pv, cv]
 gr : GR w B.g B.ks f
 gb : ∀ k, GB B.g B.ks k → k < base
 num : ∃ kn, MapK kvI w B.gn kn ∧ kn.length = s.cnt ∧ ∀ n, lkp kn n = if s.num n = 0 then none else some (.int .i64 (s.num n))
 low : ∃ kl, MapK kvI w B.gl kl ∧ (∀ n, (lkp kl n).getD (.int .i64 0) = .int .i64 (s.low n)) ∧ ∀ n, s.num n = 0 → lkp kl n = none
 on : ∃ ko, MapK kvI w B.go ko ∧ (∀ n, (lkp ko n).getD (.bool false) = .bool (s.on n)) ∧ ∀ n, s.num n = 0 → lkp ko n = none
 path : OwnI w base pv s.path
 cls : OwnCl w base pv cv vs s.cls
 ne : B.gn ≠ B.gl ∧ B.gn ≠ B.go ∧ B.gl ≠ B.go
 bs : base ≤ B.F ∧ base ≤ B.gn ∧ base ≤ B.gl ∧ base ≤ B.go
 sz : base ≤ w.heap.size
 lit : OwnI w base B.lv B.lx
 litp : ∀ k, B.lv.ownBlock = some k → pv.ownBlock ≠ some k
structure Kp (base : Nat) (w w' : World) : Prop where
 chg : Chg (fun i => base ≤ i) w w'
 row : ∀ (b : Nat) (cur : Array Value), w.heap[b]? = some (.cells cur 113 (0, 0)) → w'.heap[b]? = w.heap[b]?
theorem Kp.refl (base : Nat) (w : World) : Kp base w w := ⟨Chg.refl _ _, fun _ _ _ => rfl⟩
theorem Kp.trans {base : Nat} {a b c : World} (h : Kp base a b) (k : Kp base b c) : Kp base a c :=
 ⟨h.chg.trans k.chg, fun i cur hi => (k.row i cur ((h.row i cur hi).trans hi)).trans (h.row i cur hi)⟩
theorem Kp.ext {base : Nat} {w w' : World} (h : Ext w w') : Kp base w w' := ⟨h.chg _, fun i _ hi => h.block i (Array.getElem?_eq_some_iff.1 hi).1⟩
theorem Kp.own {base : Nat} {w w' : World} (h : Kp base w w') {n : Nat} {v : Value} {xs : List Value} (ho : w.ownsRow base 113 2 v n xs) : w'.ownsRow base 113 2 v n xs := by
 obtain ⟨h1, h2 | ⟨g, cap, cur, rfl, hb, hg, r⟩⟩ := ho
 · exact ⟨h1, .inl h2⟩
 · exact ⟨h1, .inr ⟨g, cap, cur, rfl, hb, (h.row g cur hg).trans hg, r⟩⟩
theorem Kp.of {base : Nat} {w w' : World} {S : Nat → Prop} (h : Chg S w w') (h1 : ∀ i, S i → base ≤ i) (h2 : ∀ i, S i → ∀ cur : Array Value, w.heap[i]? ≠ some (.cells cur 113 (0, 0))) : Kp base w w' :=
 ⟨h.mono h1, fun b cur hb => h.block b (Array.getElem?_eq_some_iff.1 hb).1 fun hs => h2 b hs cur hb⟩
theorem int_ne_step {w : World} {base n k : Nat} {v : Value} {xs : List Value} {e : TypeId} (he : e ≠ 113) (h : w.ownsRow base e 1 v n xs) (hk : v.ownBlock = some k) : ∀ cur : Array Value, w.heap[k]? ≠ some (.cells cur 113 (0, 0)) := fun cur hc => by
 obtain ⟨-, -, cur', h1⟩ := own_typed h hk
 rw [h1] at hc
 injection hc with hc
 injection hc with _ hc
 exact he hc
theorem map_ne_step {w : World} {g : Nat} {ks : List (Int × Value)} (h : MapK kvI w g ks) : ∀ cur : Array Value, w.heap[g]? ≠ some (.cells cur 113 (0, 0)) := fun cur hc => by
 obtain ⟨es, clock, h1, -⟩ := h
 rw [h1] at hc; cases hc
theorem map_ne_blk {w : World} {g b : Nat} {e : TypeId} {cur : List Value} {ks : List (Int × Value)} (h : MapK kvI w g ks) (hb : Blk w b e cur) : b ≠ g := fun e1 => by
 subst e1
 obtain ⟨es, clock, h1, -⟩ := h
 unfold Blk at hb
 rw [h1] at hb; cases hb
section
variable {base : Nat} {f : List (List Int)} {B : FB} {w w' : World} {pv cv : Value} {vs : List Value} {s s' : Tj}
theorem OwnCl.keep {S : Nat → Prop} {cls : List (List Int)} (h : OwnCl w base pv cv vs cls) (hc : Chg S w w') (hS : ∀ i, S i → ∀ cur : Array Value, w.heap[i]? = some (.cells cur 3 (0, 0)) ∨ w.heap[i]? = some (.cells cur 24 (0, 0)) → False) : OwnCl w' base pv cv vs cls := by
 obtain ⟨h1, h2, h3, h4, h5⟩ := h
 refine ⟨hc.own h1 (fun k hk hs => ?_), h2, fun j hj hj' => hc.own (h3 j hj hj') (fun k hk hs => ?_), h4, h5⟩
 · obtain ⟨-, -, cur, hcur⟩ := own_typed h1 hk
   exact hS k hs cur (.inr hcur)
 · obtain ⟨-, -, cur, hcur⟩ := own_typed (h3 j hj hj') hk
   exact hS k hs cur (.inl hcur)
theorem TW.ext (h : TW base f B w pv cv vs s) (k : Ext w w') : TW base f B w' pv cv vs s := by
 obtain ⟨kn, n1, n2⟩ := h.num
 obtain ⟨kl, l1, l2⟩ := h.low
 obtain ⟨ko, o1, o2⟩ := h.on
 exact ⟨(k.chg (fun _ => False)).blk h.fb id, h.gr.ext k, h.gb, ⟨kn, n1.ext k, n2⟩, ⟨kl, l1.ext k, l2⟩, ⟨ko, o1.ext k, o2⟩, own_ext h.path k, h.cls.keep (k.chg (fun _ => False)) (fun _ h => h.elim), h.ne, h.bs, Nat.le_trans h.sz k.size, own_ext h.lit k, h.litp⟩
theorem TW.upd (h : TW base f B w pv cv vs s) (hc : Chg (fun i => i = B.gn ∨ i = B.gl ∨ i = B.go) w w') (hp : s'.path = s.path) (hcl : s'.cls = s.cls)
 (hn : ∃ kn, MapK kvI w' B.gn kn ∧ kn.length = s'.cnt ∧ ∀ n, lkp kn n = if s'.num n = 0 then none else some (.int .i64 (s'.num n)))
 (hl : ∃ kl, MapK kvI w' B.gl kl ∧ (∀ n, (lkp kl n).getD (.int .i64 0) = .int .i64 (s'.low n)) ∧ ∀ n, s'.num n = 0 → lkp kl n = none)
 (ho : ∃ ko, MapK kvI w' B.go ko ∧ (∀ n, (lkp ko n).getD (.bool false) = .bool (s'.on n)) ∧ ∀ n, s'.num n = 0 → lkp ko n = none) : TW base f B w' pv cv vs s' ∧ Kp base w w' := by
 obtain ⟨kn, n1, n2⟩ := h.num
 obtain ⟨kl, l1, l2⟩ := h.low
 obtain ⟨ko, o1, o2⟩ := h.on
 obtain ⟨b1, b2, b3, b4⟩ := h.bs
 have hmap : ∀ i, (i = B.gn ∨ i = B.gl ∨ i = B.go) → ∃ es clock, w.heap[i]? = some (.map es clock) := fun i hi => by
  rcases hi with rfl | rfl | rfl
  · obtain ⟨es, c, h1, -⟩ := n1; exact ⟨es, c, h1⟩
  · obtain ⟨es, c, h1, -⟩ := l1; exact ⟨es, c, h1⟩
  · obtain ⟨es, c, h1, -⟩ := o1; exact ⟨es, c, h1⟩
 have hbase : ∀ i, (i = B.gn ∨ i = B.gl ∨ i = B.go) → base ≤ i := fun i hi => by rcases hi with rfl | rfl | rfl <;> assumption
 have hcells : ∀ i, (i = B.gn ∨ i = B.gl ∨ i = B.go) → ∀ (cur : Array Value) (e : TypeId), w.heap[i]? ≠ some (.cells cur e (0, 0)) := fun i hi cur e hc2 => by
  obtain ⟨es, c, h1⟩ := hmap i hi
  rw [h1] at hc2; cases hc2
 refine ⟨⟨hc.blk h.fb (fun hs => hcells _ hs _ _ h.fb), h.gr.chg hc (fun k hk hs => by have := h.gb k hk; have := hbase k hs; omega), h.gb, hn, hl, ho, ?_, ?_, h.ne, h.bs, Nat.le_trans h.sz hc.size, hc.own h.lit (fun k hk hs => by obtain ⟨-, -, cur, h1⟩ := own_typed h.lit hk; exact hcells k hs _ _ h1), h.litp⟩,
  Kp.of hc hbase (fun i hi cur => hcells i hi cur _)⟩
 · rw [hp]
   exact hc.own h.path (fun k hk hs => by obtain ⟨-, -, cur, h1⟩ := own_typed h.path hk; exact hcells k hs _ _ h1)
 · rw [hcl]
   exact h.cls.keep hc (fun i hi cur hh => hh.elim (hcells i hi _ _) (hcells i hi _ _))
theorem fin_ne_own {w : World} {F n k : Nat} {cur : List Value} {v : Value} {xs : List Value} {e : TypeId} {sz : Nat} (he : e ≠ 80) (hb : Blk w F 80 cur) (h : w.ownsRow base e sz v n xs) (hk : v.ownBlock = some k) : k ≠ F := fun e1 => by
 subst e1
 obtain ⟨-, -, cur', h1⟩ := own_typed h hk
 unfold Blk at hb
 rw [hb] at h1
 injection h1 with h1
 injection h1 with _ h1
 exact he h1.symm
theorem TW.newPath {S : Nat → Prop} (h : TW base f B w pv cv vs s) (hc : Chg S w w') (hS : ∀ i, S i → i = B.F ∨ pv.ownBlock = some i) (pv' : Value) (path' : List Int) (ho : OwnI w' base pv' path')
 (hl : ∀ k, pv'.ownBlock = some k → pv.ownBlock = some k ∨ w.heap.size ≤ k) (hb : Blk w' B.F 80 [.map (some B.g), .map (some B.gn), .map (some B.gl), .map (some B.go), pv', cv]) :
 TW base f B w' pv' cv vs { s with path := path' } ∧ Kp base w w' := by
 obtain ⟨kn, n1, n2⟩ := h.num
 obtain ⟨kl, l1, l2⟩ := h.low
 obtain ⟨ko, o1, o2⟩ := h.on
 obtain ⟨b1, b2, b3, b4⟩ := h.bs
 have hmap : ∀ g ks, MapK kvI w g ks → ¬ S g := fun g ks hm hs => by
  rcases hS g hs with rfl | h1
  · exact map_ne_blk hm h.fb rfl
  · exact row_ne_map h.path hm g h1 rfl
 have hbase : ∀ i, S i → base ≤ i := fun i hs => by
  rcases hS i hs with rfl | h1
  · exact b1
  · exact (own_typed h.path h1).1
 obtain ⟨v1, v2, v3, v4, v5⟩ := h.cls
 have hrow : ∀ v ∈ vs, ∀ k, v.ownBlock = some k → ¬ S k := fun v hv k hk hs => by
  rcases hS k hs with h1 | h1
  · obtain ⟨j, hj, rfl⟩ := List.getElem_of_mem hv
    exact fin_ne_own (by decide) h.fb (v3 j hj (by omega)) hk h1
  · exact v4 v hv k hk h1
 refine ⟨⟨hb, h.gr.chg hc (fun k hk hs => by have := h.gb k hk; have := hbase k hs; omega), h.gb, ⟨kn, n1.keep hc (hmap _ _ n1), n2⟩, ⟨kl, l1.keep hc (hmap _ _ l1), l2⟩, ⟨ko, o1.keep hc (hmap _ _ o1), o2⟩, ho,
  ⟨hc.own v1 (fun k hk hs => ?_), v2, fun j hj hj' => hc.own (v3 j hj hj') (hrow _ (List.getElem_mem hj)), fun v hv k hk hp => ?_, v5⟩, h.ne, h.bs, Nat.le_trans h.sz hc.size, hc.own h.lit (fun k hk hs => ?_), fun k hk hp => ?_⟩, Kp.of hc hbase fun i hi cur hcur => ?_⟩
 · rcases hS k hs with h1 | h1
   · exact fin_ne_own (by decide) h.fb v1 hk h1
   · obtain ⟨-, -, c1, e1⟩ := own_typed v1 hk
     obtain ⟨-, -, c2, e2⟩ := own_typed h.path h1
     rw [e1] at e2
     injection e2 with e2
     injection e2 with _ e2
     exact absurd e2 (by decide)
 · rcases hl k hp with h1 | h1
   · exact v4 v hv k hk h1
   · obtain ⟨j, hj, rfl⟩ := List.getElem_of_mem hv
     have := (own_typed (v3 j hj (by omega)) hk).2.1
     omega
 · rcases hS k hs with h1 | h1
   · exact fin_ne_own (by decide) h.fb h.lit hk h1
   · exact h.litp k hk h1
 · rcases hl k hp with h1 | h1
   · exact h.litp k hk h1
   · have := (own_typed h.lit hk).2.1
     omega
 · rcases hS i hi with rfl | h1
   · have := h.fb
     unfold Blk at this
     rw [this] at hcur
     injection hcur with hcur
     injection hcur with _ hcur
     exact absurd hcur (by decide)
   · exact int_ne_step (by decide) h.path h1 cur hcur
theorem TW.newCls {S : Nat → Prop} (h : TW base f B w pv cv vs s) (hc : Chg S w w') (hS : ∀ i, S i → i = B.F ∨ cv.ownBlock = some i) (cv' u : Value) (cl : List Int) (hu : OwnI w base u cl)
 (hpu : ∀ k, u.ownBlock = some k → pv.ownBlock ≠ some k) (hvu : ∀ v ∈ vs, ∀ k, v.ownBlock = some k → u.ownBlock ≠ some k) (ho : w'.ownsRow base 24 1 cv' (vs.length + 1) (vs ++ [u]))
 (hb : Blk w' B.F 80 [.map (some B.g), .map (some B.gn), .map (some B.gl), .map (some B.go), pv, cv']) :
 TW base f B w' pv cv' (vs ++ [u]) { s with cls := s.cls ++ [cl] } ∧ Kp base w w' := by
 obtain ⟨kn, n1, n2⟩ := h.num
 obtain ⟨kl, l1, l2⟩ := h.low
 obtain ⟨ko, o1, o2⟩ := h.on
 obtain ⟨b1, b2, b3, b4⟩ := h.bs
 obtain ⟨v1, v2, v3, v4, v5⟩ := h.cls
 have hmap : ∀ g ks, MapK kvI w g ks → ¬ S g := fun g ks hm hs => by
  rcases hS g hs with rfl | h1
  · exact map_ne_blk hm h.fb rfl
  · exact row_ne_map v1 hm g h1 rfl
 have hbase : ∀ i, S i → base ≤ i := fun i hs => by
  rcases hS i hs with rfl | h1
  · exact b1
  · exact (own_typed v1 h1).1
 have hint : ∀ {v : Value} {xs : List Int}, OwnI w base v xs → ∀ k, v.ownBlock = some k → ¬ S k := fun hv k hk hs => by
  rcases hS k hs with h1 | h1
  · exact fin_ne_own (by decide) h.fb hv hk h1
  · obtain ⟨-, -, c1, e1⟩ := own_typed v1 h1
    obtain ⟨-, -, c2, e2⟩ := own_typed hv hk
    rw [e1] at e2
    injection e2 with e2
    injection e2 with _ e2
    exact absurd e2 (by decide)
 refine ⟨⟨hb, h.gr.chg hc (fun k hk hs => by have := h.gb k hk; have := hbase k hs; omega), h.gb, ⟨kn, n1.keep hc (hmap _ _ n1), n2⟩, ⟨kl, l1.keep hc (hmap _ _ l1), l2⟩, ⟨ko, o1.keep hc (hmap _ _ o1), o2⟩, hc.own h.path (hint h.path),
  ⟨by simpa using ho, by simp [v2], fun j hj hj' => ?_, fun v hv k hk => ?_, ?_⟩, h.ne, h.bs, Nat.le_trans h.sz hc.size, hc.own h.lit (hint h.lit), h.litp⟩, Kp.of hc hbase fun i hi cur hcur => ?_⟩
 · by_cases hlt : j < vs.length
   · have e1 : (vs ++ [u])[j] = vs[j] := List.getElem_append_left hlt
     have e2 : (s.cls ++ [cl])[j] = s.cls[j]'(by omega) := List.getElem_append_left (by omega)
     rw [e1, e2]
     exact hc.own (v3 j hlt (by omega)) (hint (v3 j hlt (by omega)))
   · have e : j = vs.length := by simp at hj; omega
     subst e
     rw [List.getElem_append_right (Nat.le_refl _), List.getElem_append_right (by omega)]
     simp only [Nat.sub_self, List.getElem_cons_zero, v2]
     exact hc.own hu (hint hu)
 · rcases List.mem_append.1 hv with hv | hv
   · exact v4 v hv k hk
   · simp at hv; subst hv; exact hpu k hk
 · rw [List.pairwise_append]
   refine ⟨v5, by simp, fun a ha b hb2 k hk => ?_⟩
   simp at hb2; subst hb2
   exact hvu a ha k hk
 · rcases hS i hi with rfl | h1
   · have := h.fb
     unfold Blk at this
     rw [this] at hcur
     injection hcur with hcur
     injection hcur with _ hcur
     exact absurd hcur (by decide)
   · exact int_ne_step (by decide) v1 h1 cur hcur
end
end Go.Proofs.YtjecjaihficcdaaGreat
