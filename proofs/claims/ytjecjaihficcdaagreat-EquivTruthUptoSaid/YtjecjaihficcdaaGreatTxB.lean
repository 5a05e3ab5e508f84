/- Walks and plain laws that this claim uses. -/
import Derived.Test.YtjecjaihficcdaaGreatTxA
import Derived.Orders
import Derived.Great.Walk
import Derived.Test.YtjecjaihficcdaaGreatTxWWords
import Derived.Test.YtjecjaihficcdaaGreatTxWLast
import Derived.Test.YtjecjaihficcdaaGreatTxWTab
import Derived.Test.YtjecjaihficcdaaGreatTxWApart
import Derived.Test.YtjecjaihficcdaaGreatTxWFoot
import Derived.Test.YtjecjaihficcdaaGreatTxWKept
import Derived.Test.YtjecjaihficcdaaGreatTxWShare
import Derived.Test.YtjecjaihficcdaaGreatTxWN
import Derived.Laws.StructEq
import Derived.Test.YtjecjaihficcdaaGreatTxWRepsOne
import Derived.Test.YtjecjaihficcdaaGreatTxWInv
import Derived.Test.YtjecjaihficcdaaGreatTxWInvWords
import Derived.Test.YtjecjaihficcdaaGreatTxWGuard
import Derived.Test.YtjecjaihficcdaaGreatTxWMore
import Derived.IntWalk
namespace Go.Proofs.YtjecjaihficcdaaGreat
open Go.RowKit
section
variable {P : Program} {ops : Array Oper} {Q : Exit → Act → World → Prop}
def Got (ops : Array Oper) (V : Nat → World → Value → Prop) (a : Act) (w : World) (j : Nat) : Prop :=
 ∀ (o : Oper) (d : Tmp), ops[j]? = some o → o.dst = some d → ∃ v, a.tmps[d]? = some v ∧ V j w v
def Kep (ops : Array Oper) (a0 a : Act) : Prop := a.defers = a0.defers ∧ a.tmps.size = a0.tmps.size ∧ ∀ t : Tmp, (∀ (k : Nat) (o : Oper), ops[k]? = some o → o.dst ≠ some t) → a.tmps[t]? = a0.tmps[t]?
def OpOk (P : Program) (ops : Array Oper) (a : Act) (o : Oper) (w : World) (R : World → Value → Prop) : Prop :=
 (Region.wanted o (yielded ops a.tmps) = true ∧
 ((∃ v w', (execOp a.eval o).run P w = .ok (.value v) w' ∧ Ext w w' ∧ R w' v) ∨
  (∃ f args, (execOp a.eval o).run P w = .ok (.enter f args) w ∧ Calls P f args w fun e w' => ∃ v, e = .returned v ∧ Ext w w' ∧ R w' v))) ∨
 (Region.wanted o (yielded ops a.tmps) = false ∧ R w undef)
def allOps (R : Nat → Oper → Prop) : Nat → List Oper → Prop
 | _, [] => True
 | i, o :: r => R i o ∧ allOps R (i + 1) r
theorem allOps_get {R : Nat → Oper → Prop} : ∀ (l : List Oper) (i : Nat), allOps R i l → ∀ k o, l[k]? = some o → R (i + k) o
 | [], _, _, k, o, h => by simp at h
 | x :: r, i, ⟨h1, h2⟩, k, o, h => by
   cases k with
   | zero =>
     simp at h
     subst h
     exact h1
   | succ k =>
     have := allOps_get r (i + 1) h2 k o (by simpa using h)
     rwa [show i + 1 + k = i + (k + 1) by omega] at this
theorem put_get (a : Act) (d : Tmp) (v : Value) (t : Tmp) : (a.put (some d) v).tmps[t]? = if d = t then (if t < a.tmps.size then some v else none) else a.tmps[t]? := by
 unfold Act.put
 simp only [Array.getElem?_setIfInBounds]
 split
 · rename_i h; subst h; rfl
 · rfl
theorem ready_nil {listed : Array Bool} (hsz : listed.size = ops.size) (hlow : ∀ (k : Nat) (o : Oper), ops[k]? = some o → ∀ e ∈ o.after, e.on < k) (h : Region.ready .any ops listed = []) : ∀ k, k < ops.size → listed[k]? = some true := by
 intro k
 induction k using Nat.strongRecOn with
 | _ k ih =>
   intro hk
   have hk' : k < listed.size := by omega
   rw [Array.getElem?_eq_getElem hk']
   congr 1
   cases hb : listed[k]
   · exfalso
     have ho : ops[k]? = some ops[k] := Array.getElem?_eq_getElem hk
     have : k ∈ Region.ready .any ops listed := mem_ready.2 ⟨by rw [Array.getD_eq_getD_getElem?, Array.getElem?_eq_getElem hk', hb]; rfl, ops[k], ho, fun e he _ => by
      have h1 := hlow k _ ho e he
      rw [Array.getD_eq_getD_getElem?, ih e.on h1 (by omega)]; rfl⟩
     rw [h] at this
     cases this
   · rfl
theorem wpAny_mono {a0 : Act} {W : World} (V : Nat → World → Value → Prop) (hV : ∀ k w w' v, Ext w w' → V k w v → V k w' v)
 (hdst : ∀ (k : Nat) (o : Oper), ops[k]? = some o → ∃ d : Tmp, o.dst = some d ∧ d < a0.tmps.size)
 (hinj : ∀ (j k : Nat) (oj ok : Oper) (d : Tmp), ops[j]? = some oj → ops[k]? = some ok → oj.dst = some d → ok.dst = some d → j = k)
 (hlow : ∀ (k : Nat) (o : Oper), ops[k]? = some o → ∀ e ∈ o.after, e.on < k)
 (hstep : ∀ (k : Nat) (o : Oper), ops[k]? = some o → ∀ a w, Ext W w → Kep ops a0 a → (∀ e ∈ o.after, Region.binds .any e = true → Got ops V a w e.on) → OpOk P ops a o w (V k))
 (hend : ∀ a w, Ext W w → Kep ops a0 a → (∀ k, k < ops.size → Got ops V a w k) → Q .normal a w) :
 ∀ (fuel : Nat) (listed : Array Bool) (a : Act) (w : World), listed.size = ops.size → (listed.toList.filter (· == false)).length ≤ fuel →
  Ext W w → Kep ops a0 a → (∀ k, listed[k]? = some true → Got ops V a w k) →
  wpAny P .any ops Q fuel listed a w := by
 intro fuel
 induction fuel with
 | zero =>
   intro listed a w hsz hf hE hK hG
   have hall : ∀ k, k < ops.size → listed[k]? = some true := fun k hk => by
    have hk' : k < listed.size := by omega
    rw [Array.getElem?_eq_getElem hk']
    congr 1
    cases hb : listed[k]
    · have hm : listed[k] ∈ listed.toList := by simp
      have : listed[k] ∈ listed.toList.filter (· == false) := List.mem_filter.2 ⟨hm, by rw [hb]; rfl⟩
      have h0 : (listed.toList.filter (· == false)) = [] := List.length_eq_zero_iff.1 (by omega)
      rw [h0] at this
      cases this
    · rfl
   refine ⟨?_, hend a w hE hK fun k hk => hG k (hall k hk)⟩
   cases hrr : Region.ready .any ops listed with
   | nil => rfl
   | cons i r =>
     have hi : i ∈ Region.ready .any ops listed := by rw [hrr]; simp
     obtain ⟨h1, o, ho, -⟩ := mem_ready.1 hi
     have hlt : i < ops.size := (Array.getElem?_eq_some_iff.1 ho).1
     have := hall i hlt
     rw [Array.getD_eq_getD_getElem?, this] at h1
     simp at h1
 | succ fuel ih =>
   intro listed a w hsz hf hE hK hG
   refine ⟨fun h0 => ?_, fun i hi => ?_⟩
   · exact hend a w hE hK fun k hk => hG k (ready_nil hsz hlow h0 k hk)
   · obtain ⟨h1, o, ho, hafter⟩ := mem_ready.1 hi
     have hlt : i < ops.size := (Array.getElem?_eq_some_iff.1 ho).1
     have hli : i < listed.size := by omega
     obtain ⟨d, hd, hds⟩ := hdst i o ho
     have hdeps : ∀ e ∈ o.after, Region.binds .any e = true → Got ops V a w e.on := fun e he hb => by
      have := hafter e he hb
      refine hG e.on ?_
      rw [Array.getD_eq_getD_getElem?] at this
      cases hh : listed[e.on]? with
      | none => rw [hh] at this; simp at this
      | some b => rw [hh] at this; simp at this; rw [this]
     have hst := hstep i o ho a w hE hK hdeps
     have next : ∀ v w', Ext w w' → V i w' v → wpAny P .any ops Q fuel (listed.setIfInBounds i true) (a.put (some d) v) w' := fun v w' hE' hv => by
      refine ih _ _ _ (by simpa using hsz) ?_ (hE.trans hE') ?_ ?_
      · have hb : listed[i] = false := by
         rw [Array.getD_eq_getD_getElem?, Array.getElem?_eq_getElem hli] at h1
         simpa using h1
        have hset : (listed.setIfInBounds i true).toList = listed.toList.set i true := by simp
        rw [hset]
        have hl : i < listed.toList.length := by simpa using hli
        have hsplit : listed.toList = listed.toList.take i ++ listed.toList[i] :: listed.toList.drop (i + 1) := by
         rw [← List.drop_eq_getElem_cons hl, List.take_append_drop]
        have hs2 : listed.toList.set i true = listed.toList.take i ++ true :: listed.toList.drop (i + 1) := by
         rw [List.set_eq_take_append_cons_drop, if_pos hl]
        have hb' : listed.toList[i] = false := by simpa using hb
        rw [hs2]
        rw [hsplit, hb'] at hf
        simp only [List.filter_append, List.filter_cons, List.length_append] at hf ⊢
        simp at hf ⊢
        omega
      · refine ⟨hK.1, by unfold Act.put; simpa using hK.2.1, fun t ht => ?_⟩
        rw [put_get, if_neg (fun e => ht i o ho (by rw [hd, e]))]
        exact hK.2.2 t ht
      · intro k hk ok dk hok' hdk
        by_cases hki : k = i
        · subst hki
          have e1 : ok = o := by rw [ho] at hok'; injection hok' with e; exact e.symm
          subst e1
          have e2 : dk = d := by rw [hd] at hdk; injection hdk with e; exact e.symm
          subst e2
          refine ⟨v, ?_, hv⟩
          rw [put_get, if_pos rfl, if_pos (by rw [hK.2.1]; exact hds)]
        · have hk2 : listed[k]? = some true := by
           rw [Array.getElem?_setIfInBounds, if_neg (fun e => hki e.symm)] at hk
           exact hk
          obtain ⟨u, hu1, hu2⟩ := hG k hk2 ok dk hok' hdk
          refine ⟨u, ?_, hV _ _ _ _ hE' hu2⟩
          rw [put_get, if_neg (fun e => hki (hinj k i ok o dk hok' ho hdk (by rw [hd, e])))]
          exact hu1
     unfold wpOp
     rw [ho]
     simp only
     rcases hst with ⟨hw, hok⟩ | ⟨hw, hr⟩
     case inr =>
      rw [hw, if_neg (by simp), hd]
      exact next undef w (Ext.refl w) hr
     rw [if_pos hw]
     left
     unfold Oper.wp
     rcases hok with ⟨v, w', hrun, hE', hv⟩ | ⟨f, args, hrun, hc⟩
     · rw [hrun]
       show wpAny P .any ops Q fuel (listed.setIfInBounds i true) (a.put o.dst v) w'
       rw [hd]
       exact next v w' hE' hv
     · rw [hrun, Oper.upon_enter]
       refine hc.mono fun e w' he => ?_
       obtain ⟨v, rfl, hE', hv⟩ := he
       show wpAny P .any ops Q fuel (listed.setIfInBounds i true) (a.put o.dst v) w'
       rw [hd]
       exact next v w' hE' hv
def dstLt (N : Nat) (o : Oper) : Bool := match o.dst with | some d => decide (d < N) | none => false
def dstB : List Oper → Bool
 | [] => true
 | o :: r => r.all (fun o' => o'.dst != o.dst) && dstB r
theorem wp_region_mono {id : Nat} {a0 : Act} {W : World} (hm : P.follows .mixedOrders = true) (V : Nat → World → Value → Prop) (hV : ∀ k w w' v, Ext w w' → V k w v → V k w' v)
 (N : Nat) (hN : a0.tmps.size = N) (hdst : (ops.toList.all (dstLt N)) = true)
 (hinj : dstB ops.toList = true)
 (hlow : (ops.toList.zipIdx.all fun p => p.1.after.toList.all fun e => decide (e.on < p.2)) = true)
 (hstep : allOps (fun k o => ∀ a w, Ext W w → Kep ops a0 a → (∀ e ∈ o.after, Region.binds .any e = true → Got ops V a w e.on) → OpOk P ops a o w (V k)) 0 ops.toList)
 (hend : ∀ a w, Ext W w → Kep ops a0 a → (∀ k, k < ops.size → Got ops V a w k) → Q .normal a w) : (Code.region id ops true).wp P Q a0 W := by
 refine wp_region_any hm ?_
 have hget : ∀ (k : Nat) (o : Oper), ops[k]? = some o → ops.toList[k]? = some o := fun k o h => by simpa using h
 have hd1 : ∀ (k : Nat) (o : Oper), ops[k]? = some o → ∃ d : Tmp, o.dst = some d ∧ d < a0.tmps.size := fun k o h => by
  have := List.all_eq_true.1 hdst o (List.mem_of_getElem? (hget k o h))
  unfold dstLt at this
  cases hd : o.dst with
  | none => rw [hd] at this; simp at this
  | some d => rw [hd] at this; exact ⟨d, rfl, by rw [hN]; simpa using this⟩
 refine wpAny_mono (W := W) V hV hd1 ?_ ?_ ?_ hend ops.size _ a0 _ (by simp) (by simp) ⟨rfl, rfl, rfl, Nat.le_refl _, fun _ _ => rfl⟩ ⟨rfl, rfl, fun _ _ => rfl⟩ ?_
 · intro j k oj ok d hj hk hdj hdk
   have key : ∀ (l : List Oper), dstB l = true → ∀ (j k : Nat) (oj ok : Oper), l[j]? = some oj → l[k]? = some ok → oj.dst = some d → ok.dst = some d → j = k := by
    intro l
    induction l with
    | nil => intro _ j k oj ok h; simp at h
    | cons x l ih =>
      intro hn j k oj ok h1 h2 h3 h4
      have hn := Bool.and_eq_true_iff.1 hn
      have hin : ∀ (m : Nat) (o : Oper), l[m]? = some o → o.dst = some d → x.dst = some d → False := fun m o hm ho hx => by
       have := List.all_eq_true.1 hn.1 o (List.mem_of_getElem? hm)
       rw [ho, hx] at this
       simp at this
      cases j with
      | zero =>
        cases k with
        | zero => rfl
        | succ k =>
          simp at h1 h2
          subst h1
          exact (hin k ok h2 h4 h3).elim
      | succ j =>
        cases k with
        | zero =>
          simp at h1 h2
          subst h2
          exact (hin j oj h1 h3 h4).elim
        | succ k =>
          simp at h1 h2
          rw [ih hn.2 j k oj ok h1 h2 h3 h4]
   exact key ops.toList hinj j k oj ok (hget j oj hj) (hget k ok hk) hdj hdk
 · intro k o h e he
   have h1 := List.all_eq_true.1 hlow (o, k) (by
    rw [List.mem_zipIdx_iff_getElem?]
    exact hget k o h)
   simpa using List.all_eq_true.1 h1 e (by simpa using he)
 · intro k o h a w hE hK hdeps
   have := allOps_get ops.toList 0 hstep k o (hget k o h)
   rw [Nat.zero_add] at this
   exact this a w hE hK hdeps
 · intro k hk
   rw [Array.getElem?_replicate] at hk
   split at hk
   · cases hk
   · cases hk
theorem ok_val {a : Act} {o : Oper} {w : World} {R : World → Value → Prop} (hg : Region.wanted o (yielded ops a.tmps) = true) (v : Value) (w' : World) (hrun : (execOp a.eval o).run P w = .ok (.value v) w') (hE : Ext w w') (hR : R w' v) : OpOk P ops a o w R :=
 .inl ⟨hg, .inl ⟨v, w', hrun, hE, hR⟩⟩
theorem ok_call {a : Act} {o : Oper} {w : World} {R : World → Value → Prop} (hg : Region.wanted o (yielded ops a.tmps) = true) (f : FuncId) (args : Array Value) (hrun : (execOp a.eval o).run P w = .ok (.enter f args) w)
 (h : Calls P f args w fun e w' => ∃ v, e = .returned v ∧ Ext w w' ∧ R w' v) : OpOk P ops a o w R :=
 .inl ⟨hg, .inr ⟨f, args, hrun, h⟩⟩
theorem ok_not {a : Act} {o : Oper} {w : World} {R : World → Value → Prop} (hg : Region.wanted o (yielded ops a.tmps) = false) (hR : R w undef) : OpOk P ops a o w R := .inr ⟨hg, hR⟩
theorem eval_of {a : Act} {t : Tmp} {v : Value} (h : a.tmps[t]? = some v) : a.eval (.tmp t) = v := by
 show a.tmps.getD t _ = v
 rw [Array.getD_eq_getD_getElem?, h]; rfl
end
end Go.Proofs.YtjecjaihficcdaaGreat
namespace Go.Proofs.YtjecjaihficcdaaGreat
open Go.RowKit
set_option maxHeartbeats 400000 in
theorem mayCnf_fn (w0 : World) (B : Nat) (n : Int) (v : Value) (xs : List Int) (w : World) (hr : RI w0 v xs) (h64 : All64 xs) (hE : Ext w0 w) (hB0 : w0.heap.size ≤ B) (hB : Var1 w B 3 (.int .i64 n)) (hn : 0 ≤ n) (hs : n + xs.length ≤ 9223372036854775807) :
 Calls Tryz.prog 90 #[v, .pointer (some ⟨B, 0, none⟩)] w fun e w' => e = .returned (.bool (decide (200000 < n + xs.length) || !mayB xs)) ∧ w' = w.setCell ⟨B, 0, none⟩ (.int .i64 (n + xs.length)) := by
 have hc := hB.cell
 have hf := hB.free
 have HR := Lib.hid (hr.ext (Below.setCell hE (p := ⟨B, 0, none⟩) hB0 (.int .i64 (n + xs.length))))
 obtain ⟨A, c, rfl, h1, h2, h3⟩ := hr
 clear h3 hB hE
 by_cases hbig : 200000 < n + xs.length
 · have hd : decide (200000 < n + (xs.length : Int)) = true := by simpa using hbig
   go_enter Tryz.func90, Tryz.ntmps90
   go_wp2_with fail
   go_ret
   exact ⟨by simp [hd], rfl⟩
 · have hd : decide (200000 < n + (xs.length : Int)) = false := by simpa using hbig
   go_enter Tryz.func90, Tryz.ntmps90
   go_wp2_with (go_at_call 76; refine (may_any _ xs _ HR.out h64).mono ?_; rintro e w' ⟨rfl, rfl⟩)
   go_ret
   exact ⟨by simp [hd], rfl⟩
theorem fv_mayCnf1 : Fv Tryz.prog 90 := ⟨_, Tryz.func90, by kernel_rfl, by kernel_rfl⟩
theorem mayCnfB_of (xss : List (List Int)) (J : Nat → World → Prop) (r : Int) (w : World) (hl : xss.length ≤ 20000)
 (h : IdxSt (fun k => decide (200000 < (lens xss k : Int) + (xss.getD k []).length) || !mayB (xss.getD k [])) xss.length J r w) : (!decide (0 ≤ r)) = mayCnfB xss := by
 have key : ∀ k, k < xss.length → (decide (lens xss (k + 1) ≤ 200000) && mayB (xss.getD k [])) = !(decide (200000 < (lens xss k : Int) + (xss.getD k []).length) || !mayB (xss.getD k [])) := fun k hk => by
  rw [lens_succ xss k hk, getD_of xss k hk, Bool.not_or, Bool.not_not, ← decide_not]
  congr 1
  simp only [decide_eq_decide]
  omega
 unfold mayCnfB
 rcases h with ⟨k, hk, hp, _, rfl, _⟩ | ⟨hp, rfl, _⟩
 · have hz : (List.range xss.length).all (fun k => decide (lens xss (k + 1) ≤ 200000) && mayB (xss.getD k [])) = false := by
    rw [List.all_eq_false]
    exact ⟨k, by simpa using hk, by rw [key k hk, show (_ || _) = true from hp]; simp⟩
   rw [hz]; simp
 · have hz : (List.range xss.length).all (fun k => decide (lens xss (k + 1) ≤ 200000) && mayB (xss.getD k [])) = true := by
    rw [List.all_eq_true]
    intro j hj
    have hj' : j < xss.length := by simpa using hj
    rw [key j hj', show (_ || _) = false from hp j hj']; rfl
   rw [hz]; simp [hl]
set_option maxHeartbeats 400000 in
theorem mayCnf_any (v : Value) (xss : List (List Int)) (w : World) (hr : RLL w v xss) (h64 : All64L xss) (ht : xss.length ≤ 20000 → total xss ≤ 9223372036854775807) :
 Calls Tryz.prog 37 #[v] w fun e w' => e = .returned (.bool (mayCnfB xss)) ∧ Ext w w' := by
 obtain ⟨A, c, vs, rfl, h1, h2, h3, h4, h5⟩ := hr
 have H4 := Lib.hid h4
 have H5 := Lib.hid h5
 have H3 := Lib.hid h3
 have HT := Lib.hid ht
 clear h4 h5 h3 ht
 by_cases hlen : vs.length ≤ 20000
 · have hd : decide (((vs.length : Nat) : Int) ≤ 20000) = true := by simp; omega
   have HCF := containsFuncL 90 #[.pointer (some ⟨w.heap.size, 0, none⟩)] fv_mayCnf1 A c vs h2
    (fun k => decide (200000 < (lens xss k : Int) + (xss.getD k []).length) || !mayB (xss.getD k []))
    (fun k w' => Ext w w' ∧ Var1 w' w.heap.size 3 (.int .i64 (lens xss k))) (w.alloc (.cells #[.int .i64 0] 3))
    (fun k w' h => H3.out.ext h.1)
    (fun k hk w' hJ => by
     have hk' : k < xss.length := by rw [← H4.out]; exact hk
     have hg := getD_of xss k hk'
     have hle := lens_le xss (k + 1)
     have hsu := lens_succ xss k hk'
     have := HT.out (by rw [← H4.out]; exact hlen)
     have hcl := mayCnf_fn w w.heap.size (lens xss k) vs[k] xss[k] w' (H5.out k hk hk') (h64 _ (List.getElem_mem hk')) hJ.1 (Nat.le_refl _) hJ.2 (by omega) (by omega)
     refine hcl.mono ?_
     rintro e w'' ⟨rfl, rfl⟩
     refine ⟨by rw [hg], hJ.1.setCell (Nat.le_refl _) _, ?_⟩
     rw [hsu]
     exact hJ.2.set _)
    ⟨Ext.alloc w _, Var1.new w _ _⟩
   have HC := Lib.hid HCF
   clear HCF
   go_enter Tryz.func37, Tryz.ntmps37
   go_wp2_with (go_at_call 89; refine HC.out.mono ?_; rintro e w' ⟨r, rfl, hs⟩; have HS := Lib.hid hs; clear hs)
   go_ret
   refine ⟨ret_bool (mayCnfB_of xss _ r w' (by rw [← H4.out]; exact hlen) (by rw [← H4.out]; exact HS.out)), ?_⟩
   rcases HS.out with ⟨k, _, _, _, _, h⟩ | ⟨_, _, h⟩
   · exact h.1
   · exact h.1
 · have hd : decide (((vs.length : Nat) : Int) ≤ 20000) = false := by simp; omega
   go_enter Tryz.func37, Tryz.ntmps37
   go_wp2_with fail
   go_ret
   refine ⟨ret_bool ?_, Ext.alloc w _⟩
   have := H4.out
   unfold mayCnfB
   rw [decide_eq_false (by omega)]
   rfl
end Go.Proofs.YtjecjaihficcdaaGreat
namespace Go.Proofs.YtjecjaihficcdaaGreat
open Go.RowKit
inductive Kd where
 | tru | num (n : Int) | lit (xs : List Int) | row (xs : List Int) | lits (xss : List (List Int)) | rows (xss : List (List Int)) | fv (f : FuncId) | any | val (x : Value) | gen (p : World → Value → Prop) (hp : ∀ w w' v, Ext w w' → p w v → p w' v)
def Kd.ok : Kd → World → Value → Prop
 | .tru, _, v => v = .bool true
 | .num n, _, v => v = .int .i64 n
 | .lit xs, w, v => ∃ g, v = slV g xs.length ∧ RI w (slV g xs.length) xs
 | .row xs, w, v => RI w v xs
 | .lits xss, w, v => ∃ g, v = slV g xss.length ∧ RLL w (slV g xss.length) xss
 | .rows xss, w, v => RLL w v xss
 | .fv f, _, v => v = .func (.func f) #[] #[]
 | .any, _, _ => True
 | .val x, _, v => v = x
 | .gen p _, w, v => p w v
def Kd.at (ks : List Kd) (k : Nat) : World → Value → Prop := ((ks[k]?).getD .tru).ok
theorem Kd.mono (k : Kd) {w w' : World} {v : Value} (hE : Ext w w') (h : k.ok w v) : k.ok w' v := by
 cases k with
 | tru => exact h
 | num n => exact h
 | lit xs => obtain ⟨g, h1, h2⟩ := h; exact ⟨g, h1, RI.ext h2 hE⟩
 | row xs => exact RI.ext h hE
 | lits xss => obtain ⟨g, h1, h2⟩ := h; exact ⟨g, h1, RLL.ext' h2 hE⟩
 | rows xss => exact RLL.ext' h hE
 | fv f => exact h
 | any => exact h
 | val x => exact h
 | gen p hp => exact hp _ _ _ hE h
theorem Kd.at_mono (ks : List Kd) (k : Nat) (w w' : World) (v : Value) (hE : Ext w w') (h : Kd.at ks k w v) : Kd.at ks k w' v := Kd.mono _ hE h
def CloP (f : FuncId) (u : Value) (w : World) (v : Value) : Prop := ∃ b, v = .func (.func f) #[] #[.pointer (some ⟨b, 0, none⟩)] ∧ w.cell? ⟨b, 0, none⟩ = some u
theorem cloP_mono (f : FuncId) (u : Value) (w w' : World) (v : Value) (hE : Ext w w') (h : CloP f u w v) : CloP f u w' v := by
 obtain ⟨b, h1, h2⟩ := h
 exact ⟨b, h1, hE.cell h2⟩
section
variable {P : Program} {ops : Array Oper} {a : Act} {w : World} {o : Oper} {R : World → Value → Prop} {V : Nat → World → Value → Prop}
theorem got {j : Nat} (h : Got ops V a w j) {o : Oper} {d : Tmp} (ho : ops[j]? = some o) (hd : o.dst = some d) : ∃ v, a.tmps[d]? = some v ∧ V j w v := h o d ho hd
theorem Kep.get {a0 : Act} (h : Kep ops a0 a) (t : Tmp) (hn : (ops.toList.all fun o => o.dst != some t) = true) : a.tmps[t]? = a0.tmps[t]? := by
 refine h.2.2 t fun k o ho e => ?_
 have h1 : ops.toList[k]? = some o := by simpa using ho
 have := List.all_eq_true.1 hn o (List.mem_of_getElem? h1)
 rw [e] at this
 simp at this
theorem wanted_none (h : o.guard = none) : Region.wanted o (yielded ops a.tmps) = true := by
 unfold Region.wanted
 rw [h]
theorem wanted_b {j : Nat} {b c : Bool} {oj : Oper} {d : Tmp} (h : o.guard = some (j, b)) (ho : ops[j]? = some oj) (hd : oj.dst = some d) (hv : a.tmps[d]? = some (.bool c)) : Region.wanted o (yielded ops a.tmps) = (c == b) := by
 have : yielded ops a.tmps j = some c := by
  unfold yielded
  rw [ho]
  show (match (oj.dst.bind fun x => a.tmps[x]?) with | some (.bool b) => some b | _ => none) = some c
  rw [hd]
  show (match a.tmps[d]? with | some (.bool b) => some b | _ => none) = some c
  rw [hv]
 unfold Region.wanted
 rw [h]
 show (yielded ops a.tmps j == some b) = (c == b)
 rw [this]
 cases c <;> cases b <;> rfl
theorem st_move {t : Tmp} {v : Value} (hg : Region.wanted o (yielded ops a.tmps) = true) (ho : o.op = .move (.tmp t)) (h : a.tmps[t]? = some v) (hR : R w v) : OpOk P ops a o w R :=
 ok_val hg v w (by unfold execOp; simp [ho, eval_of h]) (Ext.refl w) hR
theorem st_assign {t : Tmp} {v : Value} (hg : Region.wanted o (yielded ops a.tmps) = true) (ho : o.op = .assign (.tmp t)) (h : a.tmps[t]? = some v) (hR : R w v) : OpOk P ops a o w R :=
 ok_val hg v w (by unfold execOp; simp [ho, eval_of h]) (Ext.refl w) hR
theorem st_run {v : Value} (hg : Region.wanted o (yielded ops a.tmps) = true) (hrun : (execOp a.eval o).run P w = .ok (.value v) w) (hR : R w v) : OpOk P ops a o w R :=
 ok_val hg v w hrun (Ext.refl w) hR
theorem st_call (x : Operand) (ys : Array Operand) (ts : Array TypeId) (ho : o.op = .call { callee := .value x, args := ys, argTypes := ts }) (hg : Region.wanted o (yielded ops a.tmps) = true)
 {f : FuncId} (hv : a.eval x = .func (.func f) #[] #[]) (hf : Fv P f) (args : Array Value) (ha : ys.map a.eval = args)
 (h : Calls P f args w fun e w' => ∃ v, e = .returned v ∧ Ext w w' ∧ R w' v) : OpOk P ops a o w R := by
 refine ok_call hg f args ?_ h
 unfold execOp
 simp [ho, resolve, Deferred.ofValue, hv, invoke, ha, run_enter hf]
end
end Go.Proofs.YtjecjaihficcdaaGreat
namespace Go.Proofs.YtjecjaihficcdaaGreat
open Go.RowKit
section
variable {P : Program} {ops : Array Oper} {a : Act} {w : World} {o : Oper} {R : World → Value → Prop} {V : Nat → World → Value → Prop}
theorem st_pickv {c : Tmp} {x y : Operand} {b : Bool} {v : Value} (hg : Region.wanted o (yielded ops a.tmps) = true) (ho : o.op = .pick (.tmp c) x y) (hc : a.tmps[c]? = some (.bool b)) (h : (if b = true then a.eval x else a.eval y) = v) (hR : R w v) : OpOk P ops a o w R := by
 refine ok_val hg v w ?_ (Ext.refl w) hR
 unfold execOp
 cases b <;> simp at h <;> simp [ho, eval_of hc, asBool, h]
theorem st_load {ty e : TypeId} {s : Tmp} {ad : Addr} {v : Value} (hg : Region.wanted o (yielded ops a.tmps) = true) (ho : o.op = .load ty (.tmp s)) (hu : P.underlying ty = some (.slice e)) (hs : a.tmps[s]? = some (.pointer (some ad))) (hc : w.cell? ad = some v) (hR : R w v) : OpOk P ops a o w R := by
 refine ok_val hg v w ?_ (Ext.refl w) hR
 unfold execOp
 simp [ho, hs, go_sem, hc, isAgg, run_underlying hu]
end
end Go.Proofs.YtjecjaihficcdaaGreat
namespace Go.Proofs.YtjecjaihficcdaaGreat
open Go.RowKit Go.Proofs.YtjecjaihficcdaaGreatW.PrintWords
def Evn {α : Type} (g : Nat → Option α) (v : α) : Prop := ∃ K, ∀ k, K ≤ k → g k = some v
section
variable {α β : Type}
theorem Evn.ret (v : α) : Evn (fun _ => some v) v := ⟨0, fun _ _ => rfl⟩
theorem Evn.of_eq {g : Nat → Option α} {v : α} (h : ∀ k, g k = some v) : Evn g v := ⟨0, fun k _ => h k⟩
theorem Evn.succ {g g' : Nat → Option α} {v : α} (h : ∀ k, g (k + 1) = g' k) (e : Evn g' v) : Evn g v := by
 obtain ⟨K, hK⟩ := e
 refine ⟨K + 1, fun k hk => ?_⟩
 obtain ⟨m, rfl⟩ : ∃ m, k = m + 1 := ⟨k - 1, by omega⟩
 rw [h, hK m (by omega)]
theorem Evn.bind {g : Nat → Option α} {h : Nat → α → Option β} {a : α} {b : β} (e : Evn g a) (e' : Evn (fun k => h k a) b) : Evn (fun k => (g k).bind (h k)) b := by
 obtain ⟨K, hK⟩ := e
 obtain ⟨L, hL⟩ := e'
 refine ⟨K + L, fun k hk => ?_⟩
 dsimp only
 rw [hK k (by omega)]
 exact hL k (by omega)
theorem Evn.pos {c : Prop} [Decidable c] {g h : Nat → Option α} {v : α} (hc : c) (e : Evn g v) : Evn (fun k => if c then g k else h k) v := by
 obtain ⟨K, hK⟩ := e
 exact ⟨K, fun k hk => by dsimp only; rw [if_pos hc]; exact hK k hk⟩
theorem Evn.neg {c : Prop} [Decidable c] {g h : Nat → Option α} {v : α} (hc : ¬ c) (e : Evn h v) : Evn (fun k => if c then g k else h k) v := by
 obtain ⟨K, hK⟩ := e
 exact ⟨K, fun k hk => by dsimp only; rw [if_neg hc]; exact hK k hk⟩
theorem Evn.to {g : Nat → Option α} {v w : α} (e : Evn g v) (h : v = w) : Evn g w := h ▸ e
end
theorem wrap64_nat {i : Nat} (h : (i : Int) + 1 ≤ 9223372036854775807) : wrap64 ((i : Int) + 1) = ((i + 1 : Nat) : Int) := by
 unfold wrap64; omega
theorem rd_nat (xs : List Int) (i : Nat) (hi : i < xs.length) : rd xs (i : Int) = xs[i] := by simp [rd, hi]
theorem RI.kd {w : World} {v : Value} {xs : List Int} (h : RI w v xs) : ∃ A c, v = .slice A xs.length c ∧ xs.length ≤ c ∧ Kd.C (Kd.int .i64) w A xs.length xs := by
 obtain ⟨A, c, rfl, h1, h2, h3⟩ := h
 refine ⟨A, c, rfl, h1, rfl, h2, fun h0 => ?_⟩
 obtain ⟨ad, rfl, -⟩ := h3.int 0 h0
 refine ⟨ad, rfl, fun j p hp => ?_⟩
 obtain ⟨hj, rfl⟩ := List.getElem?_eq_some_iff.1 hp
 obtain ⟨ad', had, hc⟩ := h3.int j hj
 cases had
 refine ⟨[.int .i64 xs[j]], rfl, rfl, fun i u hu => ?_⟩
 obtain ⟨hi, rfl⟩ := List.getElem?_eq_some_iff.1 hu
 have hi' : i < 1 := hi
 have : i = 0 := by omega
 subst this
 show w.cell? (ad.add (j * 1 + 0)) = _
 rw [Nat.mul_one, Nat.add_zero]; exact hc
theorem kd_RI {w : World} {A : Option Addr} {c : Nat} {xs : List Int} (h : Kd.C (Kd.int .i64) w A xs.length xs) (hc : xs.length ≤ c) : RI w (.slice A xs.length c) xs := by
 obtain ⟨-, h2, h3⟩ := h
 refine ⟨A, c, rfl, hc, h2, fun j hj => ?_⟩
 rw [List.length_map] at hj
 obtain ⟨ad, rfl, hh⟩ := h3 (by omega)
 obtain ⟨cs, h4, h5, h6⟩ := hh j xs[j] (List.getElem?_eq_getElem hj)
 have h5' : cs = [.int .i64 xs[j]] := h5
 have := h6 0 (.int .i64 xs[j]) (by rw [h5']; rfl)
 refine ⟨ad, rfl, ?_⟩
 rw [show (Kd.int .i64).sz = 1 from rfl, Nat.mul_one, Nat.add_zero] at this
 rw [List.getElem_map]; exact this
theorem RLL.kd {w : World} {v : Value} {f : List (List Int)} (h : RLL w v f) : ∃ A c, v = .slice A f.length c ∧ f.length ≤ c ∧ Kd.C (Kd.slice 3 (Kd.int .i64)) w A f.length f := by
 obtain ⟨A, c, vs, rfl, h1, h2, h3, h4, h5⟩ := h
 refine ⟨A, c, by rw [h4], by omega, rfl, by omega, fun h0 => ?_⟩
 obtain ⟨ad, rfl, -⟩ := h3 0 (by omega)
 refine ⟨ad, rfl, fun j p hp => ?_⟩
 obtain ⟨hj, rfl⟩ := List.getElem?_eq_some_iff.1 hp
 obtain ⟨ad', had, hc⟩ := h3 j (by omega)
 cases had
 obtain ⟨A', c', hv, hl, hC⟩ := (h5 j (by omega) hj).kd
 refine ⟨[vs[j]], rfl, ⟨A', c', by rw [hv], hl, hC⟩, fun i u hu => ?_⟩
 obtain ⟨hi, rfl⟩ := List.getElem?_eq_some_iff.1 hu
 have hi' : i < 1 := hi
 have : i = 0 := by omega
 subst this
 show w.cell? (ad.add (j * 1 + 0)) = _
 rw [Nat.mul_one, Nat.add_zero]; exact hc
theorem RI.max {w : World} {v : Value} {xs : List Int} (h : RI w v xs) : xs.length ≤ 9223372036854775807 := by obtain ⟨A, c, h1, h2, h3, h4⟩ := h; exact h3
theorem RLL.max {w : World} {v : Value} {f : List (List Int)} (h : RLL w v f) : f.length ≤ 9223372036854775807 ∧ ∀ j (hj : j < f.length), f[j].length ≤ 9223372036854775807 := by
 obtain ⟨A, c, vs, rfl, h1, h2, h3, h4, h5⟩ := h
 exact ⟨by omega, fun j hj => (h5 j (by omega) hj).max⟩
theorem drawn_ext {w w' : World} (h : Drawn0 w w') : Ext w w' := by
 obtain ⟨⟨n, rfl⟩⟩ := h
 exact Ext.drewN w n
theorem wrap64_id {x : Int} (h0 : -9223372036854775808 ≤ x) (h1 : x ≤ 9223372036854775807) : wrap64 x = x := by unfold wrap64; omega
end Go.Proofs.YtjecjaihficcdaaGreat
