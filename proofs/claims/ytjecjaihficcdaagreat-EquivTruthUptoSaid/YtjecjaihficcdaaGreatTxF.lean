/- Walks and plain laws that this claim uses. -/
import Derived.Test.YtjecjaihficcdaaGreatTxE
import Derived.Shelf.SlSortCmp.NoneTotal
import Derived.Test.YtjecjaihficcdaaGreatTxC
import Derived.Test.YtjecjaihficcdaaGreatTxD
import Derived.BigRegion
import Derived.StillTailTactics
import Derived.Test.YtjecjaihficcdaaGreatTxA
import Derived.Deep.AppendLies
namespace Go.Proofs.YtjecjaihficcdaaGreat
open Go.RowKit
def alt (x y : Int) : Prop := sizeA x < sizeA y ∨ (sizeA x = sizeA y ∧ x < y)
instance (x y : Int) : Decidable (alt x y) := by unfold alt; infer_instance
theorem alt_trans (a b c : Int) (h : alt a b) (k : alt b c) : alt a c := by unfold alt at *; omega
theorem cmpI_neg {a b : Int} : cmpI a b < 0 ↔ a < b := by unfold cmpI; split <;> (try split) <;> omega
theorem cmpI_zero {a b : Int} : cmpI a b = 0 ↔ a = b := by unfold cmpI; split <;> (try split) <;> omega
theorem ordF_neg (x y : Int) : ordF x y < 0 ↔ alt x y := by
 unfold ordF alt
 by_cases h : cmpI (sizeA x) (sizeA y) = 0
 · rw [if_pos h, cmpI_neg]
   have := cmpI_zero.1 h
   omega
 · rw [if_neg h, cmpI_neg]
   have : ¬ sizeA x = sizeA y := fun e => h (cmpI_zero.2 e)
   omega
theorem lt_ord (x y : Int) : ltOf ordF x y = decide (alt x y) := by
 unfold ltOf
 rw [decide_eq_decide]
 exact ordF_neg x y
theorem swo_ord : Sort.SWO (ltOf ordF) := by
 refine ⟨fun x => ?_, fun x y z h k => ?_, fun x y z h k => ?_⟩
 · rw [lt_ord, decide_eq_false_iff_not]; unfold alt; omega
 · rw [lt_ord, decide_eq_true_eq] at *; exact alt_trans _ _ _ h k
 · rw [lt_ord, decide_eq_false_iff_not] at *
   unfold alt at *; omega
theorem alt_blt {x y : Int} (hx : I64 x) (hy : I64 y) : alt x y ↔ blt x y := by
 unfold alt blt
 rw [sizeA_abs hx, sizeA_abs hy]; omega
theorem grow_one (w : World) (o : Obj) : w.alloc o = Sort.grow (w.drewN 0) #[o] := by
 unfold World.alloc Sort.grow World.drewN
 simp
theorem SortF_own (xs : List Int) (v : Value) (base : Nat) (w : World) (h : OwnI w base v xs) (hl : xs.length ≤ 100000000) (h64 : All64 xs) :
 Calls Tryz.prog 51 #[v, .func (.func 117) #[] #[]] w fun e w' => ∃ ys, e = .returned (.tuple #[]) ∧ OwnI w' base v ys ∧ w.grownBy w' v.ownBlock ∧ ys.length = xs.length ∧ (∀ x, x ∈ ys ↔ x ∈ xs) ∧ ys.Pairwise fun a b => ¬ blt b a := by
 unfold OwnI at h ⊢
 obtain ⟨-, ⟨rfl, h0⟩ | ⟨g, cap, cur, rfl, hb, hg, hn, hm, hs, ht⟩⟩ := h
 · have : xs = [] := List.length_eq_zero_iff.1 h0
   subst this
   refine (AnyF.slices_SortFunc_none (P := Tryz.prog) (ρ := Tryz.laysSlF6_f51_ren) { Tryz.laysSlF6_f51 with } none 0 _ w).mono ?_
   rintro e w' ⟨rfl, rfl⟩
   exact ⟨[], rfl, World.ownsRow_nil _ _ _ 1, ⟨rfl, rfl, rfl, Nat.le_refl _, fun _ _ _ => rfl⟩, rfl, fun _ => Iff.rfl, List.Pairwise.nil⟩
 · refine (Tryz.slices_SortFunc_f51 (Value.int .i64) (fun _ => rfl) ordF swo_ord 117 #[] g 0 cap xs.toArray w (enters_of Tryz.func117 (by kernel_rfl) rfl)
    (fun m os dk _ x y => (order_any x y _).mono fun e w' ⟨he, o, ho⟩ => ⟨he, 0, #[o], by rw [ho, grow_one]⟩)
    (holds_of_blockI hg (by rw [Nat.mul_one] at ht; exact ht)) (Array.getElem?_eq_some_iff.1 hg).1 (by simp; omega)).mono ?_
   rintro e w' ⟨rfl, d', n, os, ⟨hsz, -, hperm⟩, hsort, rfl⟩
   have hdl : d'.toList.length = xs.length := by simpa using hsz
   have hp : d'.toList.Perm xs := by
    have h1 : d'.extract 0 xs.toArray.size = d' := by rw [← hsz]; simp
    have h2 : xs.toArray.extract 0 xs.toArray.size = xs.toArray := by simp
    rw [h1, h2] at hperm
    simpa using hperm
   refine ⟨d'.toList, rfl, ?_, ?_, hdl, fun x => hp.mem_iff, ?_⟩
   · have := ownsRow_sortedI (w := w) (n := n) (os := os) (ts := d'.toList) (ss := xs) hdl hb hg hn hm hs
     rw [hdl]
     simpa [sortWorld] using this
   · have := grownBy_sortedI (w := w) (g := g) (n := n) (os := os) d'
     simpa [sortWorld, Value.ownBlock] using this
   · rw [List.pairwise_iff_getElem]
     intro i j hi hj hij
     have := hsort i j (Nat.zero_le _) hij (by simp; omega)
     rw [lt_ord, decide_eq_false_iff_not] at this
     have hi' : i < d'.size := by simpa using hi
     have hj' : j < d'.size := by simpa using hj
     rw [getElem!_pos d' i hi', getElem!_pos d' j hj'] at this
     intro hb'
     apply this
     have m1 : d'[i] ∈ xs := hp.mem_iff.1 (by simp)
     have m2 : d'[j] ∈ xs := hp.mem_iff.1 (by simp)
     exact (alt_blt (h64 _ m2) (h64 _ m1)).2 (by simpa using hb')
def NormV (xs : List Int) : List Int × Int :=
 if xs.length > 200000 ∨ xs.any (fun x => varOf x == 0) = true then ([], 2) else if mayB (setL [] xs) = true then (setL [] xs, 0) else ([], 10)
theorem fv_norm1 : Fv Tryz.prog 116 := ⟨_, Tryz.func116, by kernel_rfl, by kernel_rfl⟩
set_option maxHeartbeats 400000 in
theorem norm1_fn (x : Int) (hx : I64 x) (w : World) : Calls Tryz.prog 116 #[.int .i64 x] w fun e w' => e = .returned (.bool (varOf x == 0)) ∧ w' = w := by
 go_enter Tryz.func116, Tryz.ntmps116
 go_wp2_with (go_at_call 36; refine (var_any x hx _).mono ?_; rintro e w' ⟨rfl, rfl⟩)
 go_ret
 exact ⟨rfl, rfl⟩
theorem anyVar (xs : List Int) (v : Value) (w : World) (h64 : All64 xs) (hr : RI w v xs) (f : FuncId) (hf : Fv Tryz.prog f) (q : Int → Bool) (hq : ∀ x, I64 x → ∀ w, Calls Tryz.prog f #[.int .i64 x] w fun e w' => e = .returned (.bool (q x)) ∧ w' = w) :
 Calls Tryz.prog 34 #[v, .func (.func f) #[] #[]] w fun e w' => e = .returned (.bool (xs.any q)) ∧ w = w' := by
 obtain ⟨A, c, rfl, h1, h2, h3⟩ := hr
 have hix := containsFuncI f #[] hf A c (xs.map (Value.int .i64)) (by rw [List.length_map]; exact h2) (fun j => q (xs.getD j 0)) (fun _ w' => w' = w) w
  (fun _ w' hw => hw ▸ h3)
  (fun j hj w' hw => by
   subst hw
   have hj' : j < xs.length := by simpa using hj
   rw [List.getElem_map, show xs[j] = xs.getD j 0 by simp [hj']]
   exact hq (xs.getD j 0) (h64.getD j hj') w')
  rfl
 rw [List.length_map] at hix
 refine hix.mono fun e w' (hq : PostCont _ _ _ e w') => ?_
 obtain ⟨r', he, hq⟩ := hq
 have h1 : IdxOf (fun j => q (xs.getD j 0)) xs.length r' ∧ w' = w := by
  rcases hq with ⟨k, h1, h2, h3, h4, h5⟩ | ⟨h1, h2, h3⟩
  · exact ⟨.inl ⟨k, h1, h2, h3, h4⟩, h5⟩
  · exact ⟨.inr ⟨h1, h2⟩, h3⟩
 have := (idx_cont h1.1).trans (range_any_get xs q)
 exact ⟨by rw [he, this], h1.2.symm⟩
theorem compact_setL {xs ys : List Int} (h1 : ∀ x, x ∈ ys ↔ x ∈ xs) (h2 : ys.Pairwise fun a b => ¬ blt b a) : Lib.compact ys = setL [] xs := by
 obtain ⟨h3, h4⟩ := compact_strict (lt := blt) blt_tri (fun _ _ _ h k => blt_trans h k) ys h2
 exact sorted_ext blt_asym h3 (setL_sorted xs List.Pairwise.nil) fun x => by rw [h4, h1, mem_setL]; simp
def PostNorm (w : World) (r : List Int × Int) (e : Ending) (w' : World) : Prop := ∃ v, e = .returned (.tuple #[v, .int .i64 r.2]) ∧ OwnI w' w.heap.size v r.1 ∧ Ext w w'
set_option maxHeartbeats 2000000 in
theorem Norm_any (xs : List Int) (v : Value) (w : World) (h64 : All64 xs) (hr : RI w v xs) : Calls Tryz.prog 60 #[v] w (PostNorm w (NormV xs)) := by
 generalize hPP : PostNorm w (NormV xs) = PP
 have HPP := Lib.hid hPP
 clear hPP
 have HR := Lib.hid hr
 have HA := Lib.hid (anyVar xs v w h64 hr 116 fv_norm1 (fun x => varOf x == 0) (fun x hx w => norm1_fn x hx w))
 obtain ⟨A, c, rfl, h1, h2, h3⟩ := hr
 clear h3
 by_cases hl : xs.length ≤ 200000
 · have hl' : ¬ (200000 : Int) < xs.length := by omega
   cases ha : xs.any fun x => varOf x == 0
   · rw [ha] at HA
     have HAA := Lib.hid ha
     clear ha
     have HCL := Lib.hid (cloneI_any _ xs w HR.out (by omega))
     cases hm : mayB (setL [] xs)
     all_goals
      have HM := Lib.hid hm
      clear hm
      go_enter Tryz.func60, Tryz.ntmps60
      go_wp2_with (first
       | (go_at_call 34; refine HA.out.mono ?_; rintro e w' ⟨rfl, rfl⟩)
       | (go_at_call 59; refine HCL.out.mono ?_; rintro e w1 ⟨v1, rfl, ho, hE⟩; have HO := Lib.hid ho; have HE := Lib.hid hE; clear ho hE)
       | (go_at_call 51; refine (SortF_own xs v1 _ _ HO.out (by omega) h64).mono ?_; rintro e w2 ⟨ys, rfl, ho, hg, hyl, hym, hyp⟩; have HO2 := Lib.hid ho; have HE2 := Lib.hid (grow_ext HE.out HO.out hg); have HYL := Lib.hid hyl; have HYS := Lib.hid (compact_setL hym hyp); clear ho hg hyl hym hyp)
       | (go_at_call 74; refine (Compact_own ys v1 _ _ HO2.out (by have := HYL.out; omega)).mono ?_; rintro e w3 ⟨v3, rfl, ho, hg, -⟩; have HO3 := Lib.hid (HYS.out ▸ ho); have HE3 := Lib.hid (grow_ext HE2.out HO2.out hg); clear ho hg)
       | (go_at_call 76; have hmy := may_any v3 (setL [] xs) _ HO3.out.reads (fun x hx => by rcases (mem_setL xs [] x).1 hx with h | h; cases h; exact h64 x h); rw [HM.out] at hmy; refine hmy.mono ?_; rintro e w4 ⟨rfl, rfl⟩; clear hmy))
      rw [← HPP.out]
      unfold NormV
      rw [if_neg (by rw [HAA.out]; simp; omega), HM.out]
     · exact ⟨_, rfl, OwnI.nil _ _, HE3.out⟩
     · exact ⟨_, rfl, HO3.out, HE3.out⟩
   · rw [ha] at HA
     have HAA := Lib.hid ha
     clear ha
     go_enter Tryz.func60, Tryz.ntmps60
     go_wp2_with (go_at_call 34; refine HA.out.mono ?_; rintro e w' ⟨rfl, rfl⟩)
     rw [← HPP.out]
     unfold NormV
     rw [if_pos (.inr HAA.out)]
     exact ⟨_, rfl, OwnI.nil _ _, Ext.refl _⟩
 · have hl' : (200000 : Int) < xs.length := by omega
   go_enter Tryz.func60, Tryz.ntmps60
   go_wp2_with fail
   rw [← HPP.out]
   unfold NormV
   rw [if_pos (.inl (by omega))]
   exact ⟨_, rfl, OwnI.nil _ _, Ext.refl _⟩
end Go.Proofs.YtjecjaihficcdaaGreat
namespace Go.Proofs.YtjecjaihficcdaaGreat
def subst1 (x t y : Int) : Int := if y = x then t else if y = -x then -t else y
def normC (x t : Int) (l : List Int) : Option (List Int) := if (NormV (l.map (subst1 x t))).2 = 0 then some (NormV (l.map (subst1 x t))).1 else none
def okCh (d : DqV) (c : ChV) : Bool := decide (c.kind = 6) && (decide (0 < c.lit) && (allowP d c.lit c.tz && (hasR d c.pos (-c.lit) c.tz && hasR d c.other c.lit (-c.tz))))
def madeV (d : DqV) (c : ChV) : DqV := ⟨d.univ, d.exist.filter (fun x => !decide (x.1 = c.lit)), d.clauses.filterMap (normC c.lit c.tz)⟩
def MakeV (d : DqV) (c : ChV) : DqV × Int := if mayD d = false then (⟨[], [], []⟩, 2) else if okCh d c = false then (⟨[], [], []⟩, 5) else (madeV d c, 0)
end Go.Proofs.YtjecjaihficcdaaGreat
namespace Go.Proofs.YtjecjaihficcdaaGreat
open Go.RowKit
def chArr (c : ChV) : Array Value := #[.int .u8 c.kind, .int .i64 c.lit, .int .i64 c.tz, .int .i64 c.pos, .int .i64 c.other]
structure COk (c : ChV) : Prop where
 l : I64 c.lit
 t : I64 c.tz
 p : I64 c.pos
 o : I64 c.other
def PostMake (w : World) (r : DqV × Int) (e : Ending) (w' : World) : Prop := ∃ vu vx vc, e = .returned (.tuple #[.agg #[vu, vx, vc], .int .i64 r.2]) ∧ RD w' vu vx vc r.1 ∧ Ext w w'
theorem RD.none (w : World) : RD w (.slice none 0 0) (.slice none 0 0) (.slice none 0 0) ⟨[], [], []⟩ :=
 ⟨RI.none _, ⟨Option.none, 0, [], rfl, Nat.le_refl _, by simp, rfl, fun j h => absurd h (Nat.not_lt_zero j)⟩, RLL.none _⟩
theorem mk_new (w : World) (u x c : Value) (k l t p o : Int) : ∃ W : World, W = ((w.alloc (.cells #[u, x, c] 27)).alloc (.cells #[.int .u8 k, .int .i64 l, .int .i64 t, .int .i64 p, .int .i64 o] 37)).alloc (.cells #[.slice none 0 0, .slice none 0 0, .slice none 0 0] 27) ∧
 Blk W w.heap.size 27 [u, x, c] ∧ Blk W (w.heap.size + 1) 37 [.int .u8 k, .int .i64 l, .int .i64 t, .int .i64 p, .int .i64 o] ∧ Blk W (w.heap.size + 2) 27 [.slice none 0 0, .slice none 0 0, .slice none 0 0] ∧ Ext w W ∧ W.heap.size = w.heap.size + 3 := by
 refine ⟨_, rfl, ?_, ?_, ?_, ((Ext.alloc w _).trans (Ext.alloc _ _)).trans (Ext.alloc _ _), by simp⟩
 · have h := Blk.new w 27 [u, x, c]
   exact (((Ext.alloc _ _).trans (Ext.alloc _ _)).chg (fun _ => False)).blk h id
 · have h := Blk.new (w.alloc (.cells #[u, x, c] 27)) 37 [.int .u8 k, .int .i64 l, .int .i64 t, .int .i64 p, .int .i64 o]
   rw [World.size_alloc] at h
   exact ((Ext.alloc _ _).chg (fun _ => False)).blk h id
 · have h := Blk.new ((w.alloc (.cells #[u, x, c] 27)).alloc (.cells #[.int .u8 k, .int .i64 l, .int .i64 t, .int .i64 p, .int .i64 o] 37)) 27 [.slice none 0 0, .slice none 0 0, .slice none 0 0]
   rw [World.size_alloc, World.size_alloc] at h
   exact h
set_option maxRecDepth 100000 in
set_option maxHeartbeats 4000000 in
theorem Make_no (d : DqV) (c : ChV) (vu vx vc : Value) (w : World) (hd : RD w vu vx vc d) (ok : DOk d) (hm : mayD d = false) : Calls Tryz.prog 21 #[.agg #[vu, vx, vc], .agg (chArr c)] w (PostMake w (⟨[], [], []⟩, 2)) := by
 have HM := Lib.hid (fun w' (h : Ext w w') => MayD_any d vu vx vc w' ok.x64 ok.c64 (hd.u.ext h) (hd.x.ext h) (RLL.ext' hd.c h) (fun _ => by have := ok.tot; omega) ok.xl ok.ul)
 rw [hm] at HM
 obtain ⟨⟨UA, uc, hue, -⟩, ⟨XA, xc, ons, hxe, -⟩, ⟨CA, cc, us, hce, -⟩⟩ := hd
 subst hue hxe hce
 clear ok hm
 unfold chArr
 obtain ⟨W, hW, B0, B1, B2, hEW, hsW⟩ := mk_new w (.slice UA d.univ.length uc) (.slice XA d.exist.length xc) (.slice CA us.length cc) c.kind c.lit c.tz c.pos c.other
 have HB2 := Lib.hid B2
 have HEW := Lib.hid hEW
 have HW := Lib.hid hW
 clear B0 B1 B2 hEW hsW hW
 go_enter Tryz.func21, Tryz.ntmps21
 go_wp2_with (go_at_call 54; rw [← HW.out]; refine (HM.out _ HEW.out).mono ?_; rintro e w2 ⟨rfl, hE2⟩; have HE2 := Lib.hid hE2; have hbx := (hE2.chg (fun _ => False)).blk HB2.out id; have b0 := hbx.cell 0; have b1 := hbx.cell 1; have b2 := hbx.cell 2; have f0 := hbx.free 0; have f1 := hbx.free 1; have f2 := hbx.free 2; simp only [List.getElem?_cons_zero, List.getElem?_cons_succ] at b0 b1 b2; clear hE2 hbx)
 refine bodyPost_ret (v := .tuple #[.agg #[.slice none 0 0, .slice none 0 0, .slice none 0 0], .int .i64 2]) (by simp [results, Tryz.results21, go_sem, b0, b1, b2]) rfl ⟨_, _, _, rfl, RD.none _, ?_⟩
 have he := HEW.out.trans HE2.out
 repeat (refine Below.setCell ?_ (by simp <;> omega) _)
 exact he
set_option maxRecDepth 100000 in
set_option maxHeartbeats 8000000 in
theorem Make_bad (d : DqV) (c : ChV) (vu vx vc : Value) (w : World) (hd : RD w vu vx vc d) (ok : DOk d) (cok : COk c) (hm : mayD d = true) (hno : okCh d c = false) : Calls Tryz.prog 21 #[.agg #[vu, vx, vc], .agg (chArr c)] w (PostMake w (⟨[], [], []⟩, 5)) := by
 have HM := Lib.hid (fun w' (h : Ext w w') => MayD_any d vu vx vc w' ok.x64 ok.c64 (hd.u.ext h) (hd.x.ext h) (RLL.ext' hd.c h) (fun _ => by have := ok.tot; omega) ok.xl ok.ul)
 have HAL := Lib.hid (fun w' (h : Ext w w') => allowed_any d vu vx vc c.lit c.tz w' (hd.ext h) ok cok.t)
 have HP1 := Lib.hid (fun w' (h : Ext w w') => pair_any d vu vx vc c.pos (-c.lit) c.tz w' (hd.ext h) ok)
 have HP2 := Lib.hid (fun w' (h : Ext w w') => pair_any d vu vx vc c.other c.lit (-c.tz) w' (hd.ext h) ok)
 rw [hm] at HM
 have HMM := Lib.hid hm
 have HNO := Lib.hid hno
 have COK := Lib.hid cok
 obtain ⟨⟨UA, uc, hue, -⟩, ⟨XA, xc, ons, hxe, -⟩, ⟨CA, cc, us, hce, -⟩⟩ := hd
 subst hue hxe hce
 clear ok hm hno cok
 unfold chArr
 obtain ⟨W, hW, B0, B1, B2, hEW, hsW⟩ := mk_new w (.slice UA d.univ.length uc) (.slice XA d.exist.length xc) (.slice CA us.length cc) c.kind c.lit c.tz c.pos c.other
 have HB0 := Lib.hid B0
 have HB1 := Lib.hid B1
 have HB2 := Lib.hid B2
 have HEW := Lib.hid hEW
 have HW := Lib.hid hW
 clear B0 B1 B2 hEW hsW hW
 obtain ⟨k, hk⟩ : ∃ k, k = c.kind := ⟨_, rfl⟩
 obtain ⟨x, hx⟩ : ∃ x, x = c.lit := ⟨_, rfl⟩
 obtain ⟨t, ht⟩ : ∃ t, t = c.tz := ⟨_, rfl⟩
 have hx64 := COK.out.l
 rw [← hk, ← hx, ← ht] at HB1 HW
 rw [← hx, ← ht] at HAL HP1 HP2
 rw [← hx] at hx64
 rw [← hk, ← hx, ← ht]
 have HN2 : Hid ((decide (k = 6) && (decide (0 < x) && (allowP d x t && (hasR d c.pos (-x) t && hasR d c.other x (-t))))) = false) := Lib.hid (by rw [hk, hx, ht]; exact HNO.out)
 clear hk hx ht
 unfold I64 at hx64
 by_cases h1 : k = 6
 · subst h1
   by_cases h2 : 0 < x
   · have h2b : decide (x ≤ 0) = false := decide_eq_false (by omega)
     have hnx : IntKind.i64.wrap (-x) = -x := IntWalk.i64_in _ (by omega)
     cases hal : allowP d x t with
     | false =>
       rw [hal] at HAL
       clear hal
       go_enter Tryz.func21, Tryz.ntmps21
       go_wp2_with (first
        | (go_at_call 54; rw [← HW.out]; refine (HM.out _ HEW.out).mono ?_; rintro e w2 ⟨rfl, hE2⟩; have HE2 := Lib.hid hE2; have hbD := (hE2.chg (fun _ => False)).blk HB0.out id; have hbC := (hE2.chg (fun _ => False)).blk HB1.out id; have hbR := (hE2.chg (fun _ => False)).blk HB2.out id; have d0a := hbD.cell 0; have d1a := hbD.cell 1; have d2a := hbD.cell 2; have k0a := hbC.cell 0; have k1a := hbC.cell 1; have k2a := hbC.cell 2; have k3a := hbC.cell 3; have k4a := hbC.cell 4; have r0a := hbR.cell 0; have rf0a := hbR.free 0; have r1a := hbR.cell 1; have rf1a := hbR.free 1; have r2a := hbR.cell 2; have rf2a := hbR.free 2; simp only [List.getElem?_cons_zero, List.getElem?_cons_succ] at d0a d1a d2a k0a k1a k2a k3a k4a r0a r1a r2a; clear hbD hbC hbR; clear hE2)
        | (go_at_call 56; refine (HAL.out _ (HEW.out.trans HE2.out)).mono ?_; rintro e w3 ⟨rfl, hE3⟩; have HE3 := Lib.hid (HE2.out.trans hE3); have hbD := ((HE2.out.trans hE3).chg (fun _ => False)).blk HB0.out id; have hbC := ((HE2.out.trans hE3).chg (fun _ => False)).blk HB1.out id; have hbR := ((HE2.out.trans hE3).chg (fun _ => False)).blk HB2.out id; have d0b := hbD.cell 0; have d1b := hbD.cell 1; have d2b := hbD.cell 2; have k0b := hbC.cell 0; have k1b := hbC.cell 1; have k2b := hbC.cell 2; have k3b := hbC.cell 3; have k4b := hbC.cell 4; have r0b := hbR.cell 0; have rf0b := hbR.free 0; have r1b := hbR.cell 1; have rf1b := hbR.free 1; have r2b := hbR.cell 2; have rf2b := hbR.free 2; simp only [List.getElem?_cons_zero, List.getElem?_cons_succ] at d0b d1b d2b k0b k1b k2b k3b k4b r0b r1b r2b; clear hbD hbC hbR; clear hE3)
        | (go_at_call 58; refine (HP1.out _ (HEW.out.trans HE3.out)).mono ?_; rintro e w4 ⟨rfl, hE4⟩; have HE4 := Lib.hid (HE3.out.trans hE4); have hbD := ((HE3.out.trans hE4).chg (fun _ => False)).blk HB0.out id; have hbC := ((HE3.out.trans hE4).chg (fun _ => False)).blk HB1.out id; have hbR := ((HE3.out.trans hE4).chg (fun _ => False)).blk HB2.out id; have d0c := hbD.cell 0; have d1c := hbD.cell 1; have d2c := hbD.cell 2; have k0c := hbC.cell 0; have k1c := hbC.cell 1; have k2c := hbC.cell 2; have k3c := hbC.cell 3; have k4c := hbC.cell 4; have r0c := hbR.cell 0; have rf0c := hbR.free 0; have r1c := hbR.cell 1; have rf1c := hbR.free 1; have r2c := hbR.cell 2; have rf2c := hbR.free 2; simp only [List.getElem?_cons_zero, List.getElem?_cons_succ] at d0c d1c d2c k0c k1c k2c k3c k4c r0c r1c r2c; clear hbD hbC hbR; clear hE4)
        | (go_at_call 58; refine (HP2.out _ (HEW.out.trans HE4.out)).mono ?_; rintro e w5 ⟨rfl, hE5⟩; have HE5 := Lib.hid (HE4.out.trans hE5); have hbD := ((HE4.out.trans hE5).chg (fun _ => False)).blk HB0.out id; have hbC := ((HE4.out.trans hE5).chg (fun _ => False)).blk HB1.out id; have hbR := ((HE4.out.trans hE5).chg (fun _ => False)).blk HB2.out id; have d0d := hbD.cell 0; have d1d := hbD.cell 1; have d2d := hbD.cell 2; have k0d := hbC.cell 0; have k1d := hbC.cell 1; have k2d := hbC.cell 2; have k3d := hbC.cell 3; have k4d := hbC.cell 4; have r0d := hbR.cell 0; have rf0d := hbR.free 0; have r1d := hbR.cell 1; have rf1d := hbR.free 1; have r2d := hbR.cell 2; have rf2d := hbR.free 2; simp only [List.getElem?_cons_zero, List.getElem?_cons_succ] at d0d d1d d2d k0d k1d k2d k3d k4d r0d r1d r2d; clear hbD hbC hbR; clear hE5))
       refine bodyPost_ret (v := .tuple #[.agg #[.slice none 0 0, .slice none 0 0, .slice none 0 0], .int .i64 5]) (by simp [results, Tryz.results21, go_sem, r0b, r1b, r2b]) rfl ⟨_, _, _, rfl, RD.none _, ?_⟩
       have he := HEW.out.trans HE3.out
       repeat (refine Below.setCell ?_ (by simp <;> omega) _)
       exact he
     | true =>
       cases hp1 : hasR d c.pos (-x) t with
       | false =>
         rw [hal] at HAL
         rw [hp1] at HP1
         clear hal hp1
         go_enter Tryz.func21, Tryz.ntmps21
         go_wp2_with (first
          | (go_at_call 54; rw [← HW.out]; refine (HM.out _ HEW.out).mono ?_; rintro e w2 ⟨rfl, hE2⟩; have HE2 := Lib.hid hE2; have hbD := (hE2.chg (fun _ => False)).blk HB0.out id; have hbC := (hE2.chg (fun _ => False)).blk HB1.out id; have hbR := (hE2.chg (fun _ => False)).blk HB2.out id; have d0a := hbD.cell 0; have d1a := hbD.cell 1; have d2a := hbD.cell 2; have k0a := hbC.cell 0; have k1a := hbC.cell 1; have k2a := hbC.cell 2; have k3a := hbC.cell 3; have k4a := hbC.cell 4; have r0a := hbR.cell 0; have rf0a := hbR.free 0; have r1a := hbR.cell 1; have rf1a := hbR.free 1; have r2a := hbR.cell 2; have rf2a := hbR.free 2; simp only [List.getElem?_cons_zero, List.getElem?_cons_succ] at d0a d1a d2a k0a k1a k2a k3a k4a r0a r1a r2a; clear hbD hbC hbR; clear hE2)
          | (go_at_call 56; refine (HAL.out _ (HEW.out.trans HE2.out)).mono ?_; rintro e w3 ⟨rfl, hE3⟩; have HE3 := Lib.hid (HE2.out.trans hE3); have hbD := ((HE2.out.trans hE3).chg (fun _ => False)).blk HB0.out id; have hbC := ((HE2.out.trans hE3).chg (fun _ => False)).blk HB1.out id; have hbR := ((HE2.out.trans hE3).chg (fun _ => False)).blk HB2.out id; have d0b := hbD.cell 0; have d1b := hbD.cell 1; have d2b := hbD.cell 2; have k0b := hbC.cell 0; have k1b := hbC.cell 1; have k2b := hbC.cell 2; have k3b := hbC.cell 3; have k4b := hbC.cell 4; have r0b := hbR.cell 0; have rf0b := hbR.free 0; have r1b := hbR.cell 1; have rf1b := hbR.free 1; have r2b := hbR.cell 2; have rf2b := hbR.free 2; simp only [List.getElem?_cons_zero, List.getElem?_cons_succ] at d0b d1b d2b k0b k1b k2b k3b k4b r0b r1b r2b; clear hbD hbC hbR; clear hE3)
          | (go_at_call 58; refine (HP1.out _ (HEW.out.trans HE3.out)).mono ?_; rintro e w4 ⟨rfl, hE4⟩; have HE4 := Lib.hid (HE3.out.trans hE4); have hbD := ((HE3.out.trans hE4).chg (fun _ => False)).blk HB0.out id; have hbC := ((HE3.out.trans hE4).chg (fun _ => False)).blk HB1.out id; have hbR := ((HE3.out.trans hE4).chg (fun _ => False)).blk HB2.out id; have d0c := hbD.cell 0; have d1c := hbD.cell 1; have d2c := hbD.cell 2; have k0c := hbC.cell 0; have k1c := hbC.cell 1; have k2c := hbC.cell 2; have k3c := hbC.cell 3; have k4c := hbC.cell 4; have r0c := hbR.cell 0; have rf0c := hbR.free 0; have r1c := hbR.cell 1; have rf1c := hbR.free 1; have r2c := hbR.cell 2; have rf2c := hbR.free 2; simp only [List.getElem?_cons_zero, List.getElem?_cons_succ] at d0c d1c d2c k0c k1c k2c k3c k4c r0c r1c r2c; clear hbD hbC hbR; clear hE4)
          | (go_at_call 58; refine (HP2.out _ (HEW.out.trans HE4.out)).mono ?_; rintro e w5 ⟨rfl, hE5⟩; have HE5 := Lib.hid (HE4.out.trans hE5); have hbD := ((HE4.out.trans hE5).chg (fun _ => False)).blk HB0.out id; have hbC := ((HE4.out.trans hE5).chg (fun _ => False)).blk HB1.out id; have hbR := ((HE4.out.trans hE5).chg (fun _ => False)).blk HB2.out id; have d0d := hbD.cell 0; have d1d := hbD.cell 1; have d2d := hbD.cell 2; have k0d := hbC.cell 0; have k1d := hbC.cell 1; have k2d := hbC.cell 2; have k3d := hbC.cell 3; have k4d := hbC.cell 4; have r0d := hbR.cell 0; have rf0d := hbR.free 0; have r1d := hbR.cell 1; have rf1d := hbR.free 1; have r2d := hbR.cell 2; have rf2d := hbR.free 2; simp only [List.getElem?_cons_zero, List.getElem?_cons_succ] at d0d d1d d2d k0d k1d k2d k3d k4d r0d r1d r2d; clear hbD hbC hbR; clear hE5))
         refine bodyPost_ret (v := .tuple #[.agg #[.slice none 0 0, .slice none 0 0, .slice none 0 0], .int .i64 5]) (by simp [results, Tryz.results21, go_sem, r0c, r1c, r2c]) rfl ⟨_, _, _, rfl, RD.none _, ?_⟩
         have he := HEW.out.trans HE4.out
         repeat (refine Below.setCell ?_ (by simp <;> omega) _)
         exact he
       | true =>
         have ht0 := (hasR_lit HMM.out hp1).2
         have hte := varOf_eq ht0
         have htr := varOf_range t
         have hnt : IntKind.i64.wrap (-t) = -t := IntWalk.i64_in _ (by omega)
         have hp2 : hasR d c.other x (-t) = false := by
          have := HN2.out
          rw [hal, hp1, decide_eq_true h2] at this
          simpa using this
         rw [hal] at HAL
         rw [hp1] at HP1
         rw [hp2] at HP2
         clear hal hp1 hp2 ht0 hte htr
         obtain ⟨nt, hnte⟩ : ∃ nt, nt = -t := ⟨_, rfl⟩
         have hnt2 : RowKit.wrap64 (-t) = nt := by rw [hnte, ← IntWalk.i64_left]; exact hnt
         rw [← hnte] at HP2
         clear hnte hnt
         go_enter Tryz.func21, Tryz.ntmps21
         go_wp2_with (first
          | (go_at_call 54; rw [← HW.out]; refine (HM.out _ HEW.out).mono ?_; rintro e w2 ⟨rfl, hE2⟩; have HE2 := Lib.hid hE2; have hbD := (hE2.chg (fun _ => False)).blk HB0.out id; have hbC := (hE2.chg (fun _ => False)).blk HB1.out id; have hbR := (hE2.chg (fun _ => False)).blk HB2.out id; have d0a := hbD.cell 0; have d1a := hbD.cell 1; have d2a := hbD.cell 2; have k0a := hbC.cell 0; have k1a := hbC.cell 1; have k2a := hbC.cell 2; have k3a := hbC.cell 3; have k4a := hbC.cell 4; have r0a := hbR.cell 0; have rf0a := hbR.free 0; have r1a := hbR.cell 1; have rf1a := hbR.free 1; have r2a := hbR.cell 2; have rf2a := hbR.free 2; simp only [List.getElem?_cons_zero, List.getElem?_cons_succ] at d0a d1a d2a k0a k1a k2a k3a k4a r0a r1a r2a; clear hbD hbC hbR; clear hE2)
          | (go_at_call 56; refine (HAL.out _ (HEW.out.trans HE2.out)).mono ?_; rintro e w3 ⟨rfl, hE3⟩; have HE3 := Lib.hid (HE2.out.trans hE3); have hbD := ((HE2.out.trans hE3).chg (fun _ => False)).blk HB0.out id; have hbC := ((HE2.out.trans hE3).chg (fun _ => False)).blk HB1.out id; have hbR := ((HE2.out.trans hE3).chg (fun _ => False)).blk HB2.out id; have d0b := hbD.cell 0; have d1b := hbD.cell 1; have d2b := hbD.cell 2; have k0b := hbC.cell 0; have k1b := hbC.cell 1; have k2b := hbC.cell 2; have k3b := hbC.cell 3; have k4b := hbC.cell 4; have r0b := hbR.cell 0; have rf0b := hbR.free 0; have r1b := hbR.cell 1; have rf1b := hbR.free 1; have r2b := hbR.cell 2; have rf2b := hbR.free 2; simp only [List.getElem?_cons_zero, List.getElem?_cons_succ] at d0b d1b d2b k0b k1b k2b k3b k4b r0b r1b r2b; clear hbD hbC hbR; clear hE3)
          | (go_at_call_of 58 (Value.int .i64 (-x)); refine (HP1.out _ (HEW.out.trans HE3.out)).mono ?_; rintro e w4 ⟨rfl, hE4⟩; have HE4 := Lib.hid (HE3.out.trans hE4); have hbD := ((HE3.out.trans hE4).chg (fun _ => False)).blk HB0.out id; have hbC := ((HE3.out.trans hE4).chg (fun _ => False)).blk HB1.out id; have hbR := ((HE3.out.trans hE4).chg (fun _ => False)).blk HB2.out id; have d0c := hbD.cell 0; have d1c := hbD.cell 1; have d2c := hbD.cell 2; have k0c := hbC.cell 0; have k1c := hbC.cell 1; have k2c := hbC.cell 2; have k3c := hbC.cell 3; have k4c := hbC.cell 4; have r0c := hbR.cell 0; have rf0c := hbR.free 0; have r1c := hbR.cell 1; have rf1c := hbR.free 1; have r2c := hbR.cell 2; have rf2c := hbR.free 2; simp only [List.getElem?_cons_zero, List.getElem?_cons_succ] at d0c d1c d2c k0c k1c k2c k3c k4c r0c r1c r2c; clear hbD hbC hbR; clear hE4)
          | (go_at_call_of 58 (Value.int .i64 nt); refine (HP2.out _ (HEW.out.trans HE4.out)).mono ?_; rintro e w5 ⟨rfl, hE5⟩; have HE5 := Lib.hid (HE4.out.trans hE5); have hbD := ((HE4.out.trans hE5).chg (fun _ => False)).blk HB0.out id; have hbC := ((HE4.out.trans hE5).chg (fun _ => False)).blk HB1.out id; have hbR := ((HE4.out.trans hE5).chg (fun _ => False)).blk HB2.out id; have d0d := hbD.cell 0; have d1d := hbD.cell 1; have d2d := hbD.cell 2; have k0d := hbC.cell 0; have k1d := hbC.cell 1; have k2d := hbC.cell 2; have k3d := hbC.cell 3; have k4d := hbC.cell 4; have r0d := hbR.cell 0; have rf0d := hbR.free 0; have r1d := hbR.cell 1; have rf1d := hbR.free 1; have r2d := hbR.cell 2; have rf2d := hbR.free 2; simp only [List.getElem?_cons_zero, List.getElem?_cons_succ] at d0d d1d d2d k0d k1d k2d k3d k4d r0d r1d r2d; clear hbD hbC hbR; clear hE5))
         refine bodyPost_ret (v := .tuple #[.agg #[.slice none 0 0, .slice none 0 0, .slice none 0 0], .int .i64 5]) (by simp [results, Tryz.results21, go_sem, r0d, r1d, r2d]) rfl ⟨_, _, _, rfl, RD.none _, ?_⟩
         have he := HEW.out.trans HE5.out
         repeat (refine Below.setCell ?_ (by simp <;> omega) _)
         exact he
   · have h2b : decide (x ≤ 0) = true := decide_eq_true (by omega)
     go_enter Tryz.func21, Tryz.ntmps21
     go_wp2_with (first
      | (go_at_call 54; rw [← HW.out]; refine (HM.out _ HEW.out).mono ?_; rintro e w2 ⟨rfl, hE2⟩; have HE2 := Lib.hid hE2; have hbD := (hE2.chg (fun _ => False)).blk HB0.out id; have hbC := (hE2.chg (fun _ => False)).blk HB1.out id; have hbR := (hE2.chg (fun _ => False)).blk HB2.out id; have d0a := hbD.cell 0; have d1a := hbD.cell 1; have d2a := hbD.cell 2; have k0a := hbC.cell 0; have k1a := hbC.cell 1; have k2a := hbC.cell 2; have k3a := hbC.cell 3; have k4a := hbC.cell 4; have r0a := hbR.cell 0; have rf0a := hbR.free 0; have r1a := hbR.cell 1; have rf1a := hbR.free 1; have r2a := hbR.cell 2; have rf2a := hbR.free 2; simp only [List.getElem?_cons_zero, List.getElem?_cons_succ] at d0a d1a d2a k0a k1a k2a k3a k4a r0a r1a r2a; clear hbD hbC hbR; clear hE2)
      | (go_at_call 56; refine (HAL.out _ (HEW.out.trans HE2.out)).mono ?_; rintro e w3 ⟨rfl, hE3⟩; have HE3 := Lib.hid (HE2.out.trans hE3); have hbD := ((HE2.out.trans hE3).chg (fun _ => False)).blk HB0.out id; have hbC := ((HE2.out.trans hE3).chg (fun _ => False)).blk HB1.out id; have hbR := ((HE2.out.trans hE3).chg (fun _ => False)).blk HB2.out id; have d0b := hbD.cell 0; have d1b := hbD.cell 1; have d2b := hbD.cell 2; have k0b := hbC.cell 0; have k1b := hbC.cell 1; have k2b := hbC.cell 2; have k3b := hbC.cell 3; have k4b := hbC.cell 4; have r0b := hbR.cell 0; have rf0b := hbR.free 0; have r1b := hbR.cell 1; have rf1b := hbR.free 1; have r2b := hbR.cell 2; have rf2b := hbR.free 2; simp only [List.getElem?_cons_zero, List.getElem?_cons_succ] at d0b d1b d2b k0b k1b k2b k3b k4b r0b r1b r2b; clear hbD hbC hbR; clear hE3)
      | (go_at_call 58; refine (HP1.out _ (HEW.out.trans HE3.out)).mono ?_; rintro e w4 ⟨rfl, hE4⟩; have HE4 := Lib.hid (HE3.out.trans hE4); have hbD := ((HE3.out.trans hE4).chg (fun _ => False)).blk HB0.out id; have hbC := ((HE3.out.trans hE4).chg (fun _ => False)).blk HB1.out id; have hbR := ((HE3.out.trans hE4).chg (fun _ => False)).blk HB2.out id; have d0c := hbD.cell 0; have d1c := hbD.cell 1; have d2c := hbD.cell 2; have k0c := hbC.cell 0; have k1c := hbC.cell 1; have k2c := hbC.cell 2; have k3c := hbC.cell 3; have k4c := hbC.cell 4; have r0c := hbR.cell 0; have rf0c := hbR.free 0; have r1c := hbR.cell 1; have rf1c := hbR.free 1; have r2c := hbR.cell 2; have rf2c := hbR.free 2; simp only [List.getElem?_cons_zero, List.getElem?_cons_succ] at d0c d1c d2c k0c k1c k2c k3c k4c r0c r1c r2c; clear hbD hbC hbR; clear hE4)
      | (go_at_call 58; refine (HP2.out _ (HEW.out.trans HE4.out)).mono ?_; rintro e w5 ⟨rfl, hE5⟩; have HE5 := Lib.hid (HE4.out.trans hE5); have hbD := ((HE4.out.trans hE5).chg (fun _ => False)).blk HB0.out id; have hbC := ((HE4.out.trans hE5).chg (fun _ => False)).blk HB1.out id; have hbR := ((HE4.out.trans hE5).chg (fun _ => False)).blk HB2.out id; have d0d := hbD.cell 0; have d1d := hbD.cell 1; have d2d := hbD.cell 2; have k0d := hbC.cell 0; have k1d := hbC.cell 1; have k2d := hbC.cell 2; have k3d := hbC.cell 3; have k4d := hbC.cell 4; have r0d := hbR.cell 0; have rf0d := hbR.free 0; have r1d := hbR.cell 1; have rf1d := hbR.free 1; have r2d := hbR.cell 2; have rf2d := hbR.free 2; simp only [List.getElem?_cons_zero, List.getElem?_cons_succ] at d0d d1d d2d k0d k1d k2d k3d k4d r0d r1d r2d; clear hbD hbC hbR; clear hE5))
     refine bodyPost_ret (v := .tuple #[.agg #[.slice none 0 0, .slice none 0 0, .slice none 0 0], .int .i64 5]) (by simp [results, Tryz.results21, go_sem, r0a, r1a, r2a]) rfl ⟨_, _, _, rfl, RD.none _, ?_⟩
     have he := HEW.out.trans HE2.out
     repeat (refine Below.setCell ?_ (by simp <;> omega) _)
     exact he
 · have h1b : (k != 6) = true := by simpa using h1
   go_enter Tryz.func21, Tryz.ntmps21
   go_wp2_with (first
    | (go_at_call 54; rw [← HW.out]; refine (HM.out _ HEW.out).mono ?_; rintro e w2 ⟨rfl, hE2⟩; have HE2 := Lib.hid hE2; have hbD := (hE2.chg (fun _ => False)).blk HB0.out id; have hbC := (hE2.chg (fun _ => False)).blk HB1.out id; have hbR := (hE2.chg (fun _ => False)).blk HB2.out id; have d0a := hbD.cell 0; have d1a := hbD.cell 1; have d2a := hbD.cell 2; have k0a := hbC.cell 0; have k1a := hbC.cell 1; have k2a := hbC.cell 2; have k3a := hbC.cell 3; have k4a := hbC.cell 4; have r0a := hbR.cell 0; have rf0a := hbR.free 0; have r1a := hbR.cell 1; have rf1a := hbR.free 1; have r2a := hbR.cell 2; have rf2a := hbR.free 2; simp only [List.getElem?_cons_zero, List.getElem?_cons_succ] at d0a d1a d2a k0a k1a k2a k3a k4a r0a r1a r2a; clear hbD hbC hbR; clear hE2)
    | (go_at_call 56; refine (HAL.out _ (HEW.out.trans HE2.out)).mono ?_; rintro e w3 ⟨rfl, hE3⟩; have HE3 := Lib.hid (HE2.out.trans hE3); have hbD := ((HE2.out.trans hE3).chg (fun _ => False)).blk HB0.out id; have hbC := ((HE2.out.trans hE3).chg (fun _ => False)).blk HB1.out id; have hbR := ((HE2.out.trans hE3).chg (fun _ => False)).blk HB2.out id; have d0b := hbD.cell 0; have d1b := hbD.cell 1; have d2b := hbD.cell 2; have k0b := hbC.cell 0; have k1b := hbC.cell 1; have k2b := hbC.cell 2; have k3b := hbC.cell 3; have k4b := hbC.cell 4; have r0b := hbR.cell 0; have rf0b := hbR.free 0; have r1b := hbR.cell 1; have rf1b := hbR.free 1; have r2b := hbR.cell 2; have rf2b := hbR.free 2; simp only [List.getElem?_cons_zero, List.getElem?_cons_succ] at d0b d1b d2b k0b k1b k2b k3b k4b r0b r1b r2b; clear hbD hbC hbR; clear hE3)
    | (go_at_call 58; refine (HP1.out _ (HEW.out.trans HE3.out)).mono ?_; rintro e w4 ⟨rfl, hE4⟩; have HE4 := Lib.hid (HE3.out.trans hE4); have hbD := ((HE3.out.trans hE4).chg (fun _ => False)).blk HB0.out id; have hbC := ((HE3.out.trans hE4).chg (fun _ => False)).blk HB1.out id; have hbR := ((HE3.out.trans hE4).chg (fun _ => False)).blk HB2.out id; have d0c := hbD.cell 0; have d1c := hbD.cell 1; have d2c := hbD.cell 2; have k0c := hbC.cell 0; have k1c := hbC.cell 1; have k2c := hbC.cell 2; have k3c := hbC.cell 3; have k4c := hbC.cell 4; have r0c := hbR.cell 0; have rf0c := hbR.free 0; have r1c := hbR.cell 1; have rf1c := hbR.free 1; have r2c := hbR.cell 2; have rf2c := hbR.free 2; simp only [List.getElem?_cons_zero, List.getElem?_cons_succ] at d0c d1c d2c k0c k1c k2c k3c k4c r0c r1c r2c; clear hbD hbC hbR; clear hE4)
    | (go_at_call 58; refine (HP2.out _ (HEW.out.trans HE4.out)).mono ?_; rintro e w5 ⟨rfl, hE5⟩; have HE5 := Lib.hid (HE4.out.trans hE5); have hbD := ((HE4.out.trans hE5).chg (fun _ => False)).blk HB0.out id; have hbC := ((HE4.out.trans hE5).chg (fun _ => False)).blk HB1.out id; have hbR := ((HE4.out.trans hE5).chg (fun _ => False)).blk HB2.out id; have d0d := hbD.cell 0; have d1d := hbD.cell 1; have d2d := hbD.cell 2; have k0d := hbC.cell 0; have k1d := hbC.cell 1; have k2d := hbC.cell 2; have k3d := hbC.cell 3; have k4d := hbC.cell 4; have r0d := hbR.cell 0; have rf0d := hbR.free 0; have r1d := hbR.cell 1; have rf1d := hbR.free 1; have r2d := hbR.cell 2; have rf2d := hbR.free 2; simp only [List.getElem?_cons_zero, List.getElem?_cons_succ] at d0d d1d d2d k0d k1d k2d k3d k4d r0d r1d r2d; clear hbD hbC hbR; clear hE5))
   refine bodyPost_ret (v := .tuple #[.agg #[.slice none 0 0, .slice none 0 0, .slice none 0 0], .int .i64 5]) (by simp [results, Tryz.results21, go_sem, r0a, r1a, r2a]) rfl ⟨_, _, _, rfl, RD.none _, ?_⟩
   have he := HEW.out.trans HE2.out
   repeat (refine Below.setCell ?_ (by simp <;> omega) _)
   exact he
end Go.Proofs.YtjecjaihficcdaaGreat
namespace Go.Proofs.YtjecjaihficcdaaGreat
open Go.RowKit
attribute [local go_sem] Oper.semAt_some
theorem Iter.ext {α : Type} {P : Program} {gf : FuncId} {lb : Array Value} {encs : α → Array Value} {xs : List α} {Rk : Nat → Prop} {w w' : World} (h : Iter P gf lb encs xs Rk w) (k : Ext w w') : Iter P gf lb encs xs Rk w' :=
 fun l J Jx W hW hJ hJx hY h0 => h l J Jx W ((k.chg _).trans hW) hJ hJx hY h0
theorem app_1l {ops : Array Oper} {rest : List Oper} {o : Oper} {a : Act} {Q : Exit → Act → World → Prop} {w : World} (hgd : o.guard = none) (s x : Operand)
 (ho : o.op = .call { callee := .builtin .append, args := #[s, x], argTypes := #[24, 24] })
 {base : Nat} {v : Value} {xs : List Int} {y : Int} (hs : a.eval s = v) (hx : a.eval x = .slice (some ⟨w.heap.size, 0, none⟩) 1 1) (hown : OwnI w base v xs) (hl : xs.length ≤ 10000000) (hbase : base ≤ w.heap.size)
 (h : ∀ g cap w', OwnI w' base (.slice (some ⟨g, 0, none⟩) (xs.length + 1) cap) (xs ++ [y]) → Chg (fun i => some i = v.ownBlock) w w' → (v.ownBlock = some g ∨ g = w.heap.size + 1) → g < w'.heap.size → wpList Tryz.prog ops Q rest (a.put o.dst (.slice (some ⟨g, 0, none⟩) (xs.length + 1) cap)) w') :
 wpList Tryz.prog ops Q (o :: rest) a (w.alloc (.cells #[.int .i64 y] 3)) := by
 obtain ⟨i0, hi, hz0, hz1, hz2⟩ := info_parts info_int
 refine wpList_plain hgd fun K hK => ?_
 refine wp_append_lies _ s x 24 ho base 3 i0 (.int .i64 0) 1 8 Tryz.underlying24 hi hz0 hz1 hz2 rfl (by decide) v xs.length (xs.map (Value.int .i64)) hs (own_ext hown (Ext.alloc w _)) ⟨w.heap.size, 0, none⟩ 1 1 [.int .i64 y] hx rfl (one_cell w _ _) (by simp [Value.oneCell']) (by decide) (by unfold maxLen; omega) (by omega) (by simp; omega) (w.heap.size + 1) (by simp) ?_
 intro g cap w' h1 h2 h3 h4
 exact hK _ _ (h g cap w' (by unfold OwnI; rw [List.length_append, List.map_append]; exact h1) (((Ext.alloc w _).chg _).trans (grown_chg h2)) h3 h4)
set_option maxRecDepth 100000 in
set_option maxHeartbeats 2000000 in
theorem appendSeq_any (xs : List Int) (gf : FuncId) (lb : Array Value) (Rk : Nat → Prop) (w : World) (hit : Iter Tryz.prog gf lb (fun y : Int => #[.int .i64 y]) xs Rk w) (hf : Fv Tryz.prog gf) (hRk : ∀ k, Rk k → k < w.heap.size) (hl : xs.length ≤ 1000000) :
 Calls Tryz.prog 130 #[.slice none 0 0, .func (.func gf) #[] lb] w fun e w' => ∃ v, e = .returned v ∧ OwnI w' w.heap.size v xs ∧ Ext w w' := by
 have HIT := Lib.hid (hit.ext (Ext.alloc w (.cells #[.slice none 0 0] 24)))
 have HRK := Lib.hid hRk
 have HV := Lib.hid (Var1.new w 24 (.slice none 0 0))
 have HE := Lib.hid (Ext.alloc w (.cells #[.slice none 0 0] 24))
 clear hit hRk
 refine calls_marks Tryz.func130 rfl ?_
 simp only [Tryz.ntmps130, List.size_toArray, List.length_cons, List.length_nil, Nat.reduceAdd, Nat.reduceSub, Array.replicate_succ, Array.replicate_zero, List.push_toArray, List.append_toArray, List.nil_append, List.cons_append]
 go_wp2
 generalize hw1 : w.alloc (.cells #[.slice none 0 0] 24) = w1 at HIT HV HE ⊢
 have hz1 : w1.heap.size = w.heap.size + 1 := by rw [← hw1]; simp
 clear hw1
 have hz2 : w1.heap.size ≤ w.heap.size + 1 := by omega
 have hz3 : w.heap.size + 1 ≤ w1.heap.size := by omega
 clear hz1
 refine wp_range HIT.out rfl hf (fun k hk => by have := HRK.out k hk; omega) (fun _ => rfl)
  (fun pre T W => ∃ v, Var1 W w.heap.size 24 v ∧ OwnI W (w.heap.size + 1) v pre ∧ (∀ b, v.ownBlock = some b → ¬ T b) ∧ (∀ i, T i → w1.heap.size ≤ i ∧ i < W.heap.size) ∧ w1.heap.size ≤ W.heap.size ∧ Chg (fun i => w.heap.size ≤ i) w1 W)
  (fun _ _ _ _ => False) ?hI (fun _ => fun _ _ _ _ _ h _ _ _ _ => h.elim) ⟨_, HV.out, OwnI.nil _ _, fun b hb => by simp [Value.ownBlock] at hb, fun _ h => h.elim, Nat.le_refl _, Chg.refl _ _⟩
  (fun y => ⟨#[.slice none 0 0, .func (.func gf) #[] lb, .pointer (some ⟨w.heap.size, 0, none⟩), undef, .slice none 0 0, .int .i64 y, .func (.func gf) #[] lb, .int .i64 y, undef, undef, undef, undef, undef], []⟩) ?assign ?body ?done ?stop
 case hI =>
  rintro s T T' A C ⟨v, hv, ho, hvT, hT, hs, hc⟩ hch h1 h2 h3
  refine ⟨v, (hch.block _ hv.lt (fun h => by have := (hT _ h).1; omega)).trans hv, hch.own ho (fun b hb => hvT b hb), fun b hb h => ?_, fun i hi => ⟨?_, h3 i hi⟩, Nat.le_trans hs hch.size, hc.trans (hch.mono fun i hi => by have := (hT i hi).1; omega)⟩
  · rcases h2 b h with h4 | h4
    · exact hvT b hb h4
    · have := (own_typed ho hb).2.1; omega
  · rcases h2 i hi with h4 | h4
    · exact (hT i h4).1
    · omega
 case assign =>
  intro l y W K hK
  gi_wp2
  exact hK
 case body =>
  rintro l pre y T W ⟨v, hv, ho, hvT, hT, hs, hc⟩ hpre hTw hWs
  have hpl : pre.length ≤ 1000000 := by have := hpre.length_le; rw [List.length_append] at this; omega
  have hvc := hv.cell
  have HO := Lib.hid ho
  have HVT := Lib.hid hvT
  have HT := Lib.hid hT
  have HC := Lib.hid hc
  have HV2 := Lib.hid hv
  have hbase : w.heap.size + 1 ≤ W.heap.size := by omega
  obtain ⟨A, c, hve, h1, h2, -⟩ := OwnI.reads ho
  rw [hve] at hvc
  have HVE := Lib.hid hve
  have hTl : ∀ i, T i → i < W.heap.size := fun i hi => (hT i hi).2
  have HTL := Lib.hid hTl
  clear ho hvT hT hc hv hpre hTw hWs hve hTl
  refine wpIn_block ?_
  refine region_in (l := l) (fun h => by obtain ⟨_, _, h⟩ := h; exact h) (by rfl) ?_
  go_wp2_with (at_builtin
               refine app_1l rfl (.tmp 8) (.tmp 10) rfl (base := w.heap.size + 1) (v := .slice A pre.length c) (xs := pre) (y := y) rfl rfl (by rw [← HVE.out]; exact HO.out) (by omega) hbase ?_
               intro g cap w5 hown hch hat hlt
               have hne : ∀ b, (Value.slice A pre.length c).ownBlock = some b → ¬ T b ∧ w.heap.size + 1 ≤ b := fun b hb => by rw [← HVE.out] at hb; exact ⟨HVT.out b hb, (own_typed HO.out hb).1⟩
               have hv5 : Var1 w5 w.heap.size 24 v := (hch.block _ HV2.out.lt (fun e => by have := (hne _ e.symm).2; omega)).trans HV2.out
               have hv5c := hv5.cell
               have hv5f := hv5.free
               have HV5 := Lib.hid hv5
               have HO5 := Lib.hid hown
               have HCH := Lib.hid hch
               have HAT := Lib.hid hat
               have HLT := Lib.hid hlt
               have HNE := Lib.hid hne
               clear hown hch hat hlt hne hv5)
  have hgw : w.heap.size + 1 ≤ g := HAT.out.elim (fun h => (HNE.out g h).2) (fun h => by omega)
  have hset := Chg.set w5 w.heap.size 0 (.slice (some ⟨g, 0, none⟩) (pre.length + 1) cap)
  refine ⟨?_, _, HV5.out.set _, hset.own HO5.out (fun b hb e => by injection hb with hb; have hb' : g = b := hb; omega), fun b hb h => ?_, fun i hi => ⟨(HT.out i hi).1, ?_⟩, ?_, ?_⟩
  · refine (HCH.out.mono fun i hi h => ?_).trans (hset.mono fun i hi h => ?_)
    · rcases h with h | h
      · have := HRK.out i h; have := (HNE.out i hi.symm).2; omega
      · exact (HNE.out i hi.symm).1 h
    · rcases h with h | h
      · have := HRK.out i h; omega
      · have := (HT.out i h).1; omega
  · injection hb with hb
    have hb' : g = b := hb
    subst hb'
    rcases HAT.out with h4 | h4
    · exact (HNE.out g h4).1 h
    · have := HTL.out g h; omega
  · have h1 := HCH.out.size
    have h2 := HTL.out i hi
    have h3 := hset.size
    omega
  · have h1 := HCH.out.size
    have h3 := hset.size
    omega
  · exact HC.out.trans ((HCH.out.mono fun i hi => by have := (HNE.out i hi.symm).2; omega).trans (hset.mono fun i hi => by omega))
 case done =>
  rintro D T W hD hTD ⟨v, hv, ho, hvT, hT, hs, hc⟩ hK
  obtain ⟨A, c, hve, h1, h2, -⟩ := OwnI.reads ho
  subst hve
  have hcv := hv.cell
  have HO := Lib.hid ho
  have HK := Lib.hid hK
  have HDV : Hid (∀ b, (Value.slice A xs.length c).ownBlock = some b → ¬ b = D) := Lib.hid (fun b hb e => hvT b hb (e ▸ hTD))
  have HEW := Lib.hid (hc.toExt HE.out (fun i hi => hi))
  clear ho hK hvT hT hc hTD hv
  go_wp2
  refine ret_mark (v := .slice A xs.length c) (fun _ => by simp [results, Tryz.results130, go_sem]) rfl HK.out ?_
  exact ⟨_, rfl, (putObj_chg W D (.deferred none)).own (own_lower HO.out (by omega)) (fun b hb e => HDV.out b hb e), (putObj_chg W D (.deferred none)).toExt HEW.out (fun i e => by omega)⟩
 case stop =>
  intro D c pre T W _ _ _ h _
  exact h.elim
end Go.Proofs.YtjecjaihficcdaaGreat
namespace Go.Proofs.YtjecjaihficcdaaGreat
open Go.RowKit
section
variable {α : Type} [Inhabited α] {enc : α → Value}
theorem holds_blk {w : World} {g : Nat} {cur : Array Value} {e : TypeId} {ss : List α} (hb : w.heap[g]? = some (.cells cur e (0, 0))) (ht : cur.toList.take ss.length = ss.map enc) : Sort.Holds enc w g 0 ss.toArray := by
 have hB : Blk w g e cur.toList := by unfold Blk; simpa using hb
 intro j hj
 have hj' : j < ss.length := by simpa using hj
 refine ⟨?_, hB.free _⟩
 rw [Nat.zero_add, hB.cell]
 have h1 := congrArg (fun l => l[j]?) ht
 simp only [List.getElem?_take, if_pos hj', List.getElem?_map, List.getElem?_eq_getElem hj', Option.map_some] at h1
 rw [h1]
 simp [hj']
theorem sortW_heap {w : World} {g n : Nat} {os : Array Obj} {cur : Array Value} {e : TypeId} (d : Array α) (hb : w.heap[g]? = some (.cells cur e (0, 0))) :
 (sortWorld enc w g 0 n d os).heap[g]? = some (.cells (Sort.putCells enc 0 d cur) e (0, 0)) := by
 unfold sortWorld
 rw [Sort.heap_grow_old]
 · simp [Sort.putRow, Sort.mapBlock, Sort.ahead, Array.getElem?_modify, hb, Sort.onCells]
 · simpa using (Array.getElem?_eq_some_iff.1 hb).1
theorem sortW_grown {w : World} {g n : Nat} {os : Array Obj} (d : Array α) : w.grownBy (sortWorld enc w g 0 n d os) (some g) := by
 refine ⟨rfl, rfl, rfl, by simp [sortWorld], fun k hk hne => ?_⟩
 unfold sortWorld
 rw [Sort.heap_grow_old]
 · have : ¬ g = k := fun e => hne (by rw [e])
   simp [Sort.putRow, Sort.mapBlock, Sort.ahead, Array.getElem?_modify, this]
 · simpa using hk
theorem take_putc (cur : Array Value) (ts : List α) (h : ts.length ≤ cur.size) : (Sort.putCells enc 0 ts.toArray cur).toList.take ts.length = ts.map enc := by
 apply List.ext_getElem?
 intro j
 rw [List.getElem?_take, List.getElem?_map]
 by_cases hj : j < ts.length
 · rw [if_pos hj, Array.getElem?_toList]
   simp [Sort.putCells, hj, show j < cur.size by omega]
 · rw [if_neg hj, List.getElem?_eq_none (by omega)]; rfl
end
end Go.Proofs.YtjecjaihficcdaaGreat
namespace Go.Proofs.YtjecjaihficcdaaGreat
open Go.RowKit
set_option maxHeartbeats 400000 in
theorem or_any (a b : Int) (g : Nat) (w : World) (h0 : w.cell? ⟨g, 0, none⟩ = some (.int .i64 a)) (h1 : w.cell? ⟨g, 1, none⟩ = some (.int .i64 b)) :
 Calls Tryz.prog 93 #[.slice (some ⟨g, 0, none⟩) 2 2] w fun e w' => e = .returned (.int .i64 (if a = 0 then b else a)) ∧ w = w' := by
 obtain ⟨r, hr⟩ : ∃ r, r = if a = 0 then b else a := ⟨_, rfl⟩
 rw [← hr]
 have HR := Lib.hid hr
 clear hr
 go_enter Tryz.func93, Tryz.ntmps93
 go_wp2
 go_loopg [8] 2 (fun gn i wr => w = wr ∧ ((i = .int .i64 0 ∧ gn = 2) ∨ (i = .int .i64 1 ∧ gn = 1 ∧ Hid (a = 0)) ∨ (i = .int .i64 2 ∧ gn = 0 ∧ Hid (a = 0) ∧ Hid (b = 0))))
 case atStart => exact ⟨rfl, .inl ⟨rfl, rfl⟩⟩
 case round =>
  obtain ⟨rfl, ⟨rfl, rfl⟩ | ⟨rfl, rfl, HA⟩ | ⟨rfl, rfl, HA, HB⟩⟩ := hrel
  · by_cases ha : a = 0
    · have hb : (a != 0) = false := by simp [ha]
      have HA := Lib.hid ha
      clear ha
      go_wp2
      go_roundg 1
      case measure => omega
      case rel => exact ⟨rfl, .inr (.inl ⟨by go_num, rfl, HA⟩)⟩
    · have hb : (a != 0) = true := by simpa using ha
      go_wp2
      go_ret
      exact ⟨ret_int (by rw [HR.out, if_neg ha]), rfl⟩
  · by_cases ha : b = 0
    · have hb : (b != 0) = false := by simp [ha]
      have HB := Lib.hid ha
      clear ha
      go_wp2
      go_roundg 0
      case measure => omega
      case rel => exact ⟨rfl, .inr (.inr ⟨by go_num, rfl, HA, HB⟩)⟩
    · have hb : (b != 0) = true := by simpa using ha
      go_wp2
      go_ret
      exact ⟨ret_int (by rw [HR.out, if_pos HA.out]), rfl⟩
  · go_wp2
    go_ret
    exact ⟨ret_int (by rw [HR.out, if_pos HA.out, HB.out]), rfl⟩
def ordE (x y : Int) : Int := if cmpI (varOf x) (varOf y) = 0 then cmpI x y else cmpI (varOf x) (varOf y)
set_option maxHeartbeats 400000 in
theorem orderE_any (x y : Int) (hx : I64 x) (hy : I64 y) (w : World) : Calls Tryz.prog 41 #[.int .i64 x, .int .i64 y] w fun e w' => e = .returned (.int .i64 (ordE x y)) ∧ ∃ o, w' = w.alloc o := by
 unfold ordE
 obtain ⟨a, ha⟩ : ∃ a, a = cmpI (varOf x) (varOf y) := ⟨_, rfl⟩
 obtain ⟨b, hb⟩ : ∃ b, b = cmpI x y := ⟨_, rfl⟩
 rw [← ha, ← hb]
 have HV := Lib.hid (fun w' => cmp_any (varOf x) (varOf y) w')
 have HX := Lib.hid (fun w' => cmp_any x y w')
 rw [← ha] at HV
 rw [← hb] at HX
 have b0 := Blk.new w 3 [.int .i64 a, .int .i64 b]
 have HO := Lib.hid (or_any a b w.heap.size _ (b0.cell 0) (b0.cell 1))
 clear ha hb b0
 obtain ⟨vx, hvx⟩ : ∃ v, v = varOf x := ⟨_, rfl⟩
 obtain ⟨vy, hvy⟩ : ∃ v, v = varOf y := ⟨_, rfl⟩
 have HVX := Lib.hid (fun w' => var_any x hx w')
 have HVY := Lib.hid (fun w' => var_any y hy w')
 rw [← hvx] at HVX HV
 rw [← hvy] at HVY HV
 clear hvx hvy
 go_enter Tryz.func41, Tryz.ntmps41
 go_wp2_with (first
  | (go_at_call_of 36 (Value.int .i64 x); refine (HVX.out _).mono ?_; rintro e w' ⟨rfl, rfl⟩)
  | (go_at_call_of 36 (Value.int .i64 y); refine (HVY.out _).mono ?_; rintro e w' ⟨rfl, rfl⟩)
  | (go_at_call_of 94 (Value.int .i64 vx); refine (HV.out _).mono ?_; rintro e w' ⟨rfl, rfl⟩)
  | (go_at_call_of 94 (Value.int .i64 x); refine (HX.out _).mono ?_; rintro e w' ⟨rfl, rfl⟩)
  | (go_at_call 93; refine HO.out.mono ?_; rintro e w' ⟨rfl, rfl⟩))
 all_goals
  go_ret
  exact ⟨rfl, _, rfl⟩
def elt (x y : Int) : Prop := varOf x < varOf y ∨ (varOf x = varOf y ∧ x < y)
instance (x y : Int) : Decidable (elt x y) := by unfold elt; infer_instance
theorem ordE_neg (x y : Int) : ordE x y < 0 ↔ elt x y := by
 unfold ordE elt
 by_cases h : cmpI (varOf x) (varOf y) = 0
 · rw [if_pos h, cmpI_neg]
   have := cmpI_zero.1 h
   omega
 · rw [if_neg h, cmpI_neg]
   have : ¬ varOf x = varOf y := fun e => h (cmpI_zero.2 e)
   omega
theorem elt_blt {x y : Int} (hx : varOf x ≠ 0) (hy : varOf y ≠ 0) : elt x y ↔ blt x y := by
 have := varOf_eq hx
 have := varOf_eq hy
 unfold elt blt
 omega
abbrev Z64 : Type := { x : Int // I64 x }
instance : Inhabited Z64 := ⟨⟨0, by unfold I64; omega⟩⟩
def zF (x y : Z64) : Int := ordE x.1 y.1
theorem zF_lt (x y : Z64) : ltOf zF x y = decide (elt x.1 y.1) := by
 unfold ltOf zF
 rw [decide_eq_decide]
 exact ordE_neg _ _
theorem swo_z : Sort.SWO (ltOf zF) := by
 refine ⟨fun x => ?_, fun x y z h k => ?_, fun x y z h k => ?_⟩
 · rw [zF_lt, decide_eq_false_iff_not]; unfold elt; omega
 · rw [zF_lt, decide_eq_true_eq] at *; unfold elt at *; omega
 · rw [zF_lt, decide_eq_false_iff_not] at *; unfold elt at *; omega
theorem all64_z {xs : List Int} (h : All64 xs) : ∃ zs : List Z64, zs.map Subtype.val = xs := by
 induction xs with
 | nil => exact ⟨[], rfl⟩
 | cons x xs ih =>
   obtain ⟨zs, hz⟩ := ih (fun y hy => h y (by simp [hy]))
   exact ⟨⟨x, h x (by simp)⟩ :: zs, by rw [List.map_cons, hz]⟩
theorem SortE_own (xs : List Int) (v : Value) (base : Nat) (w : World) (h : OwnI w base v xs) (hl : xs.length ≤ 100000000) (h64 : All64 xs) :
 Calls Tryz.prog 51 #[v, .func (.func 41) #[] #[]] w fun e w' => ∃ ys, e = .returned (.tuple #[]) ∧ OwnI w' base v ys ∧ w.grownBy w' v.ownBlock ∧ ys.Perm xs ∧ ys.Pairwise fun a b => ¬ elt b a := by
 obtain ⟨zs, rfl⟩ := all64_z h64
 unfold OwnI at h ⊢
 rw [List.length_map] at h hl
 rw [List.map_map] at h
 obtain ⟨-, ⟨rfl, h0⟩ | ⟨g, cap, cur, rfl, hb, hg, hn, hm, hs, ht⟩⟩ := h
 · have : zs = [] := List.length_eq_zero_iff.1 h0
   subst this
   refine (AnyF.slices_SortFunc_none (P := Tryz.prog) (ρ := Tryz.laysSlF6_f51_ren) { Tryz.laysSlF6_f51 with } none 0 _ w).mono ?_
   rintro e w' ⟨rfl, rfl⟩
   exact ⟨[], rfl, World.ownsRow_nil _ _ _ 1, ⟨rfl, rfl, rfl, Nat.le_refl _, fun _ _ _ => rfl⟩, List.Perm.refl _, List.Pairwise.nil⟩
 · rw [Nat.mul_one] at ht
   have hhold := holds_blk (enc := fun z : Z64 => Value.int .i64 z.1) hg ht
   refine (Tryz.slices_SortFunc_f51 (fun z : Z64 => Value.int .i64 z.1) (fun _ => rfl) zF swo_z 41 #[] g 0 cap zs.toArray w (enters_of Tryz.func41 (by kernel_rfl) rfl)
    (fun m os dk _ x y => (orderE_any x.1 y.1 x.2 y.2 _).mono fun e w' ⟨he, o, ho⟩ => ⟨he, 0, #[o], by rw [ho, grow_one]⟩)
    hhold (Array.getElem?_eq_some_iff.1 hg).1 (by simp; omega)).mono ?_
   rintro e w' ⟨rfl, d', n, os, ⟨hsz, -, hperm⟩, hsort, rfl⟩
   have hdl : d'.toList.length = zs.length := by simpa using hsz
   have hp : d'.toList.Perm zs := by
    have h1 : d'.extract 0 zs.toArray.size = d' := by rw [← hsz]; simp
    have h2 : zs.toArray.extract 0 zs.toArray.size = zs.toArray := by simp
    rw [h1, h2] at hperm
    simpa using hperm
   refine ⟨d'.toList.map Subtype.val, rfl, ?_, ?_, hp.map Subtype.val, ?_⟩
   · have h3 := sortW_heap (enc := fun z : Z64 => Value.int .i64 z.1) (n := n) (os := os) d' hg
     have h4 := take_putc (enc := fun z : Z64 => Value.int .i64 z.1) cur d'.toList (by omega)
     rw [hdl] at h4
     refine ⟨by simp, .inr ⟨g, cap, _, by simp [hdl], hb, h3, by simpa [hdl] using hn, hm, by simp [Sort.putCells, hs], ?_⟩⟩
     rw [List.length_map, hdl, Nat.mul_one, List.map_map]
     simpa using h4
   · exact sortW_grown d'
   · rw [List.pairwise_map, List.pairwise_iff_getElem]
     intro i j hi hj hij
     have := hsort i j (Nat.zero_le _) hij (by simp; omega)
     rw [zF_lt, decide_eq_false_iff_not] at this
     have hi' : i < d'.size := by simpa using hi
     have hj' : j < d'.size := by simpa using hj
     rw [getElem!_pos d' i hi', getElem!_pos d' j hj'] at this
     simpa using this
theorem sortE_set {xs ys : List Int} (hp : ys.Perm xs) (hs : ys.Pairwise fun a b => ¬ elt b a) (hn : xs.Nodup) (hv : ∀ x ∈ xs, varOf x ≠ 0) : ys = setL [] xs := by
 have hn' : ys.Nodup := hp.nodup_iff.2 hn
 have h1 : ys.Pairwise blt := by
  have h2 : ys.Pairwise fun a b => a ≠ b ∧ ¬ elt b a := by
   rw [List.pairwise_and_iff]; exact ⟨hn', hs⟩
  refine h2.imp_of_mem fun {a b} ha hb hab => ?_
  have va := hv a (hp.mem_iff.1 ha)
  have vb := hv b (hp.mem_iff.1 hb)
  rcases blt_tri a b with h3 | h3 | h3
  · exact h3
  · exact absurd h3 hab.1
  · exact absurd ((elt_blt vb va).2 h3) hab.2
 exact sorted_ext blt_asym h1 (setL_sorted xs List.Pairwise.nil) fun x => by rw [hp.mem_iff, mem_setL]; simp
theorem sortE_compact {xs ys : List Int} (hp : ys.Perm xs) (hs : ys.Pairwise fun a b => ¬ elt b a) (hv : ∀ x ∈ xs, varOf x ≠ 0) : Lib.compact ys = setL [] xs :=
 compact_setL (fun _ => hp.mem_iff) (hs.imp_of_mem fun {a b} ha hb hab h => hab ((elt_blt (hv b (hp.mem_iff.1 hb)) (hv a (hp.mem_iff.1 ha))).2 h))
end Go.Proofs.YtjecjaihficcdaaGreat
namespace Go.Proofs.YtjecjaihficcdaaGreat
def nbC (y : Int) : List Int → List Int
 | [a, b] => (if -a = y then [b] else []) ++ (if -b = y then [a] else [])
 | _ => []
def nbL (f : List (List Int)) (y : Int) : List Int := f.flatMap (nbC y)
def addN (l : List Int) (y : Int) : List Int := if y ∈ l then l else l ++ [y]
def addAll (l ys : List Int) : List Int := ys.foldl addN l
def bfs (nb : Int → List Int) : Nat → Nat → List Int → List Int
 | 0, _, l => l
 | n + 1, i, l => if h : i < l.length then bfs nb n (i + 1) (addAll l (nb l[i])) else l
def reachL (f : List (List Int)) (x : Int) : List Int := bfs (nbL f) (2 * f.length + 2) 0 [x]
inductive Rch (nb : Int → List Int) (x : Int) : Int → Prop
 | start : Rch nb x x
 | step {y z : Int} : Rch nb x y → z ∈ nb y → Rch nb x z
theorem Rch.trans {nb : Int → List Int} {x y z : Int} (h : Rch nb x y) (k : Rch nb y z) : Rch nb x z := by
 induction k with
 | start => exact h
 | step _ hz ih => exact ih.step hz
theorem nodup_len : ∀ (l u : List Int), l.Nodup → (∀ x ∈ l, x ∈ u) → l.length ≤ u.length
 | [], _, _, _ => by simp
 | x :: l, u, hn, hs => by
   rw [List.nodup_cons] at hn
   have hx := hs x (by simp)
   have h1 := nodup_len l (u.erase x) hn.2 (fun y hy => (List.mem_erase_of_ne (fun e => hn.1 (by rw [← e]; exact hy))).2 (hs y (by simp [hy])))
   rw [List.length_erase_of_mem hx] at h1
   have := List.length_pos_of_mem hx
   simp only [List.length_cons]
   omega
theorem addN_mem (l : List Int) (y z : Int) : z ∈ addN l y ↔ z ∈ l ∨ z = y := by
 unfold addN
 split
 · exact ⟨.inl, fun h => h.elim id (fun h => by rw [h]; assumption)⟩
 · simp
theorem addN_nodup {l : List Int} (y : Int) (h : l.Nodup) : (addN l y).Nodup := by
 unfold addN
 split
 · exact h
 · rename_i hn
   rw [List.nodup_append]
   exact ⟨h, by simp, fun a ha b hb e => by simp at hb; subst hb; subst e; exact hn ha⟩
theorem addN_pre (l : List Int) (y : Int) : ∃ r, addN l y = l ++ r := by
 unfold addN
 split
 · exact ⟨[], by simp⟩
 · exact ⟨_, rfl⟩
theorem addAll_cons (l : List Int) (y : Int) (ys : List Int) : addAll l (y :: ys) = addAll (addN l y) ys := rfl
theorem addAll_snoc (l ys : List Int) (y : Int) : addAll l (ys ++ [y]) = addN (addAll l ys) y := by unfold addAll; rw [List.foldl_append]; rfl
theorem addAll_mem : ∀ (ys l : List Int) (z : Int), z ∈ addAll l ys ↔ z ∈ l ∨ z ∈ ys
 | [], l, z => by simp [addAll]
 | y :: ys, l, z => by rw [addAll_cons, addAll_mem ys, addN_mem]; simp [or_assoc]
theorem addAll_nodup : ∀ (ys : List Int) {l : List Int}, l.Nodup → (addAll l ys).Nodup
 | [], _, h => h
 | y :: ys, _, h => by rw [addAll_cons]; exact addAll_nodup ys (addN_nodup y h)
theorem addAll_pre : ∀ (ys l : List Int), ∃ r, addAll l ys = l ++ r
 | [], l => ⟨[], by simp [addAll]⟩
 | y :: ys, l => by
   obtain ⟨r, hr⟩ := addN_pre l y
   obtain ⟨r', hr'⟩ := addAll_pre ys (addN l y)
   exact ⟨r ++ r', by rw [addAll_cons, hr', hr, List.append_assoc]⟩
theorem addAll_len (l ys : List Int) : l.length ≤ (addAll l ys).length := by
 obtain ⟨r, hr⟩ := addAll_pre ys l
 rw [hr]; simp
structure BfsInv (nb : Int → List Int) (x : Int) (i : Nat) (l : List Int) : Prop where
 nodup : l.Nodup
 mem : x ∈ l
 sound : ∀ y ∈ l, Rch nb x y
 done : ∀ (j : Nat) (h : j < l.length), j < i → ∀ z ∈ nb l[j], z ∈ l
theorem BfsInv.start (nb : Int → List Int) (x : Int) : BfsInv nb x 0 [x] :=
 ⟨by simp, by simp, fun y hy => by simp at hy; subst hy; exact .start, fun j _ h => absurd h (Nat.not_lt_zero j)⟩
theorem BfsInv.step {nb : Int → List Int} {x : Int} {i : Nat} {l : List Int} (h : BfsInv nb x i l) (hi : i < l.length) : BfsInv nb x (i + 1) (addAll l (nb l[i])) := by
 refine ⟨addAll_nodup _ h.nodup, (addAll_mem _ _ _).2 (.inl h.mem), fun y hy => ?_, fun j hj hji z hz => ?_⟩
 · rcases (addAll_mem _ _ _).1 hy with h1 | h1
   · exact h.sound y h1
   · exact (h.sound _ (List.getElem_mem hi)).step h1
 · obtain ⟨r, hr⟩ := addAll_pre (nb l[i]) l
   have hjl : j < l.length := by omega
   have e : (addAll l (nb l[i]))[j] = l[j] := by
    have : (addAll l (nb l[i]))[j]? = l[j]? := by rw [hr, List.getElem?_append_left hjl]
    rw [List.getElem?_eq_getElem hj, List.getElem?_eq_getElem hjl] at this
    exact Option.some.inj this
   rw [e] at hz
   rw [addAll_mem]
   rcases Nat.lt_or_ge j i with h1 | h1
   · exact .inl (h.done j hjl h1 z hz)
   · obtain rfl : j = i := by omega
     exact .inr hz
theorem bfs_spec (nb : Int → List Int) (x : Int) (u : List Int) (hu : ∀ y ∈ u, ∀ z ∈ nb y, z ∈ u) : ∀ (n i : Nat) (l : List Int), BfsInv nb x i l → (∀ y ∈ l, y ∈ u) → u.length + 1 ≤ n + i → i ≤ l.length →
 (bfs nb n i l).Nodup ∧ (∀ y ∈ bfs nb n i l, y ∈ u) ∧ ∀ y, y ∈ bfs nb n i l ↔ Rch nb x y := by
 intro n
 induction n with
 | zero =>
   intro i l h hs hn hi
   have := nodup_len l u h.nodup hs
   omega
 | succ n ih =>
   intro i l h hs hn hi
   unfold bfs
   split
   · rename_i hil
     exact ih (i + 1) _ (h.step hil) (fun y hy => ((addAll_mem _ _ _).1 hy).elim (hs y) (fun hz => hu _ (hs _ (List.getElem_mem hil)) y hz)) (by omega) (by have := addAll_len l (nb l[i]); omega)
   · rename_i hil
     refine ⟨h.nodup, hs, fun y => ⟨h.sound y, fun hr => ?_⟩⟩
     induction hr with
     | start => exact h.mem
     | step _ hz ih' =>
       obtain ⟨j, hj, rfl⟩ := List.getElem_of_mem ih'
       exact h.done j hj (by omega) _ hz
def lits2 (f : List (List Int)) : List Int := f.flatMap fun c => if c.length = 2 then c else []
theorem lits2_len : ∀ f : List (List Int), (lits2 f).length ≤ 2 * f.length
 | [] => by simp [lits2]
 | c :: f => by
   have := lits2_len f
   unfold lits2 at *
   rw [List.flatMap_cons, List.length_append, List.length_cons]
   split <;> simp_all <;> omega
theorem nbC_mem {y z : Int} {c : List Int} (h : z ∈ nbC y c) : c.length = 2 ∧ z ∈ c ∧ -y ∈ c := by
 unfold nbC at h
 split at h
 · rename_i a b
   rw [List.mem_append] at h
   rcases h with h | h
   · split at h
     · rename_i e; subst e; simp at h; subst h; simp
     · cases h
   · split at h
     · rename_i e; subst e; simp at h; subst h; simp
     · cases h
 · cases h
theorem nbL_mem {f : List (List Int)} {y z : Int} (h : z ∈ nbL f y) : z ∈ lits2 f ∧ -y ∈ lits2 f := by
 unfold nbL at h
 rw [List.mem_flatMap] at h
 obtain ⟨c, hc, hz⟩ := h
 obtain ⟨h1, h2, h3⟩ := nbC_mem hz
 unfold lits2
 rw [List.mem_flatMap, List.mem_flatMap]
 exact ⟨⟨c, hc, by rw [if_pos h1]; exact h2⟩, ⟨c, hc, by rw [if_pos h1]; exact h3⟩⟩
theorem reachL_spec (f : List (List Int)) (x : Int) : (reachL f x).Nodup ∧ (∀ y ∈ reachL f x, y = x ∨ y ∈ lits2 f) ∧ ∀ y, y ∈ reachL f x ↔ Rch (nbL f) x y := by
 have := bfs_spec (nbL f) x (x :: lits2 f) (fun y _ z hz => by simp [(nbL_mem hz).1]) (2 * f.length + 2) 0 [x] (.start _ _) (by simp) (by have := lits2_len f; simp; omega) (by simp)
 exact ⟨this.1, fun y hy => by simpa using this.2.1 y hy, this.2.2⟩
theorem reachL_len (f : List (List Int)) (x : Int) : (reachL f x).length ≤ 2 * f.length + 1 := by
 obtain ⟨h1, h2, -⟩ := reachL_spec f x
 have := nodup_len _ (x :: lits2 f) h1 (fun y hy => by simpa using h2 y hy)
 have := lits2_len f
 simp at *; omega
def ReachV (f : List (List Int)) (x : Int) : List Int := if varOf x = 0 ∨ mayCnfB f = false then [] else setL [] (reachL f x)
def graphLits (f : List (List Int)) : List Int := setL [] ((lits2 f).flatMap fun x => [x, -x])
def FailV (f : List (List Int)) : List Int := if mayCnfB f = false then [] else (graphLits f).filter fun x => decide (-x ∈ reachL f x)
theorem mem_graphLits (f : List (List Int)) (x : Int) : x ∈ graphLits f ↔ x ∈ lits2 f ∨ -x ∈ lits2 f := by
 unfold graphLits
 rw [mem_setL, List.mem_flatMap]
 constructor
 · rintro (h | ⟨y, hy, h⟩)
   · cases h
   · simp at h
     rcases h with rfl | rfl
     · exact .inl hy
     · exact .inr (by simpa using hy)
 · rintro (h | h)
   · exact .inr ⟨x, h, by simp⟩
   · exact .inr ⟨-x, h, by simp⟩
end Go.Proofs.YtjecjaihficcdaaGreat
namespace Go.Proofs.YtjecjaihficcdaaGreat
def fset {α : Type} (m : Int → α) (n : Int) (v : α) : Int → α := fun k => if k = n then v else m k
theorem fset_same {α : Type} (m : Int → α) (n : Int) (v : α) : fset m n v n = v := if_pos rfl
theorem fset_ne {α : Type} (m : Int → α) {n k : Int} (v : α) (h : k ≠ n) : fset m n v k = m k := if_neg h
structure Tj where
 num : Int → Int
 low : Int → Int
 on : Int → Bool
 cnt : Nat
 path : List Int
 cls : List (List Int)
 work : List (Int × Nat)
def tEnter (s : Tj) (x : Int) : Tj := { s with num := fset s.num x (s.cnt + 1), low := fset s.low x (s.cnt + 1), on := fset s.on x true, path := s.path ++ [x], cnt := s.cnt + 1 }
def tLeave (s : Tj) (x : Int) : Tj :=
 { s with on := fun y => if y ∈ s.path.drop (s.path.idxOf x) then false else s.on y, path := s.path.take (s.path.idxOf x), cls := s.cls ++ [s.path.drop (s.path.idxOf x)] }
def tUp (s : Tj) (x : Int) : List (Int × Nat) → Tj
 | [] => s
 | (up, _) :: _ => { s with low := fset s.low up (min (s.low up) (s.low x)) }
def tPop (s : Tj) (x : Int) (rest : List (Int × Nat)) : Tj :=
 let s2 := tUp { s with work := rest } x rest
 if s2.low x = s2.num x then tLeave s2 x else s2
def tStep (nb : Int → List Int) (s : Tj) : Tj :=
 match s.work with
 | [] => s
 | (x, k) :: rest =>
   if h : k < (nb x).length then
    if s.num (nb x)[k] = 0 then { tEnter s (nb x)[k] with work := ((nb x)[k], 0) :: (x, k + 1) :: rest }
    else if s.on (nb x)[k] = true then { s with low := fset s.low x (min (s.low x) (s.num (nb x)[k])), work := (x, k + 1) :: rest }
    else { s with work := (x, k + 1) :: rest }
   else tPop s x rest
structure Fr where
 x : Int
 k : Nat
 r : List Int
def pathOf : List Fr → List Int
 | [] => []
 | f :: fs => pathOf fs ++ (f.x :: f.r)
theorem mem_pathOf (fr : List Fr) (y : Int) : y ∈ pathOf fr ↔ ∃ f ∈ fr, y = f.x ∨ y ∈ f.r := by
 induction fr with
 | nil => simp [pathOf]
 | cons f fs ih => simp only [pathOf, List.mem_append, List.mem_cons, ih, exists_eq_or_imp]; exact or_comm
structure TI (nb : Int → List Int) (s : Tj) (fr : List Fr) : Prop where
 work : s.work = fr.map fun f => (f.x, f.k)
 path : s.path = pathOf fr
 sorted : s.path.Pairwise fun a b => s.num a < s.num b
 onp : ∀ y, s.on y = true ↔ y ∈ s.path
 ent : ∀ y, s.num y ≠ 0 ↔ y ∈ s.path ∨ y ∈ s.cls.flatten
 pos : ∀ y, 0 ≤ s.num y ∧ s.num y ≤ s.cnt
 disj : ∀ y ∈ s.path, y ∉ s.cls.flatten
 lowle : ∀ y ∈ s.path, s.low y ≤ s.num y
 lowr : ∀ y ∈ s.path, ∃ u ∈ s.path, s.num u = s.low y ∧ Rch nb y u
 frx : ∀ f ∈ fr, ∀ v ∈ f.r, Rch nb f.x v ∧ s.low v < s.num v ∧ s.low f.x ≤ s.low v ∧ ∀ z ∈ nb v, s.num z ≠ 0 ∧ (z ∈ s.path → s.low v ≤ s.num z)
 frk : ∀ f ∈ fr, f.k ≤ (nb f.x).length ∧ ∀ z ∈ (nb f.x).take f.k, s.num z ≠ 0 ∧ (z ∈ s.path → s.low f.x ≤ s.num z)
 chain : fr.Pairwise fun f g => Rch nb g.x f.x
 clss : ∀ C ∈ s.cls, C ≠ [] ∧ ∀ a ∈ C, ∀ b ∈ C, Rch nb a b
 clsc : ∀ A C B, s.cls = A ++ C :: B → ∀ v ∈ C, ∀ z ∈ nb v, z ∈ A.flatten ∨ z ∈ C
 clsn : s.cls.flatten.Nodup
section
variable {nb : Int → List Int} {s : Tj} {fr : List Fr}
theorem TI.nodup (h : TI nb s fr) : s.path.Nodup := h.sorted.imp fun {a b} hab e => by subst e; omega
theorem TI.enter (h : TI nb s fr) (y : Int) (h0 : s.num y = 0) (hc : ∀ f fs, fr = f :: fs → Rch nb f.x y) : TI nb { tEnter s y with work := (y, 0) :: s.work } (⟨y, 0, []⟩ :: fr) := by
 have hyp : y ∉ s.path := fun hm => (h.ent y).2 (.inl hm) h0
 have hyc : y ∉ s.cls.flatten := fun hm => (h.ent y).2 (.inr hm) h0
 have ne : ∀ {v}, v ∈ s.path → v ≠ y := fun hv e => hyp (e ▸ hv)
 have fx : ∀ f ∈ fr, f.x ∈ s.path := fun f hf => by rw [h.path, mem_pathOf]; exact ⟨f, hf, .inl rfl⟩
 have fv : ∀ f ∈ fr, ∀ v ∈ f.r, v ∈ s.path := fun f hf v hv => by rw [h.path, mem_pathOf]; exact ⟨f, hf, .inr hv⟩
 have pc := h.pos
 refine ⟨?_, ?_, ?_, fun z => ?_, fun z => ?_, fun z => ?_, fun z hz => ?_, fun z hz => ?_, fun z hz => ?_, fun f hf v hv => ?_, fun f hf => ?_, ?_, h.clss, h.clsc, h.clsn⟩
 · simp [h.work]
 · show s.path ++ [y] = pathOf fr ++ [y]
   rw [h.path]
 · show (s.path ++ [y]).Pairwise fun a b => fset s.num y (s.cnt + 1) a < fset s.num y (s.cnt + 1) b
   rw [List.pairwise_append]
   refine ⟨?_, by simp, fun a ha b hb => ?_⟩
   · exact h.sorted.imp_of_mem fun {a b} ha hb hab => by rw [fset_ne _ _ (ne ha), fset_ne _ _ (ne hb)]; exact hab
   · simp at hb; subst hb
     rw [fset_same, fset_ne _ _ (ne ha)]
     have := (pc a).2; omega
 · show fset s.on y true z = true ↔ z ∈ s.path ++ [y]
   by_cases e : z = y
   · subst e; simp [fset_same]
   · rw [fset_ne _ _ e, h.onp]; simp [e]
 · show fset s.num y (s.cnt + 1) z ≠ 0 ↔ z ∈ s.path ++ [y] ∨ z ∈ s.cls.flatten
   by_cases e : z = y
   · subst e; rw [fset_same]; simp; omega
   · rw [fset_ne _ _ e, h.ent]; simp only [List.mem_append, List.mem_singleton, e, or_false]
 · show 0 ≤ fset s.num y (s.cnt + 1) z ∧ fset s.num y (s.cnt + 1) z ≤ ((s.cnt + 1 : Nat) : Int)
   by_cases e : z = y
   · subst e; rw [fset_same]; omega
   · rw [fset_ne _ _ e]; have := pc z; omega
 · show z ∉ s.cls.flatten
   have hz' : z ∈ s.path ++ [y] := hz
   simp only [List.mem_append, List.mem_singleton] at hz'
   rcases hz' with hz' | rfl
   · exact h.disj z hz'
   · exact hyc
 · show fset s.low y (s.cnt + 1) z ≤ fset s.num y (s.cnt + 1) z
   have hz' : z ∈ s.path ++ [y] := hz
   simp only [List.mem_append, List.mem_singleton] at hz'
   rcases hz' with hz' | rfl
   · rw [fset_ne _ _ (ne hz'), fset_ne _ _ (ne hz')]; exact h.lowle z hz'
   · rw [fset_same, fset_same]; omega
 · show ∃ u ∈ s.path ++ [y], fset s.num y (s.cnt + 1) u = fset s.low y (s.cnt + 1) z ∧ Rch nb z u
   have hz' : z ∈ s.path ++ [y] := hz
   simp only [List.mem_append, List.mem_singleton] at hz'
   rcases hz' with hz' | rfl
   · obtain ⟨u, hu, h1, h2⟩ := h.lowr z hz'
     exact ⟨u, by simp [hu], by rw [fset_ne _ _ (ne hu), fset_ne _ _ (ne hz')]; exact h1, h2⟩
   · exact ⟨z, by simp, by rw [fset_same, fset_same], .start⟩
 · show Rch nb f.x v ∧ fset s.low y (s.cnt + 1) v < fset s.num y (s.cnt + 1) v ∧ fset s.low y (s.cnt + 1) f.x ≤ fset s.low y (s.cnt + 1) v ∧ ∀ z ∈ nb v, fset s.num y (s.cnt + 1) z ≠ 0 ∧ (z ∈ s.path ++ [y] → fset s.low y (s.cnt + 1) v ≤ fset s.num y (s.cnt + 1) z)
   rcases List.mem_cons.1 hf with rfl | hf
   · cases hv
   · obtain ⟨h1, h2, h3, h4⟩ := h.frx f hf v hv
     have hvp := fv f hf v hv
     rw [fset_ne _ _ (ne hvp), fset_ne _ _ (ne hvp), fset_ne _ _ (ne (fx f hf))]
     refine ⟨h1, h2, h3, fun z hz => ?_⟩
     obtain ⟨h5, h6⟩ := h4 z hz
     have ez : z ≠ y := fun e => by subst e; exact h5 h0
     rw [fset_ne _ _ ez]
     exact ⟨h5, fun hz' => h6 (by simpa [ez] using hz')⟩
 · show f.k ≤ _ ∧ ∀ z ∈ (nb f.x).take f.k, fset s.num y (s.cnt + 1) z ≠ 0 ∧ (z ∈ s.path ++ [y] → fset s.low y (s.cnt + 1) f.x ≤ fset s.num y (s.cnt + 1) z)
   rcases List.mem_cons.1 hf with rfl | hf
   · exact ⟨Nat.zero_le _, fun z hz => by simp at hz⟩
   · obtain ⟨h1, h2⟩ := h.frk f hf
     refine ⟨h1, fun z hz => ?_⟩
     obtain ⟨h5, h6⟩ := h2 z hz
     have ez : z ≠ y := fun e => by subst e; exact h5 h0
     rw [fset_ne _ _ ez, fset_ne _ _ (ne (fx f hf))]
     exact ⟨h5, fun hz' => h6 (by simpa [ez] using hz')⟩
 · rw [List.pairwise_cons]
   refine ⟨fun g hg => ?_, h.chain⟩
   cases fr with
   | nil => cases hg
   | cons f fs =>
     have hfy := hc f fs rfl
     rcases List.mem_cons.1 hg with rfl | hg
     · exact hfy
     · exact ((List.pairwise_cons.1 h.chain).1 g hg).trans hfy
theorem TI.next {x : Int} {k : Nat} {r : List Int} {fs : List Fr} (h : TI nb s (⟨x, k, r⟩ :: fs)) (hk : k < (nb x).length) (hn : s.num (nb x)[k] ≠ 0) (low' : Int → Int) (hl : low' = if s.on (nb x)[k] = true then fset s.low x (min (s.low x) (s.num (nb x)[k])) else s.low) :
 TI nb { s with low := low', work := (x, k + 1) :: fs.map fun f => (f.x, f.k) } (⟨x, k + 1, r⟩ :: fs) := by
 have hxp : x ∈ s.path := by rw [h.path]; simp [pathOf]
 have hnd := h.nodup
 have hle : ∀ v, low' v ≤ s.low v := fun v => by
  rw [hl]; split
  · by_cases e : v = x
    · subst e; rw [fset_same]; omega
    · rw [fset_ne _ _ e]; omega
  · omega
 have hot : ∀ v, v ≠ x → low' v = s.low v := fun v e => by
  rw [hl]; split
  · rw [fset_ne _ _ e]
  · rfl
 have hpath : s.path = pathOf (⟨x, k + 1, r⟩ :: fs) := h.path
 have nx : ∀ f ∈ (⟨x, k, r⟩ : Fr) :: fs, ∀ v ∈ f.r, v ≠ x := fun f hf v hv e => by
  subst e
  rw [h.path] at hnd
  rcases List.mem_cons.1 hf with rfl | hf
  · simp only [pathOf, List.nodup_append, List.nodup_cons] at hnd
    exact hnd.2.1.1 hv
  · simp only [pathOf, List.nodup_append] at hnd
    exact hnd.2.2 v ((mem_pathOf fs v).2 ⟨f, hf, .inr hv⟩) v (by simp) rfl
 have nx2 : ∀ f ∈ fs, f.x ≠ x := fun f hf e => by
  rw [h.path] at hnd
  simp only [pathOf, List.nodup_append] at hnd
  exact hnd.2.2 f.x ((mem_pathOf fs f.x).2 ⟨f, hf, .inl rfl⟩) x (by simp) e
 refine ⟨rfl, hpath, h.sorted, h.onp, h.ent, h.pos, h.disj, fun y hy => ?_, fun y hy => ?_, fun f hf v hv => ?_, fun f hf => ?_, ?_, h.clss, h.clsc, h.clsn⟩
 · exact Int.le_trans (hle y) (h.lowle y hy)
 · show ∃ u ∈ s.path, s.num u = low' y ∧ Rch nb y u
   by_cases e : y = x
   · subst e
     rw [hl]
     split
     · rename_i hon
       rw [fset_same]
       rcases Int.le_total (s.low y) (s.num (nb y)[k]) with hm | hm
       · rw [Int.min_eq_left hm]; exact h.lowr y hy
       · rw [Int.min_eq_right hm]; exact ⟨(nb y)[k], (h.onp _).1 hon, rfl, Rch.start.step (List.getElem_mem hk)⟩
     · exact h.lowr y hy
   · rw [hot y e]; exact h.lowr y hy
 · show Rch nb f.x v ∧ low' v < s.num v ∧ low' f.x ≤ low' v ∧ ∀ z ∈ nb v, s.num z ≠ 0 ∧ (z ∈ s.path → low' v ≤ s.num z)
   obtain ⟨f', hf', e1, e2⟩ : ∃ f' ∈ (⟨x, k, r⟩ : Fr) :: fs, f'.x = f.x ∧ f'.r = f.r := by
    rcases List.mem_cons.1 hf with rfl | hf
    · exact ⟨_, List.mem_cons_self, rfl, rfl⟩
    · exact ⟨f, List.mem_cons_of_mem _ hf, rfl, rfl⟩
   rw [← e2] at hv
   obtain ⟨h1, h2, h3, h4⟩ := h.frx f' hf' v hv
   rw [← e1]
   rw [hot v (nx f' hf' v hv)]
   exact ⟨h1, h2, Int.le_trans (hle _) h3, h4⟩
 · show f.k ≤ _ ∧ ∀ z ∈ (nb f.x).take f.k, s.num z ≠ 0 ∧ (z ∈ s.path → low' f.x ≤ s.num z)
   rcases List.mem_cons.1 hf with rfl | hf
   · obtain ⟨h1, h2⟩ := h.frk _ List.mem_cons_self
     refine ⟨hk, fun z hz => ?_⟩
     have hz' : z ∈ (nb x).take (k + 1) := hz
     rw [List.take_succ_eq_append_getElem hk, List.mem_append] at hz'
     rcases hz' with hz' | hz'
     · obtain ⟨h3, h4⟩ := h2 z hz'
       exact ⟨h3, fun hp => Int.le_trans (hle x) (h4 hp)⟩
     · simp at hz'
       subst hz'
       refine ⟨hn, fun hp => ?_⟩
       show low' x ≤ _
       rw [hl, if_pos ((h.onp _).2 hp), fset_same]; omega
   · obtain ⟨h1, h2⟩ := h.frk f (List.mem_cons_of_mem _ hf)
     exact ⟨h1, fun z hz => ⟨(h2 z hz).1, fun hp => Int.le_trans (hle _) ((h2 z hz).2 hp)⟩⟩
 · have := h.chain
   rw [List.pairwise_cons] at this ⊢
   exact this
theorem TI.merge {x : Int} {k : Nat} {r : List Int} {g : Fr} {fs : List Fr} (h : TI nb s (⟨x, k, r⟩ :: g :: fs)) (hk : (nb x).length ≤ k) (hlow : s.low x < s.num x) :
 TI nb { s with low := fset s.low g.x (min (s.low g.x) (s.low x)), work := (g :: fs).map fun f => (f.x, f.k) } (⟨g.x, g.k, g.r ++ x :: r⟩ :: fs) := by
 have hnd := h.nodup
 have hch := h.chain
 rw [List.pairwise_cons] at hch
 have hgx : Rch nb g.x x := hch.1 g List.mem_cons_self
 have hxp : x ∈ s.path := by rw [h.path]; simp [pathOf]
 have hgp : g.x ∈ s.path := by rw [h.path]; simp [pathOf]
 have hpath : s.path = pathOf (⟨g.x, g.k, g.r ++ x :: r⟩ :: fs) := by rw [h.path]; simp [pathOf]
 rw [h.path] at hnd
 simp only [pathOf, List.nodup_append, List.nodup_cons] at hnd
 have hxg : x ≠ g.x := fun e => hnd.2.2 g.x (by simp) x (by simp) e.symm
 have hle : ∀ v, fset s.low g.x (min (s.low g.x) (s.low x)) v ≤ s.low v := fun v => by
  by_cases e : v = g.x
  · rw [e, fset_same]; omega
  · rw [fset_ne _ _ e]; omega
 have nx : ∀ f ∈ (⟨x, k, r⟩ : Fr) :: g :: fs, ∀ v ∈ f.r, v ≠ g.x := fun f hf v hv e => by
  rcases List.mem_cons.1 hf with rfl | hf
  · exact hnd.2.2 g.x (by simp) v (by simp; exact .inr hv) e.symm
  · rcases List.mem_cons.1 hf with rfl | hf
    · exact hnd.1.2.1.1 (e ▸ hv)
    · exact hnd.1.2.2 v ((mem_pathOf fs v).2 ⟨f, hf, .inr hv⟩) g.x (by simp) e
 have nx2 : ∀ f ∈ fs, f.x ≠ g.x := fun f hf e => hnd.1.2.2 f.x ((mem_pathOf fs f.x).2 ⟨f, hf, .inl rfl⟩) g.x (by simp) e
 have up : ∀ v, (∀ z ∈ nb v, s.num z ≠ 0 ∧ (z ∈ s.path → s.low v ≤ s.num z)) → ∀ z ∈ nb v, s.num z ≠ 0 ∧ (z ∈ s.path → fset s.low g.x (min (s.low g.x) (s.low x)) v ≤ s.num z) :=
  fun v hv z hz => ⟨(hv z hz).1, fun hp => Int.le_trans (hle v) ((hv z hz).2 hp)⟩
 refine ⟨rfl, hpath, h.sorted, h.onp, h.ent, h.pos, h.disj, fun y hy => ?_, fun y hy => ?_, fun f hf v hv => ?_, fun f hf => ?_, ?_, h.clss, h.clsc, h.clsn⟩
 · exact Int.le_trans (hle y) (h.lowle y hy)
 · show ∃ u ∈ s.path, s.num u = fset s.low g.x (min (s.low g.x) (s.low x)) y ∧ Rch nb y u
   by_cases e : y = g.x
   · subst e
     rw [fset_same]
     rcases Int.le_total (s.low g.x) (s.low x) with hm | hm
     · rw [Int.min_eq_left hm]; exact h.lowr _ hy
     · rw [Int.min_eq_right hm]
       obtain ⟨u, hu, h1, h2⟩ := h.lowr x hxp
       exact ⟨u, hu, h1, hgx.trans h2⟩
   · rw [fset_ne _ _ e]; exact h.lowr y hy
 · show Rch nb f.x v ∧ fset s.low g.x (min (s.low g.x) (s.low x)) v < s.num v ∧ fset s.low g.x (min (s.low g.x) (s.low x)) f.x ≤ fset s.low g.x (min (s.low g.x) (s.low x)) v ∧ ∀ z ∈ nb v, s.num z ≠ 0 ∧ (z ∈ s.path → fset s.low g.x (min (s.low g.x) (s.low x)) v ≤ s.num z)
   rcases List.mem_cons.1 hf with rfl | hf
   · have hv' : v ∈ g.r ∨ v = x ∨ v ∈ r := by simpa using hv
     show Rch nb g.x v ∧ _ < _ ∧ fset s.low g.x (min (s.low g.x) (s.low x)) g.x ≤ _ ∧ _
     rcases hv' with hv' | rfl | hv'
     · obtain ⟨h1, h2, h3, h4⟩ := h.frx g (by simp) v hv'
       refine ⟨h1, Int.lt_of_le_of_lt (hle v) h2, ?_, up v h4⟩
       rw [fset_same, fset_ne _ _ (nx g (by simp) v hv')]; omega
     · refine ⟨hgx, Int.lt_of_le_of_lt (hle v) hlow, ?_, up v fun z hz => ?_⟩
       · rw [fset_same, fset_ne _ _ hxg]; omega
       · have := (h.frk _ List.mem_cons_self).2 z
         exact this (by show z ∈ (nb v).take k; rw [List.take_of_length_le hk]; exact hz)
     · obtain ⟨h1, h2, h3, h4⟩ := h.frx ⟨x, k, r⟩ (by simp) v hv'
       refine ⟨hgx.trans h1, Int.lt_of_le_of_lt (hle v) h2, ?_, up v h4⟩
       rw [fset_same, fset_ne _ _ (nx ⟨x, k, r⟩ (by simp) v hv')]
       have : s.low x ≤ s.low v := h3
       omega
   · obtain ⟨h1, h2, h3, h4⟩ := h.frx f (by simp [hf]) v hv
     refine ⟨h1, Int.lt_of_le_of_lt (hle v) h2, ?_, up v h4⟩
     rw [fset_ne _ _ (nx2 f hf), fset_ne _ _ (nx f (by simp [hf]) v hv)]; exact h3
 · show f.k ≤ _ ∧ ∀ z ∈ (nb f.x).take f.k, s.num z ≠ 0 ∧ (z ∈ s.path → fset s.low g.x (min (s.low g.x) (s.low x)) f.x ≤ s.num z)
   obtain ⟨f', hf', e1, e2⟩ : ∃ f' ∈ g :: fs, f'.x = f.x ∧ f'.k = f.k := by
    rcases List.mem_cons.1 hf with rfl | hf
    · exact ⟨g, List.mem_cons_self, rfl, rfl⟩
    · exact ⟨f, List.mem_cons_of_mem _ hf, rfl, rfl⟩
   obtain ⟨h1, h2⟩ := h.frk f' (List.mem_cons_of_mem _ hf')
   rw [e1, e2] at h1 h2
   exact ⟨h1, fun z hz => ⟨(h2 z hz).1, fun hp => Int.le_trans (hle _) ((h2 z hz).2 hp)⟩⟩
 · have := hch.2
   rw [List.pairwise_cons] at this ⊢
   exact this
theorem idxOf_mid (P r : List Int) (x : Int) (h : x ∉ P) : (P ++ x :: r).idxOf x = P.length := by
 induction P with
 | nil => simp
 | cons y P ih =>
   have hy : y ≠ x := fun e => h (by simp [e])
   rw [List.cons_append, List.idxOf_cons, ih (fun hm => h (by simp [hm]))]
   simp [beq_eq_false_iff_ne.2 hy]
theorem TI.leave {x : Int} {k : Nat} {r : List Int} {fs : List Fr} (h : TI nb s (⟨x, k, r⟩ :: fs)) (hk : (nb x).length ≤ k) (hlow : s.low x = s.num x) (low' : Int → Int) (hl : ∀ v, v ∈ s.path → low' v = s.low v) :
 TI nb (tLeave { s with low := low', work := fs.map fun f => (f.x, f.k) } x) fs ∧ s.path.drop (s.path.idxOf x) = x :: r ∧ s.path.take (s.path.idxOf x) = pathOf fs := by
 have hp : s.path = pathOf fs ++ x :: r := h.path
 have hnd := h.nodup
 have hso := h.sorted
 rw [hp] at hnd hso
 have hxP : x ∉ pathOf fs := fun hm => (List.nodup_append.1 hnd).2.2 x hm x (by simp) rfl
 have hi : s.path.idxOf x = (pathOf fs).length := by rw [hp, idxOf_mid _ _ _ hxP]
 have hd : s.path.drop (s.path.idxOf x) = x :: r := by rw [hi, hp, List.drop_left']; rfl
 have ht : s.path.take (s.path.idxOf x) = pathOf fs := by rw [hi, hp, List.take_left']; rfl
 refine ⟨?_, hd, ht⟩
 have hrx : ∀ v ∈ r, Rch nb x v ∧ s.low v < s.num v ∧ s.low x ≤ s.low v ∧ ∀ z ∈ nb v, s.num z ≠ 0 ∧ (z ∈ s.path → s.low v ≤ s.num z) := fun v hv => h.frx ⟨x, k, r⟩ (by simp) v hv
 have hlt : ∀ u ∈ pathOf fs, s.num u < s.num x := fun u hu => (List.pairwise_append.1 hso).2.2 u hu x (by simp)
 have hge : ∀ u ∈ s.path, s.num x ≤ s.num u → u = x ∨ u ∈ r := fun u hu hn => by
  rw [hp] at hu
  simp only [List.mem_append, List.mem_cons] at hu
  rcases hu with hu | hu
  · have := hlt u hu; omega
  · exact hu
 have back : ∀ n : Nat, ∀ v, (v = x ∨ v ∈ r) → s.num v ≤ n → Rch nb v x := by
  intro n
  induction n using Nat.strongRecOn with
  | ind n ih =>
    intro v hv hn
    rcases hv with rfl | hv
    · exact .start
    · obtain ⟨h1, h2, h3, h4⟩ := hrx v hv
      have hvp : v ∈ s.path := by rw [hp]; simp [hv]
      obtain ⟨u, hu, h5, h6⟩ := h.lowr v hvp
      have hu0 := (h.pos u).1
      have := hge u hu (by omega)
      exact h6.trans (ih (s.num u).toNat (by omega) u this (by omega))
 have fwd : ∀ v, (v = x ∨ v ∈ r) → Rch nb x v := fun v hv => hv.elim (fun e => e ▸ .start) fun hv => (hrx v hv).1
 have nbs : ∀ v, (v = x ∨ v ∈ r) → ∀ z ∈ nb v, z ∈ s.cls.flatten ∨ z = x ∨ z ∈ r := fun v hv z hz => by
  have hz' : s.num z ≠ 0 ∧ (z ∈ s.path → s.num x ≤ s.num z) := by
   rcases hv with rfl | hv
   · have := (h.frk ⟨v, k, r⟩ (by simp)).2 z (by show z ∈ (nb v).take k; rw [List.take_of_length_le hk]; exact hz)
     exact ⟨this.1, fun hp => by have h9 : s.low v ≤ s.num z := this.2 hp; omega⟩
   · obtain ⟨_, _, h3, h4⟩ := hrx v hv
     exact ⟨(h4 z hz).1, fun hp => by have := (h4 z hz).2 hp; omega⟩
  rcases (h.ent z).1 hz'.1 with h1 | h1
  · exact .inr (hge z h1 (hz'.2 h1))
  · exact .inl h1
 have inP : ∀ {y}, y ∈ pathOf fs → y ∈ s.path := fun hy => by rw [hp]; simp [hy]
 have inR : ∀ {y}, (y = x ∨ y ∈ r) → y ∈ s.path := fun hy => by rw [hp]; simp [hy]
 have apart : ∀ {y}, y ∈ pathOf fs → ¬ (y = x ∨ y ∈ r) := fun hy hn => (List.nodup_append.1 hnd).2.2 _ hy _ (by simpa using hn) rfl
 have hfl : (s.cls ++ [x :: r]).flatten = s.cls.flatten ++ (x :: r) := by simp
 have fx : ∀ f ∈ fs, f.x ∈ pathOf fs := fun f hf => (mem_pathOf _ _).2 ⟨f, hf, .inl rfl⟩
 have fv : ∀ f ∈ fs, ∀ v ∈ f.r, v ∈ pathOf fs := fun f hf v hv => (mem_pathOf _ _).2 ⟨f, hf, .inr hv⟩
 unfold tLeave
 simp only [hd, ht]
 refine ⟨rfl, rfl, (List.pairwise_append.1 hso).1, fun y => ?_, fun y => ?_, h.pos, fun y hy => ?_, fun y hy => ?_, fun y hy => ?_, fun f hf v hv => ?_, fun f hf => ?_, (List.pairwise_cons.1 h.chain).2, fun C hC => ?_, fun A C B he v hv z hz => ?_, ?_⟩
 · show (if y ∈ x :: r then false else s.on y) = true ↔ y ∈ pathOf fs
   split
   · rename_i hm
     simp only [Bool.false_eq_true, false_iff]
     exact fun hy => apart hy (by simpa using hm)
   · rename_i hm
     rw [h.onp, hp]
     simp only [List.mem_append]
     exact ⟨fun hy => hy.resolve_right hm, .inl⟩
 · show s.num y ≠ 0 ↔ y ∈ pathOf fs ∨ y ∈ (s.cls ++ [x :: r]).flatten
   rw [h.ent, hfl, hp]
   simp only [List.mem_append]
   constructor
   · rintro ((h1 | h1) | h1)
     · exact .inl h1
     · exact .inr (.inr h1)
     · exact .inr (.inl h1)
   · rintro (h1 | h1 | h1)
     · exact .inl (.inl h1)
     · exact .inr h1
     · exact .inl (.inr h1)
 · show y ∉ (s.cls ++ [x :: r]).flatten
   rw [hfl, List.mem_append]
   rintro (h1 | h1)
   · exact h.disj y (inP hy) h1
   · exact apart hy (by simpa using h1)
 · show low' y ≤ s.num y
   rw [hl y (inP hy)]; exact h.lowle y (inP hy)
 · show ∃ u ∈ pathOf fs, s.num u = low' y ∧ Rch nb y u
   rw [hl y (inP hy)]
   obtain ⟨u, hu, h1, h2⟩ := h.lowr y (inP hy)
   refine ⟨u, ?_, h1, h2⟩
   have h3 := h.lowle y (inP hy)
   have h4 := hlt y hy
   rw [hp] at hu
   simp only [List.mem_append, List.mem_cons] at hu
   rcases hu with hu | rfl | hu
   · exact hu
   · omega
   · have : s.num x < s.num u := by
      have := (List.pairwise_append.1 hso).2.1
      rw [List.pairwise_cons] at this
      exact this.1 u hu
     omega
 · show Rch nb f.x v ∧ low' v < s.num v ∧ low' f.x ≤ low' v ∧ ∀ z ∈ nb v, s.num z ≠ 0 ∧ (z ∈ pathOf fs → low' v ≤ s.num z)
   obtain ⟨h1, h2, h3, h4⟩ := h.frx f (by simp [hf]) v hv
   rw [hl v (inP (fv f hf v hv)), hl f.x (inP (fx f hf))]
   exact ⟨h1, h2, h3, fun z hz => ⟨(h4 z hz).1, fun hz' => (h4 z hz).2 (inP hz')⟩⟩
 · show f.k ≤ _ ∧ ∀ z ∈ (nb f.x).take f.k, s.num z ≠ 0 ∧ (z ∈ pathOf fs → low' f.x ≤ s.num z)
   obtain ⟨h1, h2⟩ := h.frk f (by simp [hf])
   rw [hl f.x (inP (fx f hf))]
   exact ⟨h1, fun z hz => ⟨(h2 z hz).1, fun hz' => (h2 z hz).2 (inP hz')⟩⟩
 · rw [List.mem_append, List.mem_singleton] at hC
   rcases hC with hC | rfl
   · exact h.clss C hC
   · refine ⟨by simp, fun a ha b hb => ?_⟩
     have ha' : a = x ∨ a ∈ r := by simpa using ha
     exact (back (s.num a).toNat a ha' (by have := (h.pos a).1; omega)).trans (fwd b (by simpa using hb))
 · rcases List.eq_nil_or_concat B with rfl | ⟨B', b, rfl⟩
   · have e1 : s.cls = A ∧ x :: r = C := by
      have : s.cls ++ [x :: r] = A ++ [C] := he
      exact ⟨(List.append_inj' this rfl).1, by simpa using (List.append_inj' this rfl).2⟩
     obtain ⟨rfl, rfl⟩ := e1
     have := nbs v (by simpa using hv) z hz
     simpa using this
   · have e1 : s.cls = A ++ C :: B' := by
      have he' : s.cls ++ [x :: r] = A ++ C :: B'.concat b := he
      have : s.cls ++ [x :: r] = (A ++ C :: B') ++ [b] := by rw [he']; simp [List.concat_eq_append]
      exact (List.append_inj' this rfl).1
     exact h.clsc A C B' e1 v hv z hz
 · show (s.cls ++ [x :: r]).flatten.Nodup
   rw [hfl, List.nodup_append]
   refine ⟨h.clsn, (List.nodup_append.1 hnd).2.1, fun a ha b hb e => ?_⟩
   subst e
   exact h.disj a (inR (by simpa using hb)) ha
end
end Go.Proofs.YtjecjaihficcdaaGreat
