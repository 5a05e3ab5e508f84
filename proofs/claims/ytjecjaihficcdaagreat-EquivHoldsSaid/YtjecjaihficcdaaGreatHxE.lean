/- Walks and plain laws that this claim uses. -/
import Derived.Test.YtjecjaihficcdaaGreatHxD
import Derived.Test.YtjecjaihficcdaaGreatHxC
import Derived.BigRegion
import Derived.StillTailTactics
import Derived.RangeFuncLeaves
import Derived.OwnWalkIn
import Derived.TacticsInMore
import Derived.Test.YtjecjaihficcdaaGreatHxA
import Derived.Deep.AppendLies
import Derived.ChangeKeysEq
import Derived.Maps.RangeRun
namespace Go.Proofs.YtjecjaihficcdaaGreat
open Go.RowKit
def chArr (c : ChV) : Array Value := #[.int .u8 c.kind, .int .i64 c.lit, .int .i64 c.tz, .int .i64 c.pos, .int .i64 c.other]
structure COk (c : ChV) : Prop where
 l : I64 c.lit
 t : I64 c.tz
 p : I64 c.pos
 o : I64 c.other
def PostMake (w : World) (r : DqV × Int) (e : Ending) (w' : World) : Prop := ∃ vu vx vc, e = .returned (.tuple #[.agg #[vu, vx, vc], .int .i64 r.2]) ∧ RD w' vu vx vc r.1 ∧ Ext w w'
theorem RD.none (w : World) : RD w (.slice none 0 0) (.slice none 0 0) (.slice none 0 0) ⟨[], [], []⟩ :=
 ⟨RI.none _, ⟨Option.none, 0, [], rfl, Nat.le_refl _, by simp, rfl, fun j h => absurd h (Nat.not_lt_zero j)⟩, RLL.none _⟩
theorem mk_new (w : World) (u x c : Value) (k l t p o : Int) : ∃ W : World, W = ((w.alloc (.cells #[u, x, c] 27)).alloc (.cells #[.int .u8 k, .int .i64 l, .int .i64 t, .int .i64 p, .int .i64 o] 37)).alloc (.cells #[.slice none 0 0, .slice none 0 0, .slice none 0 0] 27) ∧
 Blk W w.heap.size 27 [u, x, c] ∧ Blk W (w.heap.size + 1) 37 [.int .u8 k, .int .i64 l, .int .i64 t, .int .i64 p, .int .i64 o] ∧ Blk W (w.heap.size + 2) 27 [.slice none 0 0, .slice none 0 0, .slice none 0 0] ∧ Ext w W ∧ W.heap.size = w.heap.size + 3 := by
 refine ⟨_, rfl, ?_, ?_, ?_, ((Ext.alloc w _).trans (Ext.alloc _ _)).trans (Ext.alloc _ _), by simp⟩
 · have h := Blk.new w 27 [u, x, c]
   exact (((Ext.alloc _ _).trans (Ext.alloc _ _)).chg (fun _ => False)).blk h id
 · have h := Blk.new (w.alloc (.cells #[u, x, c] 27)) 37 [.int .u8 k, .int .i64 l, .int .i64 t, .int .i64 p, .int .i64 o]
   rw [World.size_alloc] at h
   exact ((Ext.alloc _ _).chg (fun _ => False)).blk h id
 · have h := Blk.new ((w.alloc (.cells #[u, x, c] 27)).alloc (.cells #[.int .u8 k, .int .i64 l, .int .i64 t, .int .i64 p, .int .i64 o] 37)) 27 [.slice none 0 0, .slice none 0 0, .slice none 0 0]
   rw [World.size_alloc, World.size_alloc] at h
   exact h
set_option maxRecDepth 100000 in
set_option maxHeartbeats 4000000 in
theorem Make_no (d : DqV) (c : ChV) (vu vx vc : Value) (w : World) (hd : RD w vu vx vc d) (ok : DOk d) (hm : mayD d = false) : Calls Tryz.prog 21 #[.agg #[vu, vx, vc], .agg (chArr c)] w (PostMake w (⟨[], [], []⟩, 2)) := by
 have HM := Lib.hid (fun w' (h : Ext w w') => MayD_any d vu vx vc w' ok.x64 ok.c64 (hd.u.ext h) (hd.x.ext h) (RLL.ext' hd.c h) (fun _ => by have := ok.tot; omega) ok.xl ok.ul)
 rw [hm] at HM
 obtain ⟨⟨UA, uc, hue, -⟩, ⟨XA, xc, ons, hxe, -⟩, ⟨CA, cc, us, hce, -⟩⟩ := hd
 subst hue hxe hce
 clear ok hm
 unfold chArr
 obtain ⟨W, hW, B0, B1, B2, hEW, hsW⟩ := mk_new w (.slice UA d.univ.length uc) (.slice XA d.exist.length xc) (.slice CA us.length cc) c.kind c.lit c.tz c.pos c.other
 have HB2 := Lib.hid B2
 have HEW := Lib.hid hEW
 have HW := Lib.hid hW
 clear B0 B1 B2 hEW hsW hW
 go_enter Tryz.func21, Tryz.ntmps21
 go_wp2_with (go_at_call 54; rw [← HW.out]; refine (HM.out _ HEW.out).mono ?_; rintro e w2 ⟨rfl, hE2⟩; have HE2 := Lib.hid hE2; have hbx := (hE2.chg (fun _ => False)).blk HB2.out id; have b0 := hbx.cell 0; have b1 := hbx.cell 1; have b2 := hbx.cell 2; have f0 := hbx.free 0; have f1 := hbx.free 1; have f2 := hbx.free 2; simp only [List.getElem?_cons_zero, List.getElem?_cons_succ] at b0 b1 b2; clear hE2 hbx)
 refine bodyPost_ret (v := .tuple #[.agg #[.slice none 0 0, .slice none 0 0, .slice none 0 0], .int .i64 2]) (by simp [results, Tryz.results21, go_sem, b0, b1, b2]) rfl ⟨_, _, _, rfl, RD.none _, ?_⟩
 have he := HEW.out.trans HE2.out
 repeat (refine Below.setCell ?_ (by simp <;> omega) _)
 exact he
set_option maxRecDepth 100000 in
set_option maxHeartbeats 8000000 in
theorem Make_bad (d : DqV) (c : ChV) (vu vx vc : Value) (w : World) (hd : RD w vu vx vc d) (ok : DOk d) (cok : COk c) (hm : mayD d = true) (hno : okCh d c = false) : Calls Tryz.prog 21 #[.agg #[vu, vx, vc], .agg (chArr c)] w (PostMake w (⟨[], [], []⟩, 5)) := by
 have HM := Lib.hid (fun w' (h : Ext w w') => MayD_any d vu vx vc w' ok.x64 ok.c64 (hd.u.ext h) (hd.x.ext h) (RLL.ext' hd.c h) (fun _ => by have := ok.tot; omega) ok.xl ok.ul)
 have HAL := Lib.hid (fun w' (h : Ext w w') => allowed_any d vu vx vc c.lit c.tz w' (hd.ext h) ok cok.t)
 have HP1 := Lib.hid (fun w' (h : Ext w w') => pair_any d vu vx vc c.pos (-c.lit) c.tz w' (hd.ext h) ok)
 have HP2 := Lib.hid (fun w' (h : Ext w w') => pair_any d vu vx vc c.other c.lit (-c.tz) w' (hd.ext h) ok)
 rw [hm] at HM
 have HMM := Lib.hid hm
 have HNO := Lib.hid hno
 have COK := Lib.hid cok
 obtain ⟨⟨UA, uc, hue, -⟩, ⟨XA, xc, ons, hxe, -⟩, ⟨CA, cc, us, hce, -⟩⟩ := hd
 subst hue hxe hce
 clear ok hm hno cok
 unfold chArr
 obtain ⟨W, hW, B0, B1, B2, hEW, hsW⟩ := mk_new w (.slice UA d.univ.length uc) (.slice XA d.exist.length xc) (.slice CA us.length cc) c.kind c.lit c.tz c.pos c.other
 have HB0 := Lib.hid B0
 have HB1 := Lib.hid B1
 have HB2 := Lib.hid B2
 have HEW := Lib.hid hEW
 have HW := Lib.hid hW
 clear B0 B1 B2 hEW hsW hW
 obtain ⟨k, hk⟩ : ∃ k, k = c.kind := ⟨_, rfl⟩
 obtain ⟨x, hx⟩ : ∃ x, x = c.lit := ⟨_, rfl⟩
 obtain ⟨t, ht⟩ : ∃ t, t = c.tz := ⟨_, rfl⟩
 have hx64 := COK.out.l
 rw [← hk, ← hx, ← ht] at HB1 HW
 rw [← hx, ← ht] at HAL HP1 HP2
 rw [← hx] at hx64
 rw [← hk, ← hx, ← ht]
 have HN2 : Hid ((decide (k = 6) && (decide (0 < x) && (allowP d x t && (hasR d c.pos (-x) t && hasR d c.other x (-t))))) = false) := Lib.hid (by rw [hk, hx, ht]; exact HNO.out)
 clear hk hx ht
 unfold I64 at hx64
 by_cases h1 : k = 6
 · subst h1
   by_cases h2 : 0 < x
   · have h2b : decide (x ≤ 0) = false := decide_eq_false (by omega)
     have hnx : IntKind.i64.wrap (-x) = -x := IntWalk.i64_in _ (by omega)
     cases hal : allowP d x t with
     | false =>
       rw [hal] at HAL
       clear hal
       go_enter Tryz.func21, Tryz.ntmps21
       go_wp2_with (first
        | (go_at_call 54; rw [← HW.out]; refine (HM.out _ HEW.out).mono ?_; rintro e w2 ⟨rfl, hE2⟩; have HE2 := Lib.hid hE2; have hbD := (hE2.chg (fun _ => False)).blk HB0.out id; have hbC := (hE2.chg (fun _ => False)).blk HB1.out id; have hbR := (hE2.chg (fun _ => False)).blk HB2.out id; have d0a := hbD.cell 0; have d1a := hbD.cell 1; have d2a := hbD.cell 2; have k0a := hbC.cell 0; have k1a := hbC.cell 1; have k2a := hbC.cell 2; have k3a := hbC.cell 3; have k4a := hbC.cell 4; have r0a := hbR.cell 0; have rf0a := hbR.free 0; have r1a := hbR.cell 1; have rf1a := hbR.free 1; have r2a := hbR.cell 2; have rf2a := hbR.free 2; simp only [List.getElem?_cons_zero, List.getElem?_cons_succ] at d0a d1a d2a k0a k1a k2a k3a k4a r0a r1a r2a; clear hbD hbC hbR; clear hE2)
        | (go_at_call 56; refine (HAL.out _ (HEW.out.trans HE2.out)).mono ?_; rintro e w3 ⟨rfl, hE3⟩; have HE3 := Lib.hid (HE2.out.trans hE3); have hbD := ((HE2.out.trans hE3).chg (fun _ => False)).blk HB0.out id; have hbC := ((HE2.out.trans hE3).chg (fun _ => False)).blk HB1.out id; have hbR := ((HE2.out.trans hE3).chg (fun _ => False)).blk HB2.out id; have d0b := hbD.cell 0; have d1b := hbD.cell 1; have d2b := hbD.cell 2; have k0b := hbC.cell 0; have k1b := hbC.cell 1; have k2b := hbC.cell 2; have k3b := hbC.cell 3; have k4b := hbC.cell 4; have r0b := hbR.cell 0; have rf0b := hbR.free 0; have r1b := hbR.cell 1; have rf1b := hbR.free 1; have r2b := hbR.cell 2; have rf2b := hbR.free 2; simp only [List.getElem?_cons_zero, List.getElem?_cons_succ] at d0b d1b d2b k0b k1b k2b k3b k4b r0b r1b r2b; clear hbD hbC hbR; clear hE3)
        | (go_at_call 58; refine (HP1.out _ (HEW.out.trans HE3.out)).mono ?_; rintro e w4 ⟨rfl, hE4⟩; have HE4 := Lib.hid (HE3.out.trans hE4); have hbD := ((HE3.out.trans hE4).chg (fun _ => False)).blk HB0.out id; have hbC := ((HE3.out.trans hE4).chg (fun _ => False)).blk HB1.out id; have hbR := ((HE3.out.trans hE4).chg (fun _ => False)).blk HB2.out id; have d0c := hbD.cell 0; have d1c := hbD.cell 1; have d2c := hbD.cell 2; have k0c := hbC.cell 0; have k1c := hbC.cell 1; have k2c := hbC.cell 2; have k3c := hbC.cell 3; have k4c := hbC.cell 4; have r0c := hbR.cell 0; have rf0c := hbR.free 0; have r1c := hbR.cell 1; have rf1c := hbR.free 1; have r2c := hbR.cell 2; have rf2c := hbR.free 2; simp only [List.getElem?_cons_zero, List.getElem?_cons_succ] at d0c d1c d2c k0c k1c k2c k3c k4c r0c r1c r2c; clear hbD hbC hbR; clear hE4)
        | (go_at_call 58; refine (HP2.out _ (HEW.out.trans HE4.out)).mono ?_; rintro e w5 ⟨rfl, hE5⟩; have HE5 := Lib.hid (HE4.out.trans hE5); have hbD := ((HE4.out.trans hE5).chg (fun _ => False)).blk HB0.out id; have hbC := ((HE4.out.trans hE5).chg (fun _ => False)).blk HB1.out id; have hbR := ((HE4.out.trans hE5).chg (fun _ => False)).blk HB2.out id; have d0d := hbD.cell 0; have d1d := hbD.cell 1; have d2d := hbD.cell 2; have k0d := hbC.cell 0; have k1d := hbC.cell 1; have k2d := hbC.cell 2; have k3d := hbC.cell 3; have k4d := hbC.cell 4; have r0d := hbR.cell 0; have rf0d := hbR.free 0; have r1d := hbR.cell 1; have rf1d := hbR.free 1; have r2d := hbR.cell 2; have rf2d := hbR.free 2; simp only [List.getElem?_cons_zero, List.getElem?_cons_succ] at d0d d1d d2d k0d k1d k2d k3d k4d r0d r1d r2d; clear hbD hbC hbR; clear hE5))
       refine bodyPost_ret (v := .tuple #[.agg #[.slice none 0 0, .slice none 0 0, .slice none 0 0], .int .i64 5]) (by simp [results, Tryz.results21, go_sem, r0b, r1b, r2b]) rfl ⟨_, _, _, rfl, RD.none _, ?_⟩
       have he := HEW.out.trans HE3.out
       repeat (refine Below.setCell ?_ (by simp <;> omega) _)
       exact he
     | true =>
       cases hp1 : hasR d c.pos (-x) t with
       | false =>
         rw [hal] at HAL
         rw [hp1] at HP1
         clear hal hp1
         go_enter Tryz.func21, Tryz.ntmps21
         go_wp2_with (first
          | (go_at_call 54; rw [← HW.out]; refine (HM.out _ HEW.out).mono ?_; rintro e w2 ⟨rfl, hE2⟩; have HE2 := Lib.hid hE2; have hbD := (hE2.chg (fun _ => False)).blk HB0.out id; have hbC := (hE2.chg (fun _ => False)).blk HB1.out id; have hbR := (hE2.chg (fun _ => False)).blk HB2.out id; have d0a := hbD.cell 0; have d1a := hbD.cell 1; have d2a := hbD.cell 2; have k0a := hbC.cell 0; have k1a := hbC.cell 1; have k2a := hbC.cell 2; have k3a := hbC.cell 3; have k4a := hbC.cell 4; have r0a := hbR.cell 0; have rf0a := hbR.free 0; have r1a := hbR.cell 1; have rf1a := hbR.free 1; have r2a := hbR.cell 2; have rf2a := hbR.free 2; simp only [List.getElem?_cons_zero, List.getElem?_cons_succ] at d0a d1a d2a k0a k1a k2a k3a k4a r0a r1a r2a; clear hbD hbC hbR; clear hE2)
          | (go_at_call 56; refine (HAL.out _ (HEW.out.trans HE2.out)).mono ?_; rintro e w3 ⟨rfl, hE3⟩; have HE3 := Lib.hid (HE2.out.trans hE3); have hbD := ((HE2.out.trans hE3).chg (fun _ => False)).blk HB0.out id; have hbC := ((HE2.out.trans hE3).chg (fun _ => False)).blk HB1.out id; have hbR := ((HE2.out.trans hE3).chg (fun _ => False)).blk HB2.out id; have d0b := hbD.cell 0; have d1b := hbD.cell 1; have d2b := hbD.cell 2; have k0b := hbC.cell 0; have k1b := hbC.cell 1; have k2b := hbC.cell 2; have k3b := hbC.cell 3; have k4b := hbC.cell 4; have r0b := hbR.cell 0; have rf0b := hbR.free 0; have r1b := hbR.cell 1; have rf1b := hbR.free 1; have r2b := hbR.cell 2; have rf2b := hbR.free 2; simp only [List.getElem?_cons_zero, List.getElem?_cons_succ] at d0b d1b d2b k0b k1b k2b k3b k4b r0b r1b r2b; clear hbD hbC hbR; clear hE3)
          | (go_at_call 58; refine (HP1.out _ (HEW.out.trans HE3.out)).mono ?_; rintro e w4 ⟨rfl, hE4⟩; have HE4 := Lib.hid (HE3.out.trans hE4); have hbD := ((HE3.out.trans hE4).chg (fun _ => False)).blk HB0.out id; have hbC := ((HE3.out.trans hE4).chg (fun _ => False)).blk HB1.out id; have hbR := ((HE3.out.trans hE4).chg (fun _ => False)).blk HB2.out id; have d0c := hbD.cell 0; have d1c := hbD.cell 1; have d2c := hbD.cell 2; have k0c := hbC.cell 0; have k1c := hbC.cell 1; have k2c := hbC.cell 2; have k3c := hbC.cell 3; have k4c := hbC.cell 4; have r0c := hbR.cell 0; have rf0c := hbR.free 0; have r1c := hbR.cell 1; have rf1c := hbR.free 1; have r2c := hbR.cell 2; have rf2c := hbR.free 2; simp only [List.getElem?_cons_zero, List.getElem?_cons_succ] at d0c d1c d2c k0c k1c k2c k3c k4c r0c r1c r2c; clear hbD hbC hbR; clear hE4)
          | (go_at_call 58; refine (HP2.out _ (HEW.out.trans HE4.out)).mono ?_; rintro e w5 ⟨rfl, hE5⟩; have HE5 := Lib.hid (HE4.out.trans hE5); have hbD := ((HE4.out.trans hE5).chg (fun _ => False)).blk HB0.out id; have hbC := ((HE4.out.trans hE5).chg (fun _ => False)).blk HB1.out id; have hbR := ((HE4.out.trans hE5).chg (fun _ => False)).blk HB2.out id; have d0d := hbD.cell 0; have d1d := hbD.cell 1; have d2d := hbD.cell 2; have k0d := hbC.cell 0; have k1d := hbC.cell 1; have k2d := hbC.cell 2; have k3d := hbC.cell 3; have k4d := hbC.cell 4; have r0d := hbR.cell 0; have rf0d := hbR.free 0; have r1d := hbR.cell 1; have rf1d := hbR.free 1; have r2d := hbR.cell 2; have rf2d := hbR.free 2; simp only [List.getElem?_cons_zero, List.getElem?_cons_succ] at d0d d1d d2d k0d k1d k2d k3d k4d r0d r1d r2d; clear hbD hbC hbR; clear hE5))
         refine bodyPost_ret (v := .tuple #[.agg #[.slice none 0 0, .slice none 0 0, .slice none 0 0], .int .i64 5]) (by simp [results, Tryz.results21, go_sem, r0c, r1c, r2c]) rfl ⟨_, _, _, rfl, RD.none _, ?_⟩
         have he := HEW.out.trans HE4.out
         repeat (refine Below.setCell ?_ (by simp <;> omega) _)
         exact he
       | true =>
         have ht0 := (hasR_lit HMM.out hp1).2
         have hte := varOf_eq ht0
         have htr := varOf_range t
         have hnt : IntKind.i64.wrap (-t) = -t := IntWalk.i64_in _ (by omega)
         have hp2 : hasR d c.other x (-t) = false := by
          have := HN2.out
          rw [hal, hp1, decide_eq_true h2] at this
          simpa using this
         rw [hal] at HAL
         rw [hp1] at HP1
         rw [hp2] at HP2
         clear hal hp1 hp2 ht0 hte htr
         obtain ⟨nt, hnte⟩ : ∃ nt, nt = -t := ⟨_, rfl⟩
         have hnt2 : RowKit.wrap64 (-t) = nt := by rw [hnte, ← IntWalk.i64_left]; exact hnt
         rw [← hnte] at HP2
         clear hnte hnt
         go_enter Tryz.func21, Tryz.ntmps21
         go_wp2_with (first
          | (go_at_call 54; rw [← HW.out]; refine (HM.out _ HEW.out).mono ?_; rintro e w2 ⟨rfl, hE2⟩; have HE2 := Lib.hid hE2; have hbD := (hE2.chg (fun _ => False)).blk HB0.out id; have hbC := (hE2.chg (fun _ => False)).blk HB1.out id; have hbR := (hE2.chg (fun _ => False)).blk HB2.out id; have d0a := hbD.cell 0; have d1a := hbD.cell 1; have d2a := hbD.cell 2; have k0a := hbC.cell 0; have k1a := hbC.cell 1; have k2a := hbC.cell 2; have k3a := hbC.cell 3; have k4a := hbC.cell 4; have r0a := hbR.cell 0; have rf0a := hbR.free 0; have r1a := hbR.cell 1; have rf1a := hbR.free 1; have r2a := hbR.cell 2; have rf2a := hbR.free 2; simp only [List.getElem?_cons_zero, List.getElem?_cons_succ] at d0a d1a d2a k0a k1a k2a k3a k4a r0a r1a r2a; clear hbD hbC hbR; clear hE2)
          | (go_at_call 56; refine (HAL.out _ (HEW.out.trans HE2.out)).mono ?_; rintro e w3 ⟨rfl, hE3⟩; have HE3 := Lib.hid (HE2.out.trans hE3); have hbD := ((HE2.out.trans hE3).chg (fun _ => False)).blk HB0.out id; have hbC := ((HE2.out.trans hE3).chg (fun _ => False)).blk HB1.out id; have hbR := ((HE2.out.trans hE3).chg (fun _ => False)).blk HB2.out id; have d0b := hbD.cell 0; have d1b := hbD.cell 1; have d2b := hbD.cell 2; have k0b := hbC.cell 0; have k1b := hbC.cell 1; have k2b := hbC.cell 2; have k3b := hbC.cell 3; have k4b := hbC.cell 4; have r0b := hbR.cell 0; have rf0b := hbR.free 0; have r1b := hbR.cell 1; have rf1b := hbR.free 1; have r2b := hbR.cell 2; have rf2b := hbR.free 2; simp only [List.getElem?_cons_zero, List.getElem?_cons_succ] at d0b d1b d2b k0b k1b k2b k3b k4b r0b r1b r2b; clear hbD hbC hbR; clear hE3)
          | (go_at_call_of 58 (Value.int .i64 (-x)); refine (HP1.out _ (HEW.out.trans HE3.out)).mono ?_; rintro e w4 ⟨rfl, hE4⟩; have HE4 := Lib.hid (HE3.out.trans hE4); have hbD := ((HE3.out.trans hE4).chg (fun _ => False)).blk HB0.out id; have hbC := ((HE3.out.trans hE4).chg (fun _ => False)).blk HB1.out id; have hbR := ((HE3.out.trans hE4).chg (fun _ => False)).blk HB2.out id; have d0c := hbD.cell 0; have d1c := hbD.cell 1; have d2c := hbD.cell 2; have k0c := hbC.cell 0; have k1c := hbC.cell 1; have k2c := hbC.cell 2; have k3c := hbC.cell 3; have k4c := hbC.cell 4; have r0c := hbR.cell 0; have rf0c := hbR.free 0; have r1c := hbR.cell 1; have rf1c := hbR.free 1; have r2c := hbR.cell 2; have rf2c := hbR.free 2; simp only [List.getElem?_cons_zero, List.getElem?_cons_succ] at d0c d1c d2c k0c k1c k2c k3c k4c r0c r1c r2c; clear hbD hbC hbR; clear hE4)
          | (go_at_call_of 58 (Value.int .i64 nt); refine (HP2.out _ (HEW.out.trans HE4.out)).mono ?_; rintro e w5 ⟨rfl, hE5⟩; have HE5 := Lib.hid (HE4.out.trans hE5); have hbD := ((HE4.out.trans hE5).chg (fun _ => False)).blk HB0.out id; have hbC := ((HE4.out.trans hE5).chg (fun _ => False)).blk HB1.out id; have hbR := ((HE4.out.trans hE5).chg (fun _ => False)).blk HB2.out id; have d0d := hbD.cell 0; have d1d := hbD.cell 1; have d2d := hbD.cell 2; have k0d := hbC.cell 0; have k1d := hbC.cell 1; have k2d := hbC.cell 2; have k3d := hbC.cell 3; have k4d := hbC.cell 4; have r0d := hbR.cell 0; have rf0d := hbR.free 0; have r1d := hbR.cell 1; have rf1d := hbR.free 1; have r2d := hbR.cell 2; have rf2d := hbR.free 2; simp only [List.getElem?_cons_zero, List.getElem?_cons_succ] at d0d d1d d2d k0d k1d k2d k3d k4d r0d r1d r2d; clear hbD hbC hbR; clear hE5))
         refine bodyPost_ret (v := .tuple #[.agg #[.slice none 0 0, .slice none 0 0, .slice none 0 0], .int .i64 5]) (by simp [results, Tryz.results21, go_sem, r0d, r1d, r2d]) rfl ⟨_, _, _, rfl, RD.none _, ?_⟩
         have he := HEW.out.trans HE5.out
         repeat (refine Below.setCell ?_ (by simp <;> omega) _)
         exact he
   · have h2b : decide (x ≤ 0) = true := decide_eq_true (by omega)
     go_enter Tryz.func21, Tryz.ntmps21
     go_wp2_with (first
      | (go_at_call 54; rw [← HW.out]; refine (HM.out _ HEW.out).mono ?_; rintro e w2 ⟨rfl, hE2⟩; have HE2 := Lib.hid hE2; have hbD := (hE2.chg (fun _ => False)).blk HB0.out id; have hbC := (hE2.chg (fun _ => False)).blk HB1.out id; have hbR := (hE2.chg (fun _ => False)).blk HB2.out id; have d0a := hbD.cell 0; have d1a := hbD.cell 1; have d2a := hbD.cell 2; have k0a := hbC.cell 0; have k1a := hbC.cell 1; have k2a := hbC.cell 2; have k3a := hbC.cell 3; have k4a := hbC.cell 4; have r0a := hbR.cell 0; have rf0a := hbR.free 0; have r1a := hbR.cell 1; have rf1a := hbR.free 1; have r2a := hbR.cell 2; have rf2a := hbR.free 2; simp only [List.getElem?_cons_zero, List.getElem?_cons_succ] at d0a d1a d2a k0a k1a k2a k3a k4a r0a r1a r2a; clear hbD hbC hbR; clear hE2)
      | (go_at_call 56; refine (HAL.out _ (HEW.out.trans HE2.out)).mono ?_; rintro e w3 ⟨rfl, hE3⟩; have HE3 := Lib.hid (HE2.out.trans hE3); have hbD := ((HE2.out.trans hE3).chg (fun _ => False)).blk HB0.out id; have hbC := ((HE2.out.trans hE3).chg (fun _ => False)).blk HB1.out id; have hbR := ((HE2.out.trans hE3).chg (fun _ => False)).blk HB2.out id; have d0b := hbD.cell 0; have d1b := hbD.cell 1; have d2b := hbD.cell 2; have k0b := hbC.cell 0; have k1b := hbC.cell 1; have k2b := hbC.cell 2; have k3b := hbC.cell 3; have k4b := hbC.cell 4; have r0b := hbR.cell 0; have rf0b := hbR.free 0; have r1b := hbR.cell 1; have rf1b := hbR.free 1; have r2b := hbR.cell 2; have rf2b := hbR.free 2; simp only [List.getElem?_cons_zero, List.getElem?_cons_succ] at d0b d1b d2b k0b k1b k2b k3b k4b r0b r1b r2b; clear hbD hbC hbR; clear hE3)
      | (go_at_call 58; refine (HP1.out _ (HEW.out.trans HE3.out)).mono ?_; rintro e w4 ⟨rfl, hE4⟩; have HE4 := Lib.hid (HE3.out.trans hE4); have hbD := ((HE3.out.trans hE4).chg (fun _ => False)).blk HB0.out id; have hbC := ((HE3.out.trans hE4).chg (fun _ => False)).blk HB1.out id; have hbR := ((HE3.out.trans hE4).chg (fun _ => False)).blk HB2.out id; have d0c := hbD.cell 0; have d1c := hbD.cell 1; have d2c := hbD.cell 2; have k0c := hbC.cell 0; have k1c := hbC.cell 1; have k2c := hbC.cell 2; have k3c := hbC.cell 3; have k4c := hbC.cell 4; have r0c := hbR.cell 0; have rf0c := hbR.free 0; have r1c := hbR.cell 1; have rf1c := hbR.free 1; have r2c := hbR.cell 2; have rf2c := hbR.free 2; simp only [List.getElem?_cons_zero, List.getElem?_cons_succ] at d0c d1c d2c k0c k1c k2c k3c k4c r0c r1c r2c; clear hbD hbC hbR; clear hE4)
      | (go_at_call 58; refine (HP2.out _ (HEW.out.trans HE4.out)).mono ?_; rintro e w5 ⟨rfl, hE5⟩; have HE5 := Lib.hid (HE4.out.trans hE5); have hbD := ((HE4.out.trans hE5).chg (fun _ => False)).blk HB0.out id; have hbC := ((HE4.out.trans hE5).chg (fun _ => False)).blk HB1.out id; have hbR := ((HE4.out.trans hE5).chg (fun _ => False)).blk HB2.out id; have d0d := hbD.cell 0; have d1d := hbD.cell 1; have d2d := hbD.cell 2; have k0d := hbC.cell 0; have k1d := hbC.cell 1; have k2d := hbC.cell 2; have k3d := hbC.cell 3; have k4d := hbC.cell 4; have r0d := hbR.cell 0; have rf0d := hbR.free 0; have r1d := hbR.cell 1; have rf1d := hbR.free 1; have r2d := hbR.cell 2; have rf2d := hbR.free 2; simp only [List.getElem?_cons_zero, List.getElem?_cons_succ] at d0d d1d d2d k0d k1d k2d k3d k4d r0d r1d r2d; clear hbD hbC hbR; clear hE5))
     refine bodyPost_ret (v := .tuple #[.agg #[.slice none 0 0, .slice none 0 0, .slice none 0 0], .int .i64 5]) (by simp [results, Tryz.results21, go_sem, r0a, r1a, r2a]) rfl ⟨_, _, _, rfl, RD.none _, ?_⟩
     have he := HEW.out.trans HE2.out
     repeat (refine Below.setCell ?_ (by simp <;> omega) _)
     exact he
 · have h1b : (k != 6) = true := by simpa using h1
   go_enter Tryz.func21, Tryz.ntmps21
   go_wp2_with (first
    | (go_at_call 54; rw [← HW.out]; refine (HM.out _ HEW.out).mono ?_; rintro e w2 ⟨rfl, hE2⟩; have HE2 := Lib.hid hE2; have hbD := (hE2.chg (fun _ => False)).blk HB0.out id; have hbC := (hE2.chg (fun _ => False)).blk HB1.out id; have hbR := (hE2.chg (fun _ => False)).blk HB2.out id; have d0a := hbD.cell 0; have d1a := hbD.cell 1; have d2a := hbD.cell 2; have k0a := hbC.cell 0; have k1a := hbC.cell 1; have k2a := hbC.cell 2; have k3a := hbC.cell 3; have k4a := hbC.cell 4; have r0a := hbR.cell 0; have rf0a := hbR.free 0; have r1a := hbR.cell 1; have rf1a := hbR.free 1; have r2a := hbR.cell 2; have rf2a := hbR.free 2; simp only [List.getElem?_cons_zero, List.getElem?_cons_succ] at d0a d1a d2a k0a k1a k2a k3a k4a r0a r1a r2a; clear hbD hbC hbR; clear hE2)
    | (go_at_call 56; refine (HAL.out _ (HEW.out.trans HE2.out)).mono ?_; rintro e w3 ⟨rfl, hE3⟩; have HE3 := Lib.hid (HE2.out.trans hE3); have hbD := ((HE2.out.trans hE3).chg (fun _ => False)).blk HB0.out id; have hbC := ((HE2.out.trans hE3).chg (fun _ => False)).blk HB1.out id; have hbR := ((HE2.out.trans hE3).chg (fun _ => False)).blk HB2.out id; have d0b := hbD.cell 0; have d1b := hbD.cell 1; have d2b := hbD.cell 2; have k0b := hbC.cell 0; have k1b := hbC.cell 1; have k2b := hbC.cell 2; have k3b := hbC.cell 3; have k4b := hbC.cell 4; have r0b := hbR.cell 0; have rf0b := hbR.free 0; have r1b := hbR.cell 1; have rf1b := hbR.free 1; have r2b := hbR.cell 2; have rf2b := hbR.free 2; simp only [List.getElem?_cons_zero, List.getElem?_cons_succ] at d0b d1b d2b k0b k1b k2b k3b k4b r0b r1b r2b; clear hbD hbC hbR; clear hE3)
    | (go_at_call 58; refine (HP1.out _ (HEW.out.trans HE3.out)).mono ?_; rintro e w4 ⟨rfl, hE4⟩; have HE4 := Lib.hid (HE3.out.trans hE4); have hbD := ((HE3.out.trans hE4).chg (fun _ => False)).blk HB0.out id; have hbC := ((HE3.out.trans hE4).chg (fun _ => False)).blk HB1.out id; have hbR := ((HE3.out.trans hE4).chg (fun _ => False)).blk HB2.out id; have d0c := hbD.cell 0; have d1c := hbD.cell 1; have d2c := hbD.cell 2; have k0c := hbC.cell 0; have k1c := hbC.cell 1; have k2c := hbC.cell 2; have k3c := hbC.cell 3; have k4c := hbC.cell 4; have r0c := hbR.cell 0; have rf0c := hbR.free 0; have r1c := hbR.cell 1; have rf1c := hbR.free 1; have r2c := hbR.cell 2; have rf2c := hbR.free 2; simp only [List.getElem?_cons_zero, List.getElem?_cons_succ] at d0c d1c d2c k0c k1c k2c k3c k4c r0c r1c r2c; clear hbD hbC hbR; clear hE4)
    | (go_at_call 58; refine (HP2.out _ (HEW.out.trans HE4.out)).mono ?_; rintro e w5 ⟨rfl, hE5⟩; have HE5 := Lib.hid (HE4.out.trans hE5); have hbD := ((HE4.out.trans hE5).chg (fun _ => False)).blk HB0.out id; have hbC := ((HE4.out.trans hE5).chg (fun _ => False)).blk HB1.out id; have hbR := ((HE4.out.trans hE5).chg (fun _ => False)).blk HB2.out id; have d0d := hbD.cell 0; have d1d := hbD.cell 1; have d2d := hbD.cell 2; have k0d := hbC.cell 0; have k1d := hbC.cell 1; have k2d := hbC.cell 2; have k3d := hbC.cell 3; have k4d := hbC.cell 4; have r0d := hbR.cell 0; have rf0d := hbR.free 0; have r1d := hbR.cell 1; have rf1d := hbR.free 1; have r2d := hbR.cell 2; have rf2d := hbR.free 2; simp only [List.getElem?_cons_zero, List.getElem?_cons_succ] at d0d d1d d2d k0d k1d k2d k3d k4d r0d r1d r2d; clear hbD hbC hbR; clear hE5))
   refine bodyPost_ret (v := .tuple #[.agg #[.slice none 0 0, .slice none 0 0, .slice none 0 0], .int .i64 5]) (by simp [results, Tryz.results21, go_sem, r0a, r1a, r2a]) rfl ⟨_, _, _, rfl, RD.none _, ?_⟩
   have he := HEW.out.trans HE2.out
   repeat (refine Below.setCell ?_ (by simp <;> omega) _)
   exact he
end Go.Proofs.YtjecjaihficcdaaGreat
namespace Go.Proofs.YtjecjaihficcdaaGreat
open Go.RowKit
def noDefer (ops : List Oper) : Bool := ops.all fun o => match o.op with | .defer _ => false | _ => true
section
variable {P : Program} {ops : Array Oper} {Q : Exit → Act → World → Prop} {md : Region.Mode} {l n : Nat}
theorem upon_in {K K' : Act → World → Prop} (hK : ∀ a w, K a w → K' a w) {o : Oper} {a : Act} {r : Result Next} (h : o.upon P a K Q r) : o.uponIn (Fence.wide.inRound l) n P a K' Q r := by
 cases r with
 | ok x w' =>
   cases x with
   | value v => exact hK _ _ h
   | skip => exact hK _ _ h
   | defer d => exact hK _ _ h
   | enter f args => exact ⟨fun h => by simp [Fence.wide] at h, CallsIn.inRound l (callsIn_wide.2 (Calls.mono h fun e w'' he => by cases e <;> first | exact hK _ _ he | exact he))⟩
   | row r args =>
     refine ⟨fun h => by simp [Fence.wide] at h, fun c cs _ => ?_⟩
     obtain ⟨v, w'', hr, hs⟩ := h c cs
     exact ⟨v, w'', hK _ _ hr, stepsIn_wide.2 hs⟩
   | _ => exact h.elim
 | halt x w' => cases x <;> first | exact h | exact h.elim
theorem oper_in {K K' : Act → World → Prop} (hK : ∀ a w, K a w → K' a w) {o : Oper} {a : Act} {w : World} (hd : ∀ c, o.op ≠ .defer c) (h : o.wp P a w K Q) : o.wpIn (Fence.wide.inRound l) n P a w K' Q := by
 refine ⟨fun _ _ => trivial, ?_⟩
 have e : o.semAt (Fence.wide.inRound l).round a.eval = execOp a.eval o := Oper.semAt_plain _ _ _ hd
 rw [e]
 exact upon_in hK h
theorem no_defer {os : List Oper} (h : noDefer os = true) {o : Oper} (ho : o ∈ os) : ∀ c, o.op ≠ .defer c := fun c e => by
 have := List.all_eq_true.1 h o ho
 rw [e] at this
 cases this
theorem list_in (hQ : ¬ LetsOut Q) : ∀ (os : List Oper), noDefer os = true → ∀ {a : Act} {w : World}, wpList P ops Q os a w → wpListIn (Fence.wide.inRound l) n P ops Q os a w
 | [], _, _, _, h => h
 | o :: os, hd, a, w, h => by
   have hd' : noDefer os = true := by unfold noDefer at hd ⊢; rw [List.all_cons, Bool.and_eq_true] at hd; exact hd.2
   unfold wpList at h
   unfold wpListIn
   split
   · rename_i hw
     rw [if_pos hw] at h
     exact oper_in (fun _ _ hk => list_in hQ os hd' hk) (no_defer hd List.mem_cons_self) (h.resolve_right fun h' => hQ h'.2)
   · rename_i hw
     rw [if_neg hw] at h
     exact ⟨fun _ _ => trivial, list_in hQ os hd' h⟩
theorem any_in (hQ : ¬ LetsOut Q) (hd : noDefer ops.toList = true) : ∀ (fuel : Nat) (listed : Array Bool) (a : Act) (w : World), wpAny P md ops Q fuel listed a w → wpAnyIn (Fence.wide.inRound l) n P md ops Q fuel listed a w := by
 intro fuel
 induction fuel with
 | zero => intro listed a w h; exact h
 | succ fuel ih =>
   intro listed a w h
   refine ⟨h.1, fun i hi => ?_⟩
   have h2 := h.2 i hi
   unfold wpOp at h2
   unfold wpOpIn
   split
   · rename_i ho
     rw [ho] at h2
     exact ih _ _ _ h2
   · rename_i o ho
     rw [ho] at h2
     simp only at h2
     split
     · rename_i hw
       rw [if_pos hw] at h2
       exact oper_in (fun _ _ hk => ih _ _ _ hk) (no_defer hd (by
        have := List.mem_of_getElem? (l := ops.toList) (i := i) (a := o) (by simpa using ho)
        exact this)) (h2.resolve_right fun h' => hQ h'.2)
     · rename_i hw
       rw [if_neg hw] at h2
       exact ⟨fun _ _ => trivial, ih _ _ _ h2⟩
theorem region_in (hQ : ¬ LetsOut Q) {id : Nat} {a : Act} {w : World} {os : List Oper} (hd : noDefer os = true) (h : wpList P os.toArray Q os a w) : (Code.region id os.toArray false).wpIn (Fence.wide.inRound l) n P Q a w :=
 wpIn_region_lit (list_in hQ os hd h)
theorem still_tail_in (hQ : ¬ LetsOut Q) {id : Nat} {a : Act} {w : World} {os : List Oper} (m : Nat) (hm : P.follows .mixedOrders = true) (hd : noDefer os = true) (hB : Region.lexTailB .any os.toArray m = true)
 (h : wpStill P os.toArray { w with drawn := w.drawn + 1 } (fun a' => wpList P os.toArray Q (os.drop m) a' { w with drawn := w.drawn + 1 }) (os.take m) a) : (Code.region id os.toArray true).wpIn (Fence.wide.inRound l) n P Q a w := by
 simp only [Region.lexTailB, Bool.and_eq_true, decide_eq_true_eq] at hB
 obtain ⟨⟨⟨⟨hsel, hn⟩, hs⟩, hc⟩, hlex⟩ := hB
 have hn' : m < os.length := by simpa using hn
 have htl : (os.take m).length = m := by simp; omega
 have hdl : (os.drop m).length = os.toArray.size - m := by simp
 have inv0 : HeadInv .any os.toArray m (Array.replicate os.toArray.size false) :=
  ⟨by simp, fun j oj _ hl => (by rw [getD_replicate_false] at hl; cases hl), fun t _ ht => getD_in (by simpa using ht) (getD_replicate_false _ _)⟩
 have H := wpAnyL_lex (md := .any) (g := os.toArray.size - m) hsel hs hc hn (os.take m) 0 _ a (fun j hj => by
  have hj' : j < m := by rw [htl] at hj; exact hj
  simp [hj']) (by simpa using htl) inv0 (by rw [htl]; exact hlex) h
 refine wpIn_region_any hm ?_
 have := wpAny_of_head (Q' := Q) (g := os.toArray.size - m) (fun listed a' hL => by
  have := wpAny_of_seq (md := .any) (Q' := Q) (os.drop m) m listed a' { w with drawn := w.drawn + 1 } (fun j => by simp [List.getElem?_drop]) (by rw [hdl]; exact hL.1) hL.2
  rwa [hdl] at this) _ _ _ H
 rw [htl, show m + (os.toArray.size - m) = os.toArray.size by omega] at this
 exact any_in hQ (by simpa using hd) _ _ _ _ this
end
end Go.Proofs.YtjecjaihficcdaaGreat
namespace Go.Proofs.YtjecjaihficcdaaGreat
open Go.RowKit
attribute [local go_sem] Oper.semAt_some
theorem Iter.ext {α : Type} {P : Program} {gf : FuncId} {lb : Array Value} {encs : α → Array Value} {xs : List α} {Rk : Nat → Prop} {w w' : World} (h : Iter P gf lb encs xs Rk w) (k : Ext w w') : Iter P gf lb encs xs Rk w' :=
 fun l J Jx W hW hJ hJx hY h0 => h l J Jx W ((k.chg _).trans hW) hJ hJx hY h0
theorem app_1l {ops : Array Oper} {rest : List Oper} {o : Oper} {a : Act} {Q : Exit → Act → World → Prop} {w : World} (hgd : o.guard = none) (s x : Operand)
 (ho : o.op = .call { callee := .builtin .append, args := #[s, x], argTypes := #[24, 24] })
 {base : Nat} {v : Value} {xs : List Int} {y : Int} (hs : a.eval s = v) (hx : a.eval x = .slice (some ⟨w.heap.size, 0, none⟩) 1 1) (hown : OwnI w base v xs) (hl : xs.length ≤ 10000000) (hbase : base ≤ w.heap.size)
 (h : ∀ g cap w', OwnI w' base (.slice (some ⟨g, 0, none⟩) (xs.length + 1) cap) (xs ++ [y]) → Chg (fun i => some i = v.ownBlock) w w' → (v.ownBlock = some g ∨ g = w.heap.size + 1) → g < w'.heap.size → wpList Tryz.prog ops Q rest (a.put o.dst (.slice (some ⟨g, 0, none⟩) (xs.length + 1) cap)) w') :
 wpList Tryz.prog ops Q (o :: rest) a (w.alloc (.cells #[.int .i64 y] 3)) := by
 obtain ⟨i0, hi, hz0, hz1, hz2⟩ := info_parts info_int
 refine wpList_plain hgd fun K hK => ?_
 refine wp_append_lies _ s x 24 ho base 3 i0 (.int .i64 0) 1 8 Tryz.underlying24 hi hz0 hz1 hz2 rfl (by decide) v xs.length (xs.map (Value.int .i64)) hs (own_ext hown (Ext.alloc w _)) ⟨w.heap.size, 0, none⟩ 1 1 [.int .i64 y] hx rfl (one_cell w _ _) (by simp [Value.oneCell']) (by decide) (by unfold maxLen; omega) (by omega) (by simp; omega) (w.heap.size + 1) (by simp) ?_
 intro g cap w' h1 h2 h3 h4
 exact hK _ _ (h g cap w' (by unfold OwnI; rw [List.length_append, List.map_append]; exact h1) (((Ext.alloc w _).chg _).trans (grown_chg h2)) h3 h4)
set_option maxRecDepth 100000 in
set_option maxHeartbeats 2000000 in
theorem appendSeq_any (xs : List Int) (gf : FuncId) (lb : Array Value) (Rk : Nat → Prop) (w : World) (hit : Iter Tryz.prog gf lb (fun y : Int => #[.int .i64 y]) xs Rk w) (hf : Fv Tryz.prog gf) (hRk : ∀ k, Rk k → k < w.heap.size) (hl : xs.length ≤ 1000000) :
 Calls Tryz.prog 130 #[.slice none 0 0, .func (.func gf) #[] lb] w fun e w' => ∃ v, e = .returned v ∧ OwnI w' w.heap.size v xs ∧ Ext w w' := by
 have HIT := Lib.hid (hit.ext (Ext.alloc w (.cells #[.slice none 0 0] 24)))
 have HRK := Lib.hid hRk
 have HV := Lib.hid (Var1.new w 24 (.slice none 0 0))
 have HE := Lib.hid (Ext.alloc w (.cells #[.slice none 0 0] 24))
 clear hit hRk
 refine calls_marks Tryz.func130 rfl ?_
 simp only [Tryz.ntmps130, List.size_toArray, List.length_cons, List.length_nil, Nat.reduceAdd, Nat.reduceSub, Array.replicate_succ, Array.replicate_zero, List.push_toArray, List.append_toArray, List.nil_append, List.cons_append]
 go_wp2
 generalize hw1 : w.alloc (.cells #[.slice none 0 0] 24) = w1 at HIT HV HE ⊢
 have hz1 : w1.heap.size = w.heap.size + 1 := by rw [← hw1]; simp
 clear hw1
 have hz2 : w1.heap.size ≤ w.heap.size + 1 := by omega
 have hz3 : w.heap.size + 1 ≤ w1.heap.size := by omega
 clear hz1
 refine wp_range HIT.out rfl hf (fun k hk => by have := HRK.out k hk; omega) (fun _ => rfl)
  (fun pre T W => ∃ v, Var1 W w.heap.size 24 v ∧ OwnI W (w.heap.size + 1) v pre ∧ (∀ b, v.ownBlock = some b → ¬ T b) ∧ (∀ i, T i → w1.heap.size ≤ i ∧ i < W.heap.size) ∧ w1.heap.size ≤ W.heap.size ∧ Chg (fun i => w.heap.size ≤ i) w1 W)
  (fun _ _ _ _ => False) ?hI (fun _ => fun _ _ _ _ _ h _ _ _ _ => h.elim) ⟨_, HV.out, OwnI.nil _ _, fun b hb => by simp [Value.ownBlock] at hb, fun _ h => h.elim, Nat.le_refl _, Chg.refl _ _⟩
  (fun y => ⟨#[.slice none 0 0, .func (.func gf) #[] lb, .pointer (some ⟨w.heap.size, 0, none⟩), undef, .slice none 0 0, .int .i64 y, .func (.func gf) #[] lb, .int .i64 y, undef, undef, undef, undef, undef], []⟩) ?assign ?body ?done ?stop
 case hI =>
  rintro s T T' A C ⟨v, hv, ho, hvT, hT, hs, hc⟩ hch h1 h2 h3
  refine ⟨v, (hch.block _ hv.lt (fun h => by have := (hT _ h).1; omega)).trans hv, hch.own ho (fun b hb => hvT b hb), fun b hb h => ?_, fun i hi => ⟨?_, h3 i hi⟩, Nat.le_trans hs hch.size, hc.trans (hch.mono fun i hi => by have := (hT i hi).1; omega)⟩
  · rcases h2 b h with h4 | h4
    · exact hvT b hb h4
    · have := (own_typed ho hb).2.1; omega
  · rcases h2 i hi with h4 | h4
    · exact (hT i h4).1
    · omega
 case assign =>
  intro l y W K hK
  gi_wp2
  exact hK
 case body =>
  rintro l pre y T W ⟨v, hv, ho, hvT, hT, hs, hc⟩ hpre hTw hWs
  have hpl : pre.length ≤ 1000000 := by have := hpre.length_le; rw [List.length_append] at this; omega
  have hvc := hv.cell
  have HO := Lib.hid ho
  have HVT := Lib.hid hvT
  have HT := Lib.hid hT
  have HC := Lib.hid hc
  have HV2 := Lib.hid hv
  have hbase : w.heap.size + 1 ≤ W.heap.size := by omega
  obtain ⟨A, c, hve, h1, h2, -⟩ := OwnI.reads ho
  rw [hve] at hvc
  have HVE := Lib.hid hve
  have hTl : ∀ i, T i → i < W.heap.size := fun i hi => (hT i hi).2
  have HTL := Lib.hid hTl
  clear ho hvT hT hc hv hpre hTw hWs hve hTl
  refine wpIn_block ?_
  refine region_in (l := l) (fun h => by obtain ⟨_, _, h⟩ := h; exact h) (by rfl) ?_
  go_wp2_with (at_builtin
               refine app_1l rfl (.tmp 8) (.tmp 10) rfl (base := w.heap.size + 1) (v := .slice A pre.length c) (xs := pre) (y := y) rfl rfl (by rw [← HVE.out]; exact HO.out) (by omega) hbase ?_
               intro g cap w5 hown hch hat hlt
               have hne : ∀ b, (Value.slice A pre.length c).ownBlock = some b → ¬ T b ∧ w.heap.size + 1 ≤ b := fun b hb => by rw [← HVE.out] at hb; exact ⟨HVT.out b hb, (own_typed HO.out hb).1⟩
               have hv5 : Var1 w5 w.heap.size 24 v := (hch.block _ HV2.out.lt (fun e => by have := (hne _ e.symm).2; omega)).trans HV2.out
               have hv5c := hv5.cell
               have hv5f := hv5.free
               have HV5 := Lib.hid hv5
               have HO5 := Lib.hid hown
               have HCH := Lib.hid hch
               have HAT := Lib.hid hat
               have HLT := Lib.hid hlt
               have HNE := Lib.hid hne
               clear hown hch hat hlt hne hv5)
  have hgw : w.heap.size + 1 ≤ g := HAT.out.elim (fun h => (HNE.out g h).2) (fun h => by omega)
  have hset := Chg.set w5 w.heap.size 0 (.slice (some ⟨g, 0, none⟩) (pre.length + 1) cap)
  refine ⟨?_, _, HV5.out.set _, hset.own HO5.out (fun b hb e => by injection hb with hb; have hb' : g = b := hb; omega), fun b hb h => ?_, fun i hi => ⟨(HT.out i hi).1, ?_⟩, ?_, ?_⟩
  · refine (HCH.out.mono fun i hi h => ?_).trans (hset.mono fun i hi h => ?_)
    · rcases h with h | h
      · have := HRK.out i h; have := (HNE.out i hi.symm).2; omega
      · exact (HNE.out i hi.symm).1 h
    · rcases h with h | h
      · have := HRK.out i h; omega
      · have := (HT.out i h).1; omega
  · injection hb with hb
    have hb' : g = b := hb
    subst hb'
    rcases HAT.out with h4 | h4
    · exact (HNE.out g h4).1 h
    · have := HTL.out g h; omega
  · have h1 := HCH.out.size
    have h2 := HTL.out i hi
    have h3 := hset.size
    omega
  · have h1 := HCH.out.size
    have h3 := hset.size
    omega
  · exact HC.out.trans ((HCH.out.mono fun i hi => by have := (HNE.out i hi.symm).2; omega).trans (hset.mono fun i hi => by omega))
 case done =>
  rintro D T W hD hTD ⟨v, hv, ho, hvT, hT, hs, hc⟩ hK
  obtain ⟨A, c, hve, h1, h2, -⟩ := OwnI.reads ho
  subst hve
  have hcv := hv.cell
  have HO := Lib.hid ho
  have HK := Lib.hid hK
  have HDV : Hid (∀ b, (Value.slice A xs.length c).ownBlock = some b → ¬ b = D) := Lib.hid (fun b hb e => hvT b hb (e ▸ hTD))
  have HEW := Lib.hid (hc.toExt HE.out (fun i hi => hi))
  clear ho hK hvT hT hc hTD hv
  go_wp2
  refine ret_mark (v := .slice A xs.length c) (fun _ => by simp [results, Tryz.results130, go_sem]) rfl HK.out ?_
  exact ⟨_, rfl, (putObj_chg W D (.deferred none)).own (own_lower HO.out (by omega)) (fun b hb e => HDV.out b hb e), (putObj_chg W D (.deferred none)).toExt HEW.out (fun i e => by omega)⟩
 case stop =>
  intro D c pre T W _ _ _ h _
  exact h.elim
end Go.Proofs.YtjecjaihficcdaaGreat
namespace Go.Proofs.YtjecjaihficcdaaGreat
open Go.RowKit
section
variable {α : Type} [Inhabited α] {enc : α → Value}
theorem holds_blk {w : World} {g : Nat} {cur : Array Value} {e : TypeId} {ss : List α} (hb : w.heap[g]? = some (.cells cur e (0, 0))) (ht : cur.toList.take ss.length = ss.map enc) : Sort.Holds enc w g 0 ss.toArray := by
 have hB : Blk w g e cur.toList := by unfold Blk; simpa using hb
 intro j hj
 have hj' : j < ss.length := by simpa using hj
 refine ⟨?_, hB.free _⟩
 rw [Nat.zero_add, hB.cell]
 have h1 := congrArg (fun l => l[j]?) ht
 simp only [List.getElem?_take, if_pos hj', List.getElem?_map, List.getElem?_eq_getElem hj', Option.map_some] at h1
 rw [h1]
 simp [hj']
theorem sortW_heap {w : World} {g n : Nat} {os : Array Obj} {cur : Array Value} {e : TypeId} (d : Array α) (hb : w.heap[g]? = some (.cells cur e (0, 0))) :
 (sortWorld enc w g 0 n d os).heap[g]? = some (.cells (Sort.putCells enc 0 d cur) e (0, 0)) := by
 unfold sortWorld
 rw [Sort.heap_grow_old]
 · simp [Sort.putRow, Sort.mapBlock, Sort.ahead, Array.getElem?_modify, hb, Sort.onCells]
 · simpa using (Array.getElem?_eq_some_iff.1 hb).1
theorem sortW_grown {w : World} {g n : Nat} {os : Array Obj} (d : Array α) : w.grownBy (sortWorld enc w g 0 n d os) (some g) := by
 refine ⟨rfl, rfl, rfl, by simp [sortWorld], fun k hk hne => ?_⟩
 unfold sortWorld
 rw [Sort.heap_grow_old]
 · have : ¬ g = k := fun e => hne (by rw [e])
   simp [Sort.putRow, Sort.mapBlock, Sort.ahead, Array.getElem?_modify, this]
 · simpa using hk
theorem take_putc (cur : Array Value) (ts : List α) (h : ts.length ≤ cur.size) : (Sort.putCells enc 0 ts.toArray cur).toList.take ts.length = ts.map enc := by
 apply List.ext_getElem?
 intro j
 rw [List.getElem?_take, List.getElem?_map]
 by_cases hj : j < ts.length
 · rw [if_pos hj, Array.getElem?_toList]
   simp [Sort.putCells, hj, show j < cur.size by omega]
 · rw [if_neg hj, List.getElem?_eq_none (by omega)]; rfl
end
end Go.Proofs.YtjecjaihficcdaaGreat
namespace Go.Proofs.YtjecjaihficcdaaGreat
open Go.RowKit
set_option maxHeartbeats 400000 in
theorem or_any (a b : Int) (g : Nat) (w : World) (h0 : w.cell? ⟨g, 0, none⟩ = some (.int .i64 a)) (h1 : w.cell? ⟨g, 1, none⟩ = some (.int .i64 b)) :
 Calls Tryz.prog 93 #[.slice (some ⟨g, 0, none⟩) 2 2] w fun e w' => e = .returned (.int .i64 (if a = 0 then b else a)) ∧ w = w' := by
 obtain ⟨r, hr⟩ : ∃ r, r = if a = 0 then b else a := ⟨_, rfl⟩
 rw [← hr]
 have HR := Lib.hid hr
 clear hr
 go_enter Tryz.func93, Tryz.ntmps93
 go_wp2
 go_loopg [8] 2 (fun gn i wr => w = wr ∧ ((i = .int .i64 0 ∧ gn = 2) ∨ (i = .int .i64 1 ∧ gn = 1 ∧ Hid (a = 0)) ∨ (i = .int .i64 2 ∧ gn = 0 ∧ Hid (a = 0) ∧ Hid (b = 0))))
 case atStart => exact ⟨rfl, .inl ⟨rfl, rfl⟩⟩
 case round =>
  obtain ⟨rfl, ⟨rfl, rfl⟩ | ⟨rfl, rfl, HA⟩ | ⟨rfl, rfl, HA, HB⟩⟩ := hrel
  · by_cases ha : a = 0
    · have hb : (a != 0) = false := by simp [ha]
      have HA := Lib.hid ha
      clear ha
      go_wp2
      go_roundg 1
      case measure => omega
      case rel => exact ⟨rfl, .inr (.inl ⟨by go_num, rfl, HA⟩)⟩
    · have hb : (a != 0) = true := by simpa using ha
      go_wp2
      go_ret
      exact ⟨ret_int (by rw [HR.out, if_neg ha]), rfl⟩
  · by_cases ha : b = 0
    · have hb : (b != 0) = false := by simp [ha]
      have HB := Lib.hid ha
      clear ha
      go_wp2
      go_roundg 0
      case measure => omega
      case rel => exact ⟨rfl, .inr (.inr ⟨by go_num, rfl, HA, HB⟩)⟩
    · have hb : (b != 0) = true := by simpa using ha
      go_wp2
      go_ret
      exact ⟨ret_int (by rw [HR.out, if_pos HA.out]), rfl⟩
  · go_wp2
    go_ret
    exact ⟨ret_int (by rw [HR.out, if_pos HA.out, HB.out]), rfl⟩
def ordE (x y : Int) : Int := if cmpI (varOf x) (varOf y) = 0 then cmpI x y else cmpI (varOf x) (varOf y)
set_option maxHeartbeats 400000 in
theorem orderE_any (x y : Int) (hx : I64 x) (hy : I64 y) (w : World) : Calls Tryz.prog 41 #[.int .i64 x, .int .i64 y] w fun e w' => e = .returned (.int .i64 (ordE x y)) ∧ ∃ o, w' = w.alloc o := by
 unfold ordE
 obtain ⟨a, ha⟩ : ∃ a, a = cmpI (varOf x) (varOf y) := ⟨_, rfl⟩
 obtain ⟨b, hb⟩ : ∃ b, b = cmpI x y := ⟨_, rfl⟩
 rw [← ha, ← hb]
 have HV := Lib.hid (fun w' => cmp_any (varOf x) (varOf y) w')
 have HX := Lib.hid (fun w' => cmp_any x y w')
 rw [← ha] at HV
 rw [← hb] at HX
 have b0 := Blk.new w 3 [.int .i64 a, .int .i64 b]
 have HO := Lib.hid (or_any a b w.heap.size _ (b0.cell 0) (b0.cell 1))
 clear ha hb b0
 obtain ⟨vx, hvx⟩ : ∃ v, v = varOf x := ⟨_, rfl⟩
 obtain ⟨vy, hvy⟩ : ∃ v, v = varOf y := ⟨_, rfl⟩
 have HVX := Lib.hid (fun w' => var_any x hx w')
 have HVY := Lib.hid (fun w' => var_any y hy w')
 rw [← hvx] at HVX HV
 rw [← hvy] at HVY HV
 clear hvx hvy
 go_enter Tryz.func41, Tryz.ntmps41
 go_wp2_with (first
  | (go_at_call_of 36 (Value.int .i64 x); refine (HVX.out _).mono ?_; rintro e w' ⟨rfl, rfl⟩)
  | (go_at_call_of 36 (Value.int .i64 y); refine (HVY.out _).mono ?_; rintro e w' ⟨rfl, rfl⟩)
  | (go_at_call_of 94 (Value.int .i64 vx); refine (HV.out _).mono ?_; rintro e w' ⟨rfl, rfl⟩)
  | (go_at_call_of 94 (Value.int .i64 x); refine (HX.out _).mono ?_; rintro e w' ⟨rfl, rfl⟩)
  | (go_at_call 93; refine HO.out.mono ?_; rintro e w' ⟨rfl, rfl⟩))
 all_goals
  go_ret
  exact ⟨rfl, _, rfl⟩
def elt (x y : Int) : Prop := varOf x < varOf y ∨ (varOf x = varOf y ∧ x < y)
instance (x y : Int) : Decidable (elt x y) := by unfold elt; infer_instance
theorem ordE_neg (x y : Int) : ordE x y < 0 ↔ elt x y := by
 unfold ordE elt
 by_cases h : cmpI (varOf x) (varOf y) = 0
 · rw [if_pos h, cmpI_neg]
   have := cmpI_zero.1 h
   omega
 · rw [if_neg h, cmpI_neg]
   have : ¬ varOf x = varOf y := fun e => h (cmpI_zero.2 e)
   omega
theorem elt_blt {x y : Int} (hx : varOf x ≠ 0) (hy : varOf y ≠ 0) : elt x y ↔ blt x y := by
 have := varOf_eq hx
 have := varOf_eq hy
 unfold elt blt
 omega
abbrev Z64 : Type := { x : Int // I64 x }
instance : Inhabited Z64 := ⟨⟨0, by unfold I64; omega⟩⟩
def zF (x y : Z64) : Int := ordE x.1 y.1
theorem zF_lt (x y : Z64) : ltOf zF x y = decide (elt x.1 y.1) := by
 unfold ltOf zF
 rw [decide_eq_decide]
 exact ordE_neg _ _
theorem swo_z : Sort.SWO (ltOf zF) := by
 refine ⟨fun x => ?_, fun x y z h k => ?_, fun x y z h k => ?_⟩
 · rw [zF_lt, decide_eq_false_iff_not]; unfold elt; omega
 · rw [zF_lt, decide_eq_true_eq] at *; unfold elt at *; omega
 · rw [zF_lt, decide_eq_false_iff_not] at *; unfold elt at *; omega
theorem all64_z {xs : List Int} (h : All64 xs) : ∃ zs : List Z64, zs.map Subtype.val = xs := by
 induction xs with
 | nil => exact ⟨[], rfl⟩
 | cons x xs ih =>
   obtain ⟨zs, hz⟩ := ih (fun y hy => h y (by simp [hy]))
   exact ⟨⟨x, h x (by simp)⟩ :: zs, by rw [List.map_cons, hz]⟩
theorem SortE_own (xs : List Int) (v : Value) (base : Nat) (w : World) (h : OwnI w base v xs) (hl : xs.length ≤ 100000000) (h64 : All64 xs) :
 Calls Tryz.prog 51 #[v, .func (.func 41) #[] #[]] w fun e w' => ∃ ys, e = .returned (.tuple #[]) ∧ OwnI w' base v ys ∧ w.grownBy w' v.ownBlock ∧ ys.Perm xs ∧ ys.Pairwise fun a b => ¬ elt b a := by
 obtain ⟨zs, rfl⟩ := all64_z h64
 unfold OwnI at h ⊢
 rw [List.length_map] at h hl
 rw [List.map_map] at h
 obtain ⟨-, ⟨rfl, h0⟩ | ⟨g, cap, cur, rfl, hb, hg, hn, hm, hs, ht⟩⟩ := h
 · have : zs = [] := List.length_eq_zero_iff.1 h0
   subst this
   refine (AnyF.slices_SortFunc_none (P := Tryz.prog) (ρ := Tryz.laysSlF6_f51_ren) { Tryz.laysSlF6_f51 with } none 0 _ w).mono ?_
   rintro e w' ⟨rfl, rfl⟩
   exact ⟨[], rfl, World.ownsRow_nil _ _ _ 1, ⟨rfl, rfl, rfl, Nat.le_refl _, fun _ _ _ => rfl⟩, List.Perm.refl _, List.Pairwise.nil⟩
 · rw [Nat.mul_one] at ht
   have hhold := holds_blk (enc := fun z : Z64 => Value.int .i64 z.1) hg ht
   refine (Tryz.slices_SortFunc_f51 (fun z : Z64 => Value.int .i64 z.1) (fun _ => rfl) zF swo_z 41 #[] g 0 cap zs.toArray w (enters_of Tryz.func41 (by kernel_rfl) rfl)
    (fun m os dk _ x y => (orderE_any x.1 y.1 x.2 y.2 _).mono fun e w' ⟨he, o, ho⟩ => ⟨he, 0, #[o], by rw [ho, grow_one]⟩)
    hhold (Array.getElem?_eq_some_iff.1 hg).1 (by simp; omega)).mono ?_
   rintro e w' ⟨rfl, d', n, os, ⟨hsz, -, hperm⟩, hsort, rfl⟩
   have hdl : d'.toList.length = zs.length := by simpa using hsz
   have hp : d'.toList.Perm zs := by
    have h1 : d'.extract 0 zs.toArray.size = d' := by rw [← hsz]; simp
    have h2 : zs.toArray.extract 0 zs.toArray.size = zs.toArray := by simp
    rw [h1, h2] at hperm
    simpa using hperm
   refine ⟨d'.toList.map Subtype.val, rfl, ?_, ?_, hp.map Subtype.val, ?_⟩
   · have h3 := sortW_heap (enc := fun z : Z64 => Value.int .i64 z.1) (n := n) (os := os) d' hg
     have h4 := take_putc (enc := fun z : Z64 => Value.int .i64 z.1) cur d'.toList (by omega)
     rw [hdl] at h4
     refine ⟨by simp, .inr ⟨g, cap, _, by simp [hdl], hb, h3, by simpa [hdl] using hn, hm, by simp [Sort.putCells, hs], ?_⟩⟩
     rw [List.length_map, hdl, Nat.mul_one, List.map_map]
     simpa using h4
   · exact sortW_grown d'
   · rw [List.pairwise_map, List.pairwise_iff_getElem]
     intro i j hi hj hij
     have := hsort i j (Nat.zero_le _) hij (by simp; omega)
     rw [zF_lt, decide_eq_false_iff_not] at this
     have hi' : i < d'.size := by simpa using hi
     have hj' : j < d'.size := by simpa using hj
     rw [getElem!_pos d' i hi', getElem!_pos d' j hj'] at this
     simpa using this
theorem sortE_set {xs ys : List Int} (hp : ys.Perm xs) (hs : ys.Pairwise fun a b => ¬ elt b a) (hn : xs.Nodup) (hv : ∀ x ∈ xs, varOf x ≠ 0) : ys = setL [] xs := by
 have hn' : ys.Nodup := hp.nodup_iff.2 hn
 have h1 : ys.Pairwise blt := by
  have h2 : ys.Pairwise fun a b => a ≠ b ∧ ¬ elt b a := by
   rw [List.pairwise_and_iff]; exact ⟨hn', hs⟩
  refine h2.imp_of_mem fun {a b} ha hb hab => ?_
  have va := hv a (hp.mem_iff.1 ha)
  have vb := hv b (hp.mem_iff.1 hb)
  rcases blt_tri a b with h3 | h3 | h3
  · exact h3
  · exact absurd h3 hab.1
  · exact absurd ((elt_blt vb va).2 h3) hab.2
 exact sorted_ext blt_asym h1 (setL_sorted xs List.Pairwise.nil) fun x => by rw [hp.mem_iff, mem_setL]; simp
theorem sortE_compact {xs ys : List Int} (hp : ys.Perm xs) (hs : ys.Pairwise fun a b => ¬ elt b a) (hv : ∀ x ∈ xs, varOf x ≠ 0) : Lib.compact ys = setL [] xs :=
 compact_setL (fun _ => hp.mem_iff) (hs.imp_of_mem fun {a b} ha hb hab h => hab ((elt_blt (hv b (hp.mem_iff.1 hb)) (hv a (hp.mem_iff.1 ha))).2 h))
end Go.Proofs.YtjecjaihficcdaaGreat
namespace Go.Proofs.YtjecjaihficcdaaGreat
open Go.RowKit Go.ChangeMaps
section
variable {κ : Type} [DecidableEq κ]
def idxK : List (κ × Value) → κ → Nat → Option (Nat × Value)
 | [], _, _ => none
 | p :: ps, n, i => if n = p.1 then some (i, p.2) else idxK ps n (i + 1)
def lkp (ks : List (κ × Value)) (n : κ) : Option Value := (ks.find? fun p => decide (n = p.1)).map Prod.snd
def kput : List (κ × Value) → κ → Value → List (κ × Value)
 | [], n, v => [(n, v)]
 | p :: ps, n, v => if n = p.1 then (n, v) :: ps else p :: kput ps n v
theorem idxK_val (ks : List (κ × Value)) (n : κ) : ∀ i, (idxK ks n i).map (·.2) = lkp ks n := by
 induction ks with
 | nil => intro i; rfl
 | cons p ps ih =>
   intro i
   unfold idxK lkp
   rw [List.find?_cons]
   by_cases h : n = p.1
   · simp [h]
   · simp only [h, if_false, decide_false]
     exact ih (i + 1)
theorem idxK_none {ks : List (κ × Value)} {n : κ} : ∀ {i}, idxK ks n i = none → n ∉ ks.map Prod.fst := by
 induction ks with
 | nil => intro i _; simp
 | cons p ps ih =>
   intro i h
   unfold idxK at h
   by_cases hp : n = p.1
   · rw [if_pos hp] at h; cases h
   · rw [if_neg hp] at h
     simp only [List.map_cons, List.mem_cons, not_or]
     exact ⟨hp, ih h⟩
theorem idxK_some {ks : List (κ × Value)} {n : κ} {v : Value} : ∀ {i j}, idxK ks n i = some (j, v) → i ≤ j ∧ ∃ h : j - i < ks.length, (ks[j - i]).1 = n ∧ ∀ u, kput ks n u = ks.set (j - i) (n, u) := by
 induction ks with
 | nil => intro i j h; cases h
 | cons p ps ih =>
   intro i j h
   unfold idxK at h
   by_cases hp : n = p.1
   · rw [if_pos hp] at h
     injection h with h; injection h with h1 h2
     subst h1
     exact ⟨Nat.le_refl _, by simp, by simpa using hp.symm, fun u => by unfold kput; rw [if_pos hp]; simp⟩
   · rw [if_neg hp] at h
     obtain ⟨h1, h2, h3, h4⟩ := ih h
     have e : j - i = (j - (i + 1)) + 1 := by omega
     refine ⟨by omega, by simp; omega, ?_, fun u => ?_⟩
     · simp only [e, List.getElem_cons_succ]; exact h3
     · unfold kput; rw [if_neg hp, h4 u, e, List.set_cons_succ]
theorem kput_new {ks : List (κ × Value)} {n : κ} (h : n ∉ ks.map Prod.fst) (v : Value) : kput ks n v = ks ++ [(n, v)] := by
 induction ks with
 | nil => rfl
 | cons p ps ih =>
   simp only [List.map_cons, List.mem_cons, not_or] at h
   unfold kput
   rw [if_neg h.1, ih h.2]; rfl
theorem lkp_kput (ks : List (κ × Value)) (n : κ) (v : Value) (k : κ) : lkp (kput ks n v) k = if k = n then some v else lkp ks k := by
 induction ks with
 | nil => unfold kput lkp; by_cases h : k = n <;> simp [h]
 | cons p ps ih =>
   unfold kput
   by_cases h : n = p.1
   · rw [if_pos h]
     unfold lkp
     by_cases hk : k = n
     · simp [hk]
     · have : ¬ k = p.1 := fun e => hk (e.trans h.symm)
       simp [hk, this]
   · rw [if_neg h]
     unfold lkp at ih ⊢
     by_cases hk : k = p.1
     · have : ¬ k = n := fun e => h (e.symm.trans hk)
       have h2 : ¬ p.1 = n := fun e => h e.symm
       simp [hk, h2]
     · simp only [List.find?_cons, hk, decide_false]
       exact ih
theorem lkp_mem {ks : List (κ × Value)} {n : κ} {v : Value} (h : lkp ks n = some v) : (n, v) ∈ ks := by
 unfold lkp at h
 obtain ⟨p, hp, rfl⟩ := Option.map_eq_some_iff.1 h
 have h1 := List.find?_some hp
 have h2 := List.mem_of_find?_eq_some hp
 have : n = p.1 := by simpa using h1
 rw [this]; exact h2
theorem lkp_none {ks : List (κ × Value)} {n : κ} : lkp ks n = none ↔ n ∉ ks.map Prod.fst := by
 unfold lkp
 rw [Option.map_eq_none_iff, List.find?_eq_none]
 simp only [List.mem_map, not_exists, not_and, decide_eq_true_eq]
 exact ⟨fun h p hp e => h p hp e.symm, fun h p hp e => h p hp e.symm⟩
structure KeyFam (P : Program) (K : TypeId) (kv : κ → Value) : Prop where
 inj : ∀ a b, kv a = kv b → a = b
 find : ∀ (ks : List (κ × Value)) (es : List MapEntry) (n : κ) (w : World), es.map (fun e => (e.key, e.val)) = ks.map (fun p => (kv p.1, p.2)) → (Instr.findKey K (kv n) es).run P w = .ok (idxK ks n 0) w
 chk : ∀ (b : Bool) (n : κ) (w : World), (Instr.checkKey b 10000 K (kv n)).run P w = .ok () w
 stay : ∀ (n : κ) (w : World), (Instr.keyThatStays (kv n) (kv n)).run P w = .ok (kv n) w
def MapK (kv : κ → Value) (w : World) (g : Nat) (ks : List (κ × Value)) : Prop :=
 ∃ (es : Array MapEntry) (clock : Nat), w.heap[g]? = some (.map es clock) ∧ MapKept.Stamped es clock ∧ es.toList.map (fun e => (e.key, e.val)) = ks.map (fun p => (kv p.1, p.2))
variable {P : Program} {T K E : TypeId} {kv : κ → Value} {w : World} {g : Nat} {ks : List (κ × Value)}
omit [DecidableEq κ] in
theorem MapK.lt (h : MapK kv w g ks) : g < w.heap.size := by obtain ⟨es, clock, hg, -⟩ := h; exact (Array.getElem?_eq_some_iff.1 hg).1
omit [DecidableEq κ] in
theorem MapK.keep {S : Nat → Prop} {w' : World} (h : MapK kv w g ks) (k : Chg S w w') (hn : ¬ S g) : MapK kv w' g ks := by
 obtain ⟨es, clock, hg, r⟩ := h
 exact ⟨es, clock, (k.block g (Array.getElem?_eq_some_iff.1 hg).1 hn).trans hg, r⟩
omit [DecidableEq κ] in
theorem MapK.ext {w' : World} (h : MapK kv w g ks) (k : Ext w w') : MapK kv w' g ks := h.keep (k.chg fun _ => False) id
omit [DecidableEq κ] in
theorem MapK.new (w : World) : MapK kv (w.alloc (.map #[] 0)) w.heap.size [] := ⟨#[], 0, heap_alloc_new w _, MapKept.stamped_empty 0, rfl⟩
theorem MapK.lookup (h : MapK kv w g ks) (F : KeyFam P K kv) (hT : P.underlying T = some (.map K E)) {z : Value} (hz : (zeroValue E).run P w = .ok z w) (n : κ) :
 (Instr.lookup T (.map (some g)) (kv n) false).run P w = .ok ((lkp ks n).getD z) w := by
 obtain ⟨es, clock, hg, hs, hm⟩ := h
 rw [← idxK_val ks n 0]
 have hf := F.find ks es.toList n w hm
 have hc := F.chk es.isEmpty n w
 cases hi : idxK ks n 0 with
 | none => rw [hi] at hf; simp [Instr.lookup, run_underlying hT, MapKept.run_getObj_map hg, hc, hf, hz, Result.andThen]
 | some jv => rw [hi] at hf; simp [Instr.lookup, run_underlying hT, MapKept.run_getObj_map hg, hc, hf, Result.andThen]
theorem MapK.lookup_ok (h : MapK kv w g ks) (F : KeyFam P K kv) (hT : P.underlying T = some (.map K E)) {z : Value} (hz : (zeroValue E).run P w = .ok z w) (n : κ) :
 (Instr.lookup T (.map (some g)) (kv n) true).run P w = .ok (.tuple #[(lkp ks n).getD z, .bool (lkp ks n).isSome]) w := by
 obtain ⟨es, clock, hg, hs, hm⟩ := h
 rw [← idxK_val ks n 0]
 have hf := F.find ks es.toList n w hm
 have hc := F.chk es.isEmpty n w
 cases hi : idxK ks n 0 with
 | none => rw [hi] at hf; simp [Instr.lookup, run_underlying hT, MapKept.run_getObj_map hg, hc, hf, hz, Result.andThen]
 | some jv => rw [hi] at hf; simp [Instr.lookup, run_underlying hT, MapKept.run_getObj_map hg, hc, hf, Result.andThen]
theorem MapK.update (h : MapK kv w g ks) (F : KeyFam P K kv) (hT : P.underlying T = some (.map K E)) (n : κ) (v : Value) :
 ∃ w', (Instr.mapUpdate T (.map (some g)) (kv n) v).run P w = .ok () w' ∧ MapK kv w' g (kput ks n v) ∧ Chg (fun k => k = g) w w' ∧ w'.heap.size = w.heap.size := by
 obtain ⟨es, clock, hg, hs, hm⟩ := h
 have hf := F.find ks es.toList n w hm
 have hc := F.chk false n w
 have hlen : es.toList.length = ks.length := by have := congrArg List.length hm; simpa using this
 have hkeys : ∀ (j : Nat) (h1 : j < es.toList.length) (h2 : j < ks.length), (es.toList[j]).key = kv (ks[j]).1 := fun j h1 h2 => by
  have := congrArg (fun l => l[j]?) hm
  simp only [List.getElem?_map, List.getElem?_eq_getElem h1, List.getElem?_eq_getElem h2, Option.map_some] at this
  injection this with this
  exact congrArg Prod.fst this
 cases hi : idxK ks n 0 with
 | none =>
   rw [hi] at hf
   have hno := idxK_none hi
   refine ⟨setObjW w g (.map (es.push { key := kv n, val := v, born := clock }) (clock + 1)), ?_, ⟨_, _, setObjW_at hg, ?_, ?_⟩, setObjW_chg w g _, by simp [setObjW]⟩
   · simp [Instr.mapUpdate, run_underlying hT, MapKept.run_getObj_map hg, hc, hf, Result.andThen, MapKept.run_setObj_map _ hg, setObjW]
   · refine MapKept.stamped_push hs fun x hx e => hno ?_
     obtain ⟨j, hj, rfl⟩ := List.getElem_of_mem hx
     have hj2 : j < ks.length := by omega
     rw [hkeys j hj hj2] at e
     rw [← F.inj _ _ e]
     exact List.mem_map.2 ⟨ks[j], List.getElem_mem hj2, rfl⟩
   · rw [Array.toList_push, List.map_append, hm, kput_new hno]; simp
 | some jv =>
   obtain ⟨j, ov⟩ := jv
   rw [hi] at hf
   obtain ⟨-, h2, h3, h4⟩ := idxK_some hi
   simp only [Nat.sub_zero] at h2 h3 h4
   have hjl : j < es.toList.length := by omega
   have hj : j < es.size := by simpa using hjl
   have hkj : es[j].key = kv n := by have := hkeys j hjl h2; rw [h3] at this; simpa using this
   have hes : (es.modify j fun e => { e with key := kv n, val := v }).toList = es.toList.set j { es.toList[j] with key := kv n, val := v } := by
    rw [Array.toList_modify, modify_set _ _ _ hjl]
   refine ⟨setObjW w g (.map (es.modify j fun e => { e with key := kv n, val := v }) clock), ?_, ⟨_, _, setObjW_at hg, ?_, ?_⟩, setObjW_chg w g _, by simp [setObjW]⟩
   · simp [Instr.mapUpdate, run_underlying hT, MapKept.run_getObj_map hg, hc, hf, Result.andThen, MapKept.run_setObj_map _ hg, setObjW, hj, hkj, F.stay]
   · exact MapKept.stamped_modify hs j _ (fun _ _ => rfl) (fun e _ he => by
      have : e = es[j] := by rw [Array.getElem?_eq_getElem hj] at he; injection he with he; exact he.symm
      rw [this, hkj])
   · rw [hes, h4 v, List.map_set, List.map_set, hm]
omit [DecidableEq κ] in
theorem MapK.nodup (h : MapK kv w g ks) : (ks.map Prod.fst).Nodup := by
 obtain ⟨es, clock, hg, ⟨-, -, h3⟩, hm⟩ := h
 have e : es.toList.map (fun e => e.key) = (ks.map Prod.fst).map kv := by
  have := congrArg (List.map Prod.fst) hm
  rw [List.map_map, List.map_map] at this
  rw [List.map_map]
  exact this
 rw [e] at h3
 exact (List.pairwise_map.1 h3).imp fun h e => h (by rw [e])
omit [DecidableEq κ] in
theorem MapK.size (h : MapK kv w g ks) : ∃ es clock, w.heap[g]? = some (.map es clock) ∧ es.size = ks.length := by
 obtain ⟨es, clock, hg, hs, hm⟩ := h
 exact ⟨es, clock, hg, by have := congrArg List.length hm; simpa using this⟩
end
section
variable {P : Program} {K E : TypeId}
theorem fam_int (hK : P.underlying K = some (.int .i64)) : KeyFam P K (fun n : Int => Value.int .i64 n) where
 inj := fun a b h => by injection h
 find := fun ks es n w h => by
  have : ∀ (ks : List (Int × Value)) (es : List MapEntry) (i : Nat), es.map (fun e => (e.key, e.val)) = ks.map (fun p => (Value.int .i64 p.1, p.2)) → Instr.findNow (.int .i64) (.int .i64 n) es i = some (idxK ks n i) := by
   intro ks
   induction ks with
   | nil => intro es i h; cases es with | nil => rfl | cons _ _ => simp at h
   | cons p ps ih =>
     intro es i h
     cases es with
     | nil => simp at h
     | cons e es =>
       simp only [List.map_cons, List.cons.injEq, Prod.mk.injEq] at h
       obtain ⟨⟨h1, h2⟩, h3⟩ := h
       simp only [Instr.findNow, h1, Instr.sameNow, if_true, idxK]
       by_cases hn : n = p.1
       · simp [hn, h2]
       · have : (n == p.1) = false := by simpa using hn
         simp [hn, this, ih es (i + 1) h3]
  simp [Instr.findKey, run_underlying hK, this ks es 0 h]
 chk := fun b n w => run_checkKey hK b n
 stay := fun n w => run_keyStays n
theorem fam_pair (hK : P.underlying K = some (.array 2 E)) (hE : P.underlying E = some (.int .i64)) (hag : ∀ w, (isAgg E).run P w = .ok false w) (hsz : ∀ w, (sizeOf E).run P w = .ok 1 w) :
 KeyFam P K (fun p : Int × Int => Value.agg #[.int .i64 p.1, .int .i64 p.2]) := by
 have hpt : ∀ (cs : Array Value) (j : Nat) (v : Value) (w : World), cs[j]? = some v → (part E cs j).run P w = .ok v w := fun cs j v w h => by
  simp [part, hag, Result.andThen, h]
 have hp0 : ∀ (x y : Value) (w : World), (part E #[x, y] 0).run P w = .ok x w := fun x y w => hpt _ 0 _ w rfl
 have hp1 : ∀ (x y : Value) (w : World), (part E #[x, y] 1).run P w = .ok y w := fun x y w => hpt _ 1 _ w rfl
 have heq : ∀ (d : Nat) (a b : Int × Int) (w : World), (Op.equalIn (d + 1 + 1) K (.agg #[.int .i64 a.1, .int .i64 a.2]) (.agg #[.int .i64 b.1, .int .i64 b.2])).run P w = .ok (decide (a = b)) w := fun d a b w => by
  have h1 : ∀ (x y : Int) (w : World), (Op.equalIn (d + 1) E (.int .i64 x) (.int .i64 y)).run P w = .ok (x == y) w := fun x y w => by
   simp [Op.equalIn, run_underlying hE, Result.andThen]
  have e : decide (a = b) = ((a.1 == b.1) && (a.2 == b.2)) := by rw [Bool.eq_iff_iff]; simp [Prod.ext_iff]
  rw [Op.equalIn.eq_def]
  simp only [Sem.run_bind, run_underlying hK, Result.andThen_ok, hsz]
  simp only [Std.Legacy.Range.forIn_eq_forIn_range', Std.Legacy.Range.size, Nat.sub_zero, Nat.add_one_sub_one, Nat.div_one, List.range'_succ, List.range'_zero, List.forIn_cons, List.forIn_nil, Nat.mul_one, Sem.run_bind]
  simp only [hp0, hp1, Result.andThen, h1, e]
  by_cases h5 : a.1 = b.1 <;> by_cases h6 : a.2 = b.2 <;> simp [Result.andThen, hp0, hp1, h1, h5, h6]
 have hck : ∀ (f : Nat) (b : Bool) (n : Int × Int) (w : World), (Instr.checkKey b (f + 1 + 1) K (.agg #[.int .i64 n.1, .int .i64 n.2])).run P w = .ok () w := fun f b n w => by
  have h1 : ∀ (x : Int) (w : World), (Instr.checkKey b (f + 1) E (.int .i64 x)).run P w = .ok () w := fun x w => by
   simp [Instr.checkKey, run_underlying hE]
  rw [Instr.checkKey.eq_def]
  simp only [Sem.run_bind, run_underlying hK, Result.andThen_ok, hsz]
  simp only [Std.Legacy.Range.forIn_eq_forIn_range', Std.Legacy.Range.size, Nat.sub_zero, Nat.add_one_sub_one, Nat.div_one, List.range'_succ, List.range'_zero, List.forIn_cons, List.forIn_nil, Nat.mul_one, Sem.run_bind]
  simp [Result.andThen, hp0, hp1, h1, hsz]
 have hst : ∀ (f : Nat) (n : Int × Int), Instr.sameBits (f + 1) (.agg #[.int .i64 n.1, .int .i64 n.2]) (.agg #[.int .i64 n.1, .int .i64 n.2]) = true := fun f n => by
  simp [Instr.sameBits, sameBits_int]
 refine ⟨fun a b h => ?_, fun ks es n w h => ?_, fun b n w => hck 9998 b n w, fun n w => ?_⟩
 · simp at h
   exact Prod.ext h.1 h.2
 · have hask : ∀ (ks : List ((Int × Int) × Value)) (es : List MapEntry) (i : Nat), es.map (fun e => (e.key, e.val)) = ks.map (fun p => (Value.agg #[.int .i64 p.1.1, .int .i64 p.1.2], p.2)) →
    (Instr.findAsking K (.agg #[.int .i64 n.1, .int .i64 n.2]) es i).run P w = .ok (idxK ks n i) w := by
    intro ks
    induction ks with
    | nil => intro es i h; cases es with | nil => rfl | cons _ _ => simp at h
    | cons p ps ih =>
      intro es i h
      cases es with
      | nil => simp at h
      | cons e es =>
        simp only [List.map_cons, List.cons.injEq, Prod.mk.injEq] at h
        obtain ⟨⟨h1, h2⟩, h3⟩ := h
        have hq : (Op.equal K (.agg #[.int .i64 n.1, .int .i64 n.2]) e.key).run P w = .ok (decide (n = p.1)) w := by
         rw [h1]; exact heq 9998 n p.1 w
        simp only [Instr.findAsking, Sem.run_bind, hq, Result.andThen_ok, idxK]
        by_cases hn : n = p.1
        · simp [hn, h2]
        · simp [hn, ih es (i + 1) h3]
   have hno : ∀ es : List MapEntry, es ≠ [] → es.map (fun e => (e.key, e.val)) = ks.map (fun p => (Value.agg #[.int .i64 p.1.1, .int .i64 p.1.2], p.2)) → Instr.findNow (.array 2 E) (.agg #[.int .i64 n.1, .int .i64 n.2]) es 0 = none := fun es h0 _ => by
    cases es with
    | nil => exact absurd rfl h0
    | cons e es => simp [Instr.findNow, Instr.sameNow]
   by_cases h0 : es = []
   · subst h0
     cases ks with
     | nil => simp [Instr.findKey, run_underlying hK, Instr.findNow, idxK, Result.andThen]
     | cons _ _ => simp at h
   · simp only [Instr.findKey, Sem.run_bind, run_underlying hK, Result.andThen_ok, hno es h0 h]
     exact hask ks es 0 h
 · have := hst 9999 n
   simp only [Instr.keyThatStays]
   rw [show (10000 : Nat) = 9999 + 1 from rfl, this]
   simp
end
end Go.Proofs.YtjecjaihficcdaaGreat
namespace Go.Proofs.YtjecjaihficcdaaGreat
def nbC (y : Int) : List Int → List Int
 | [a, b] => (if -a = y then [b] else []) ++ (if -b = y then [a] else [])
 | _ => []
def nbL (f : List (List Int)) (y : Int) : List Int := f.flatMap (nbC y)
def addN (l : List Int) (y : Int) : List Int := if y ∈ l then l else l ++ [y]
def addAll (l ys : List Int) : List Int := ys.foldl addN l
def bfs (nb : Int → List Int) : Nat → Nat → List Int → List Int
 | 0, _, l => l
 | n + 1, i, l => if h : i < l.length then bfs nb n (i + 1) (addAll l (nb l[i])) else l
def reachL (f : List (List Int)) (x : Int) : List Int := bfs (nbL f) (2 * f.length + 2) 0 [x]
inductive Rch (nb : Int → List Int) (x : Int) : Int → Prop
 | start : Rch nb x x
 | step {y z : Int} : Rch nb x y → z ∈ nb y → Rch nb x z
theorem Rch.trans {nb : Int → List Int} {x y z : Int} (h : Rch nb x y) (k : Rch nb y z) : Rch nb x z := by
 induction k with
 | start => exact h
 | step _ hz ih => exact ih.step hz
theorem nodup_len : ∀ (l u : List Int), l.Nodup → (∀ x ∈ l, x ∈ u) → l.length ≤ u.length
 | [], _, _, _ => by simp
 | x :: l, u, hn, hs => by
   rw [List.nodup_cons] at hn
   have hx := hs x (by simp)
   have h1 := nodup_len l (u.erase x) hn.2 (fun y hy => (List.mem_erase_of_ne (fun e => hn.1 (by rw [← e]; exact hy))).2 (hs y (by simp [hy])))
   rw [List.length_erase_of_mem hx] at h1
   have := List.length_pos_of_mem hx
   simp only [List.length_cons]
   omega
theorem addN_mem (l : List Int) (y z : Int) : z ∈ addN l y ↔ z ∈ l ∨ z = y := by
 unfold addN
 split
 · exact ⟨.inl, fun h => h.elim id (fun h => by rw [h]; assumption)⟩
 · simp
theorem addN_nodup {l : List Int} (y : Int) (h : l.Nodup) : (addN l y).Nodup := by
 unfold addN
 split
 · exact h
 · rename_i hn
   rw [List.nodup_append]
   exact ⟨h, by simp, fun a ha b hb e => by simp at hb; subst hb; subst e; exact hn ha⟩
theorem addN_pre (l : List Int) (y : Int) : ∃ r, addN l y = l ++ r := by
 unfold addN
 split
 · exact ⟨[], by simp⟩
 · exact ⟨_, rfl⟩
theorem addAll_cons (l : List Int) (y : Int) (ys : List Int) : addAll l (y :: ys) = addAll (addN l y) ys := rfl
theorem addAll_snoc (l ys : List Int) (y : Int) : addAll l (ys ++ [y]) = addN (addAll l ys) y := by unfold addAll; rw [List.foldl_append]; rfl
theorem addAll_mem : ∀ (ys l : List Int) (z : Int), z ∈ addAll l ys ↔ z ∈ l ∨ z ∈ ys
 | [], l, z => by simp [addAll]
 | y :: ys, l, z => by rw [addAll_cons, addAll_mem ys, addN_mem]; simp [or_assoc]
theorem addAll_nodup : ∀ (ys : List Int) {l : List Int}, l.Nodup → (addAll l ys).Nodup
 | [], _, h => h
 | y :: ys, _, h => by rw [addAll_cons]; exact addAll_nodup ys (addN_nodup y h)
theorem addAll_pre : ∀ (ys l : List Int), ∃ r, addAll l ys = l ++ r
 | [], l => ⟨[], by simp [addAll]⟩
 | y :: ys, l => by
   obtain ⟨r, hr⟩ := addN_pre l y
   obtain ⟨r', hr'⟩ := addAll_pre ys (addN l y)
   exact ⟨r ++ r', by rw [addAll_cons, hr', hr, List.append_assoc]⟩
theorem addAll_len (l ys : List Int) : l.length ≤ (addAll l ys).length := by
 obtain ⟨r, hr⟩ := addAll_pre ys l
 rw [hr]; simp
structure BfsInv (nb : Int → List Int) (x : Int) (i : Nat) (l : List Int) : Prop where
 nodup : l.Nodup
 mem : x ∈ l
 sound : ∀ y ∈ l, Rch nb x y
 done : ∀ (j : Nat) (h : j < l.length), j < i → ∀ z ∈ nb l[j], z ∈ l
theorem BfsInv.start (nb : Int → List Int) (x : Int) : BfsInv nb x 0 [x] :=
 ⟨by simp, by simp, fun y hy => by simp at hy; subst hy; exact .start, fun j _ h => absurd h (Nat.not_lt_zero j)⟩
theorem BfsInv.step {nb : Int → List Int} {x : Int} {i : Nat} {l : List Int} (h : BfsInv nb x i l) (hi : i < l.length) : BfsInv nb x (i + 1) (addAll l (nb l[i])) := by
 refine ⟨addAll_nodup _ h.nodup, (addAll_mem _ _ _).2 (.inl h.mem), fun y hy => ?_, fun j hj hji z hz => ?_⟩
 · rcases (addAll_mem _ _ _).1 hy with h1 | h1
   · exact h.sound y h1
   · exact (h.sound _ (List.getElem_mem hi)).step h1
 · obtain ⟨r, hr⟩ := addAll_pre (nb l[i]) l
   have hjl : j < l.length := by omega
   have e : (addAll l (nb l[i]))[j] = l[j] := by
    have : (addAll l (nb l[i]))[j]? = l[j]? := by rw [hr, List.getElem?_append_left hjl]
    rw [List.getElem?_eq_getElem hj, List.getElem?_eq_getElem hjl] at this
    exact Option.some.inj this
   rw [e] at hz
   rw [addAll_mem]
   rcases Nat.lt_or_ge j i with h1 | h1
   · exact .inl (h.done j hjl h1 z hz)
   · obtain rfl : j = i := by omega
     exact .inr hz
theorem bfs_spec (nb : Int → List Int) (x : Int) (u : List Int) (hu : ∀ y ∈ u, ∀ z ∈ nb y, z ∈ u) : ∀ (n i : Nat) (l : List Int), BfsInv nb x i l → (∀ y ∈ l, y ∈ u) → u.length + 1 ≤ n + i → i ≤ l.length →
 (bfs nb n i l).Nodup ∧ (∀ y ∈ bfs nb n i l, y ∈ u) ∧ ∀ y, y ∈ bfs nb n i l ↔ Rch nb x y := by
 intro n
 induction n with
 | zero =>
   intro i l h hs hn hi
   have := nodup_len l u h.nodup hs
   omega
 | succ n ih =>
   intro i l h hs hn hi
   unfold bfs
   split
   · rename_i hil
     exact ih (i + 1) _ (h.step hil) (fun y hy => ((addAll_mem _ _ _).1 hy).elim (hs y) (fun hz => hu _ (hs _ (List.getElem_mem hil)) y hz)) (by omega) (by have := addAll_len l (nb l[i]); omega)
   · rename_i hil
     refine ⟨h.nodup, hs, fun y => ⟨h.sound y, fun hr => ?_⟩⟩
     induction hr with
     | start => exact h.mem
     | step _ hz ih' =>
       obtain ⟨j, hj, rfl⟩ := List.getElem_of_mem ih'
       exact h.done j hj (by omega) _ hz
def lits2 (f : List (List Int)) : List Int := f.flatMap fun c => if c.length = 2 then c else []
theorem lits2_len : ∀ f : List (List Int), (lits2 f).length ≤ 2 * f.length
 | [] => by simp [lits2]
 | c :: f => by
   have := lits2_len f
   unfold lits2 at *
   rw [List.flatMap_cons, List.length_append, List.length_cons]
   split <;> simp_all <;> omega
theorem nbC_mem {y z : Int} {c : List Int} (h : z ∈ nbC y c) : c.length = 2 ∧ z ∈ c ∧ -y ∈ c := by
 unfold nbC at h
 split at h
 · rename_i a b
   rw [List.mem_append] at h
   rcases h with h | h
   · split at h
     · rename_i e; subst e; simp at h; subst h; simp
     · cases h
   · split at h
     · rename_i e; subst e; simp at h; subst h; simp
     · cases h
 · cases h
theorem nbL_mem {f : List (List Int)} {y z : Int} (h : z ∈ nbL f y) : z ∈ lits2 f ∧ -y ∈ lits2 f := by
 unfold nbL at h
 rw [List.mem_flatMap] at h
 obtain ⟨c, hc, hz⟩ := h
 obtain ⟨h1, h2, h3⟩ := nbC_mem hz
 unfold lits2
 rw [List.mem_flatMap, List.mem_flatMap]
 exact ⟨⟨c, hc, by rw [if_pos h1]; exact h2⟩, ⟨c, hc, by rw [if_pos h1]; exact h3⟩⟩
theorem reachL_spec (f : List (List Int)) (x : Int) : (reachL f x).Nodup ∧ (∀ y ∈ reachL f x, y = x ∨ y ∈ lits2 f) ∧ ∀ y, y ∈ reachL f x ↔ Rch (nbL f) x y := by
 have := bfs_spec (nbL f) x (x :: lits2 f) (fun y _ z hz => by simp [(nbL_mem hz).1]) (2 * f.length + 2) 0 [x] (.start _ _) (by simp) (by have := lits2_len f; simp; omega) (by simp)
 exact ⟨this.1, fun y hy => by simpa using this.2.1 y hy, this.2.2⟩
theorem reachL_len (f : List (List Int)) (x : Int) : (reachL f x).length ≤ 2 * f.length + 1 := by
 obtain ⟨h1, h2, -⟩ := reachL_spec f x
 have := nodup_len _ (x :: lits2 f) h1 (fun y hy => by simpa using h2 y hy)
 have := lits2_len f
 simp at *; omega
def ReachV (f : List (List Int)) (x : Int) : List Int := if varOf x = 0 ∨ mayCnfB f = false then [] else setL [] (reachL f x)
def graphLits (f : List (List Int)) : List Int := setL [] ((lits2 f).flatMap fun x => [x, -x])
def FailV (f : List (List Int)) : List Int := if mayCnfB f = false then [] else (graphLits f).filter fun x => decide (-x ∈ reachL f x)
theorem mem_graphLits (f : List (List Int)) (x : Int) : x ∈ graphLits f ↔ x ∈ lits2 f ∨ -x ∈ lits2 f := by
 unfold graphLits
 rw [mem_setL, List.mem_flatMap]
 constructor
 · rintro (h | ⟨y, hy, h⟩)
   · cases h
   · simp at h
     rcases h with rfl | rfl
     · exact .inl hy
     · exact .inr (by simpa using hy)
 · rintro (h | h)
   · exact .inr ⟨x, h, by simp⟩
   · exact .inr ⟨-x, h, by simp⟩
end Go.Proofs.YtjecjaihficcdaaGreat
