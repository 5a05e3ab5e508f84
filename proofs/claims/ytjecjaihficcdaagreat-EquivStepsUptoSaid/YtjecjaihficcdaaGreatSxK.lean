/- The law EquivSteps returns true for every input whose bulk is at most 1048576, and its argument reads behind the call as before: its one condition is that bulk. -/
import Derived.Test.YtjecjaihficcdaaGreatSxJ
import Derived.Test.YtjecjaihficcdaaGreatSxI
import Derived.Test.YtjecjaihficcdaaGreatSxD
import Derived.Deep.Cut
import Derived.Test.YtjecjaihficcdaaGreatSxE
namespace Go.Proofs.YtjecjaihficcdaaGreat
open Go.RowKit
theorem RD.shape {w : World} {vu vx vc : Value} {d : DqV} (h : RD w vu vx vc d) : ∃ A1 n1 c1 A2 n2 c2 A3 n3 c3, vu = .slice A1 n1 c1 ∧ vx = .slice A2 n2 c2 ∧ vc = .slice A3 n3 c3 := by
 obtain ⟨A1, n1, c1, h1⟩ := slice_of h.u
 obtain ⟨A2, c2, ons, h2, -⟩ := h.x
 obtain ⟨A3, c3, us, h3, -⟩ := h.c
 exact ⟨A1, n1, c1, A2, _, c2, A3, _, c3, h1, h2, h3⟩
theorem Make_yes (d : DqV) (c : ChV) (vu vx vc : Value) (w : World) (hd : RD w vu vx vc d) (ok : DOk d) (cok : COk c) (hm : mayD d = true) (hyes : okCh d c = true) : Calls Tryz.prog 21 #[.agg #[vu, vx, vc], .agg #[.int .u8 c.kind, .int .i64 c.lit, .int .i64 c.tz, .int .i64 c.pos, .int .i64 c.other]] w (PostMakeO w (madeV d c)) :=
 Make_own d c vu vx vc w hd ok cok hm hyes
def encC (l : List ChV) : List Value := l.flatMap fun c => [.int .u8 c.kind, .int .i64 c.lit, .int .i64 c.tz, .int .i64 c.pos, .int .i64 c.other]
theorem encC_snoc (l : List ChV) (c : ChV) : encC (l ++ [c]) = encC l ++ [.int .u8 c.kind, .int .i64 c.lit, .int .i64 c.tz, .int .i64 c.pos, .int .i64 c.other] := by unfold encC; rw [List.flatMap_append]; simp
def OwnC (w : World) (base : Nat) (v : Value) (l : List ChV) : Prop := w.ownsRow base 37 5 v l.length (encC l)
theorem info_change : (Tryz.prog.info? 37).map (fun i => (i.zero, i.size, i.bytes)) = some (some (.agg #[.int .u8 0, .int .i64 0, .int .i64 0, .int .i64 0, .int .i64 0]), 5, 40) := by kernel_rfl
def KD (p : Prop) (w0 w : World) (base : Nat) (u x c : Value) (d : DqV) : Prop := (p ∧ RD w0 u x c d) ∨ OwnD w base u x c d
theorem KD.reads {p : Prop} {w0 w : World} {base : Nat} {u x c : Value} {d : DqV} (h : KD p w0 w base u x c d) (hE : Ext w0 w) : RD w u x c d := h.elim (fun h => h.2.ext hE) (fun h => h.reads)
theorem KD.keep {p : Prop} {S : Nat → Prop} {w0 w w' : World} {base : Nat} {u x c : Value} {d : DqV} (h : KD p w0 w base u x c d) (hc : Chg S w w') (hS : ∀ i, S i → FarD w i) : KD p w0 w' base u x c d := h.imp_right fun h => h.keep hc hS
theorem KD.own {p : Prop} {w0 w : World} {base : Nat} {u x c : Value} {d : DqV} (h : KD p w0 w base u x c d) (hp : ¬ p) : OwnD w base u x c d := h.elim (fun h => absurd h.1 hp) id
theorem five_cells (w : World) (a b c d e : Value) (t : TypeId) : ∀ j u, [a, b, c, d, e][j]? = some u → (w.alloc (.cells #[a, b, c, d, e] t)).cell? ((⟨w.heap.size, 0, none⟩ : Addr).add j) = some u := fun j u hu => by
 have h : (w.alloc (.cells #[a, b, c, d, e] t)).heap[w.heap.size]? = some (.cells #[a, b, c, d, e] t (0, 0)) := heap_alloc_new w _
 have hadd : (⟨w.heap.size, 0, none⟩ : Addr).add j = ⟨w.heap.size, j, none⟩ := by unfold Addr.add; split <;> simp_all
 rw [hadd, cell_of_row _ _ j _ t (0, 0) h]
 simpa using hu
theorem far_row {w : World} {base size n : Nat} {e : TypeId} {v : Value} {xs : List Value} (h : w.ownsRow base e size v n xs) (h1 : e ≠ 3) (h2 : e ≠ 61) (h3 : e ≠ 24) : ∀ i, some i = v.ownBlock → FarD w i := fun i hi c hh => by
 obtain ⟨-, -, cur, h9⟩ := own_typed h hi.symm
 rw [h9] at hh
 rcases hh with hh | hh | hh <;> injection hh with hh <;> injection hh with _ hh
 · exact h1 hh
 · exact h2 hh
 · exact h3 hh
theorem own_lt {w : World} {base size n : Nat} {e : TypeId} {v : Value} {xs : List Value} (h : w.ownsRow base e size v n xs) : ∀ i, some i = v.ownBlock → i < w.heap.size := fun i hi => by
 obtain ⟨-, -, cur, h9⟩ := own_typed h hi.symm
 exact (Array.getElem?_eq_some_iff.1 h9).1
set_option maxRecDepth 100000 in
set_option maxHeartbeats 4000000 in
theorem Merge_no (d : DqV) (vu vx vc : Value) (w : World) (hd : RD w vu vx vc d) (ok : DOk d) (hm : mayD d = false) : Calls Tryz.prog 26 #[.agg #[vu, vx, vc]] w fun e w' => e = .returned (.tuple #[.agg #[.slice none 0 0, .slice none 0 0, .slice none 0 0], .slice none 0 0, .int .i64 2]) ∧ Ext w w' := by
 have HM := Lib.hid (fun w' (h : Ext w w') => MayD_any d vu vx vc w' ok.x64 ok.c64 (hd.u.ext h) (hd.x.ext h) (RLL.ext' hd.c h) (fun _ => by have := ok.tot; omega) ok.xl ok.ul)
 rw [hm] at HM
 obtain ⟨⟨UA, uc, hue, -⟩, ⟨XA, xc, ons, hxe, -⟩, ⟨CA, cc, us, hce, -⟩⟩ := hd
 subst hue hxe hce
 clear ok hm
 obtain ⟨W, hW, B0, B2, hEW, hsW⟩ := ow_new w (.slice UA d.univ.length uc) (.slice XA d.exist.length xc) (.slice CA us.length cc)
 have HB2 := Lib.hid B2
 have HEW := Lib.hid hEW
 have HW := Lib.hid hW
 clear B0 B2 hEW hsW hW
 go_enter Tryz.func26, Tryz.ntmps26
 go_wp2_with (go_at_call 54; rw [← HW.out]; refine (HM.out _ HEW.out).mono ?_; rintro e w2 ⟨rfl, hE2⟩; have HE2 := Lib.hid hE2; have hbx := (hE2.chg (fun _ => False)).blk HB2.out id; have b0 := hbx.cell 0; have b1 := hbx.cell 1; have b2 := hbx.cell 2; have f0 := hbx.free 0; have f1 := hbx.free 1; have f2 := hbx.free 2; simp only [List.getElem?_cons_zero, List.getElem?_cons_succ] at b0 b1 b2; clear hE2 hbx)
 refine bodyPost_ret (v := .tuple #[.agg #[.slice none 0 0, .slice none 0 0, .slice none 0 0], .slice none 0 0, .int .i64 2]) (by simp [results, Tryz.results26, go_sem, b0, b1, b2]) rfl ⟨rfl, ?_⟩
 have he := HEW.out.trans HE2.out
 repeat (refine Below.setCell ?_ (by simp <;> omega) _)
 exact he
@[reducible] def put3 (w : World) (g : Nat) (a b c : Value) : World := ((w.setCell ⟨g, 0, none⟩ a).setCell ⟨g, 1, none⟩ b).setCell ⟨g, 2, none⟩ c
@[reducible] def put5 (w : World) (g : Nat) (a b c d e : Value) : World := ((((w.setCell ⟨g, 0, none⟩ a).setCell ⟨g, 1, none⟩ b).setCell ⟨g, 2, none⟩ c).setCell ⟨g, 3, none⟩ d).setCell ⟨g, 4, none⟩ e
theorem put3_blk {w : World} {g : Nat} {t : TypeId} {a0 b0 c0 a b c : Value} (h : Blk w g t [a0, b0, c0]) : Blk (put3 w g a b c) g t [a, b, c] := ((h.set 0 a).set 1 b).set 2 c
theorem put5_blk {w : World} {g : Nat} {t : TypeId} {a0 b0 c0 d0 e0 a b c d e : Value} (h : Blk w g t [a0, b0, c0, d0, e0]) : Blk (put5 w g a b c d e) g t [a, b, c, d, e] := ((((h.set 0 a).set 1 b).set 2 c).set 3 d).set 4 e
theorem put3_chg (w : World) (g : Nat) (a b c : Value) : Chg (fun i => i = g) w (put3 w g a b c) := ((Chg.set w _ _ _).trans (Chg.set _ _ _ _)).trans (Chg.set _ _ _ _)
theorem put5_chg (w : World) (g : Nat) (a b c d e : Value) : Chg (fun i => i = g) w (put5 w g a b c d e) := ((((Chg.set w _ _ _).trans (Chg.set _ _ _ _)).trans (Chg.set _ _ _ _)).trans (Chg.set _ _ _ _)).trans (Chg.set _ _ _ _)
theorem five_put3 (w : World) (g : Nat) (x y z : Value) (a b c d e : Value) (t : TypeId) : ∀ j u, [a, b, c, d, e][j]? = some u → ((put3 w g x y z).alloc (.cells #[a, b, c, d, e] t)).cell? ((⟨w.heap.size, 0, none⟩ : Addr).add j) = some u := by
 have h := five_cells (put3 w g x y z) a b c d e t
 have hs : (put3 w g x y z).heap.size = w.heap.size := by simp
 rwa [hs] at h
theorem mg_round {W w5 wM wP wN : World} {B cb m : Nat} {u x c u2 x2 c2 v v' k e t p o k2 e2 t2 p2 o2 : Value} {dk : DqV} (hBD : Blk w5 B 27 [u, x, c]) (hBC : Blk w5 cb 37 [k, e, t, p, o]) (hn : v.ownBlock ≠ some cb) {l : List ChV}
 (hrow : OwnC w5 W.heap.size v l) (hb : W.heap.size ≤ w5.heap.size) (hO : OwnD wM w5.heap.size u2 x2 c2 dk) (hEM : Ext w5 wM) (hCG : Chg (fun i => W.heap.size ≤ i ∨ i = B) W w5) :
 (Blk wM B 27 [u, x, c] ∧ Blk wM cb 37 [k, e, t, p, o] ∧ Blk (put3 wM B u2 x2 c2) cb 37 [k, e, t, p, o]) ∧
 OwnC ((put3 wM B u2 x2 c2).alloc (.cells #[k, e, t, p, o] 37)) W.heap.size v l ∧
 (((put3 wM B u2 x2 c2).alloc (.cells #[k, e, t, p, o] 37)).grownBy wP v.ownBlock → wP.ownsRow W.heap.size 37 5 v' m (encC l ++ [k, e, t, p, o]) →
   (Blk wP B 27 [u2, x2, c2] ∧ Blk wP cb 37 [k, e, t, p, o] ∧ Blk (wP.alloc (.cells #[k, e, t, p, o] 37)) B 27 [u2, x2, c2] ∧ Blk (wP.alloc (.cells #[k, e, t, p, o] 37)) wP.heap.size 37 [k, e, t, p, o]) ∧
   OwnD (wP.alloc (.cells #[k, e, t, p, o] 37)) W.heap.size u2 x2 c2 dk ∧ W.heap.size ≤ wP.heap.size ∧ v'.ownBlock ≠ some wP.heap.size ∧
   (Ext (wP.alloc (.cells #[k, e, t, p, o] 37)) wN → Blk wN wP.heap.size 37 [k, e, t, p, o] ∧
    Blk (put5 wN wP.heap.size k2 e2 t2 p2 o2) B 27 [u2, x2, c2] ∧ OwnD (put5 wN wP.heap.size k2 e2 t2 p2 o2) W.heap.size u2 x2 c2 dk ∧ Blk (put5 wN wP.heap.size k2 e2 t2 p2 o2) wP.heap.size 37 [k2, e2, t2, p2, o2] ∧
    (put5 wN wP.heap.size k2 e2 t2 p2 o2).ownsRow W.heap.size 37 5 v' m (encC l ++ [k, e, t, p, o]) ∧ Chg (fun i => W.heap.size ≤ i ∨ i = B) W (put5 wN wP.heap.size k2 e2 t2 p2 o2))) := by
 have bM := hBD.ext hEM
 have cM := hBC.ext hEM
 have hne : cb ≠ B := fun h => by
  subst h
  unfold Blk at hBD hBC
  rw [hBD] at hBC
  injection hBC with hBC
  injection hBC with _ hBC
  exact absurd hBC (by decide)
 have h3 := put3_chg wM B u2 x2 c2
 have b3 : Blk (put3 wM B u2 x2 c2) B 27 [u2, x2, c2] := put3_blk bM
 have c3 := h3.blk cM hne
 have r3 : OwnC (put3 wM B u2 x2 c2) W.heap.size v l := h3.own (own_ext hrow hEM) (fun b hb hs => fin_neq bM (own_ext hrow hEM) (by decide) (hs ▸ hb))
 have o3 : OwnD (put3 wM B u2 x2 c2) w5.heap.size u2 x2 c2 dk := hO.keep h3 (fun i hi => hi ▸ far_blk bM (by decide) (by decide) (by decide))
 have hA := Ext.alloc (put3 wM B u2 x2 c2) (.cells #[k, e, t, p, o] 37)
 have r4 := own_ext r3 hA
 refine ⟨⟨bM, cM, c3⟩, r4, fun hgr hown => ?_⟩
 have h5 := grown_chg hgr
 have b5 := h5.blk (b3.ext hA) (fun h => fin_neq (b3.ext hA) r4 (by decide) h.symm)
 have c5 := h5.blk (c3.ext hA) (fun h => hn h.symm)
 have o5 : OwnD wP w5.heap.size u2 x2 c2 dk := (o3.ext hA).keep h5 (far_row r4 (by decide) (by decide) (by decide))
 have hA2 := Ext.alloc wP (.cells #[k, e, t, p, o] 37)
 have n5 : Blk (wP.alloc (.cells #[k, e, t, p, o] 37)) wP.heap.size 37 [k, e, t, p, o] := Blk.new wP 37 [k, e, t, p, o]
 have o6 := (o5.ext hA2).lower hb
 have hsz : W.heap.size ≤ wP.heap.size := by
  have h1 := hEM.size
  have h2 := h3.size
  have h4 := hA.size
  have h6 := h5.size
  omega
 have hv' : v'.ownBlock ≠ some wP.heap.size := fun h => by
  have := own_lt hown _ h.symm
  omega
 refine ⟨⟨b5, c5, b5.ext hA2, n5⟩, o6, hsz, hv', fun hEN => ?_⟩
 have n7 := n5.ext hEN
 have b7 := (b5.ext hA2).ext hEN
 have h8 := put5_chg wN wP.heap.size k2 e2 t2 p2 o2
 have hneB : B ≠ wP.heap.size := fun h => by
  have := b5.lt
  omega
 refine ⟨n7, h8.blk b7 hneB, (o6.ext hEN).keep h8 (fun i hi => hi ▸ far_blk n7 (by decide) (by decide) (by decide)), put5_blk n7, h8.own (own_ext (own_ext hown hA2) hEN) (fun b hb hs => hv' (hs ▸ hb)), ?_⟩
 have q1 : Chg (fun i => W.heap.size ≤ i ∨ i = B) w5 wM := hEM.chg _
 have q2 : Chg (fun i => W.heap.size ≤ i ∨ i = B) wM (put3 wM B u2 x2 c2) := h3.mono fun i hi => .inr hi
 have q3 : Chg (fun i => W.heap.size ≤ i ∨ i = B) (put3 wM B u2 x2 c2) _ := hA.chg _
 have q4 : Chg (fun i => W.heap.size ≤ i ∨ i = B) _ wP := h5.mono fun i hi => .inl (own_typed r4 hi.symm).1
 have q5 : Chg (fun i => W.heap.size ≤ i ∨ i = B) wP wN := (hA2.trans hEN).chg _
 exact ((((hCG.trans q1).trans q2).trans q3).trans q4).trans (q5.trans (h8.mono fun i hi => .inl (hi ▸ hsz)))
def PostMerge (w : World) (d : DqV) (e : Ending) (w' : World) : Prop := ∃ (l : List ChV) (u x c v : Value), e = .returned (.tuple #[.agg #[u, x, c], v, .int .i64 0]) ∧ Chain d l ∧ nextP (runC d l) = none ∧ OwnD w' w.heap.size u x c (runC d l) ∧ OwnC w' w.heap.size v l ∧ Ext w w'
set_option maxRecDepth 100000 in
set_option maxHeartbeats 8000000 in
theorem Merge_yes (d : DqV) (vu vx vc : Value) (w : World) (hd : RD w vu vx vc d) (ok : DOk d) (hm : mayD d = true) : Calls Tryz.prog 26 #[.agg #[vu, vx, vc]] w (PostMerge w d) := by
 have HM := Lib.hid (fun w' (h : Ext w w') => MayD_any d vu vx vc w' ok.x64 ok.c64 (hd.u.ext h) (hd.x.ext h) (RLL.ext' hd.c h) (fun _ => by have := ok.tot; omega) ok.xl ok.ul)
 rw [hm] at HM
 have HMM := Lib.hid hm
 have HD := Lib.hid hd
 have OK := Lib.hid ok
 obtain ⟨A1, n1, c1, A2, n2, c2, A3, n3, c3, h1, h2, h3⟩ := hd.shape
 subst h1 h2 h3
 clear ok hm hd
 obtain ⟨W, hW, B0, B2, hEW, hsW⟩ := ow_new w (.slice A1 n1 c1) (.slice A2 n2 c2) (.slice A3 n3 c3)
 have HB0 := Lib.hid B0
 have HB2 := Lib.hid B2
 have HEW := Lib.hid hEW
 have HW := Lib.hid hW
 have HSW := Lib.hid hsW
 clear B0 B2 hEW hsW hW
 obtain ⟨i2, hi, hz0, hz1, hz2⟩ := info_parts info_change
 have HI := Lib.hid hi
 have HZ := Lib.hid hz0
 have HZ1 := Lib.hid hz1
 have HZ2 := Lib.hid hz2
 clear hi hz0 hz1 hz2
 obtain ⟨R, hR⟩ : ∃ R, R = nextP d := ⟨_, rfl⟩
 have HN0 := Lib.hid (fun w' (h : Ext w w') => Next_any d (.slice A1 n1 c1) (.slice A2 n2 c2) (.slice A3 n3 c3) w' (HD.out.ext h) OK.out)
 rw [← hR] at HN0
 have HR := Lib.hid hR
 clear hR
 obtain ⟨k0, e0, t0, p0, o0, hk0⟩ : ∃ k0 e0 t0 p0 o0, chA R = #[.int .u8 k0, .int .i64 e0, .int .i64 t0, .int .i64 p0, .int .i64 o0] := by
  cases R with
  | none => exact ⟨_, _, _, _, _, rfl⟩
  | some c => exact ⟨_, _, _, _, _, rfl⟩
 unfold PostNext at HN0
 rw [hk0] at HN0
 have HK0 := Lib.hid hk0
 clear hk0
 go_enter Tryz.func26, Tryz.ntmps26
 go_wp2_with (first
  | (go_at_call 54; rw [← HW.out]; refine (HM.out _ HEW.out).mono ?_; rintro e w2 ⟨rfl, hE2⟩; have HE2 := Lib.hid hE2; have hbD := (hE2.chg (fun _ => False)).blk HB0.out id; have d0a := hbD.cell 0; have d1a := hbD.cell 1; have d2a := hbD.cell 2; simp only [List.getElem?_cons_zero, List.getElem?_cons_succ] at d0a d1a d2a; clear hbD hE2)
  | (go_at_call 19; refine (HN0.out _ (HEW.out.trans HE2.out)).mono ?_; rintro e w3 ⟨rfl, hE3⟩; have HE3 := Lib.hid (HE2.out.trans hE3); clear hE3))
 have hE4 : Ext W (w3.alloc (.cells #[.int .u8 k0, .int .i64 e0, .int .i64 t0, .int .i64 p0, .int .i64 o0] 37)) := HE3.out.trans (Ext.alloc w3 _)
 have hB4 : Blk (w3.alloc (.cells #[.int .u8 k0, .int .i64 e0, .int .i64 t0, .int .i64 p0, .int .i64 o0] 37)) w3.heap.size 37 [.int .u8 k0, .int .i64 e0, .int .i64 t0, .int .i64 p0, .int .i64 o0] := Blk.new w3 _ _
 have hD4 := HB0.out.ext hE4
 go_loopg [5, 6, 7] d.exist.length (fun gn a b cc wr => ∃ (l : List ChV) (cb : Nat) (u x c v : Value) (okb : Bool), v = a ∧ b = .pointer (some ⟨cb, 0, none⟩) ∧ cc = .bool okb ∧ gn + l.length = d.exist.length ∧ Hid ((nextP (runC d l)).isSome = okb) ∧ Hid (Chain d l) ∧ Hid (Blk wr w.heap.size 27 [u, x, c]) ∧ Hid (KD (l = []) w wr W.heap.size u x c (runC d l)) ∧ Hid (Blk wr cb 37 (chA (nextP (runC d l))).toList) ∧ Hid (W.heap.size ≤ cb) ∧ Hid (OwnC wr W.heap.size v l) ∧ Hid (v.ownBlock ≠ some cb) ∧ Hid (Chg (fun i => W.heap.size ≤ i ∨ i = w.heap.size) W wr))
 case atStart => exact ⟨[], _, _, _, _, _, _, rfl, rfl, rfl, rfl, Lib.hid (by rw [runC_nil, ← HR.out]), Lib.hid (Chain.nil d), Lib.hid hD4, Lib.hid (.inl ⟨rfl, HD.out⟩), Lib.hid (by rw [runC_nil, ← HR.out, HK0.out]; exact hB4), Lib.hid HE3.out.size, Lib.hid (World.ownsRow_nil _ _ _ 5), Lib.hid (fun h => by cases h), Lib.hid (hE4.chg _)⟩
 case round =>
  clear hE4 hB4 hD4
  obtain ⟨l, cb, u, x, c, v, okb, rfl, rfl, rfl, hgl, HOKB, HCH, HBD, HKD, HBC, HCB, HOC, HVN, HCG⟩ := hrel
  obtain ⟨w5, rfl⟩ : ∃ w5 : World, w5 = wr := ⟨_, rfl⟩
  have hE5 : Ext w w5 := HCG.out.toExt HEW.out (fun i hi => by have := HEW.out.size; omega)
  have hRD := HKD.out.reads hE5
  obtain ⟨A1', n1', c1', A2', n2', c2', A3', n3', c3', h1, h2, h3⟩ := hRD.shape
  subst h1 h2 h3
  obtain ⟨hmk, hok, hlen⟩ := chain_may HMM.out OK.out l HCH.out
  have b0 := HBD.out.cell 0
  have b1 := HBD.out.cell 1
  have b2 := HBD.out.cell 2
  simp only [List.getElem?_cons_zero, List.getElem?_cons_succ] at b0 b1 b2
  cases okb with
  | true =>
    obtain ⟨ch, hch⟩ := Option.isSome_iff_exists.1 HOKB.out
    rw [hch] at HBC
    obtain ⟨hcok, hyes, -, hch2⟩ := chain_step HMM.out OK.out HCH.out hch
    obtain ⟨hmk2, hok2, hlen2⟩ := chain_may HMM.out OK.out (l ++ [ch]) hch2
    have HMK := Lib.hid (Make_yes (runC d l) ch _ _ _ w5 hRD hok hcok hmk hyes)
    rw [← runC_snoc] at HMK
    have HNX := Lib.hid (fun w' u' x' c' (h : RD w' u' x' c' (runC d (l ++ [ch]))) => Next_any (runC d (l ++ [ch])) u' x' c' w' h hok2)
    obtain ⟨R2, hR2⟩ : ∃ R2, R2 = nextP (runC d (l ++ [ch])) := ⟨_, rfl⟩
    rw [← hR2] at HNX
    have HR2 := Lib.hid hR2
    obtain ⟨k2, e2, t2, p2, o2, hk2⟩ : ∃ k2 e2 t2 p2 o2, chA R2 = #[.int .u8 k2, .int .i64 e2, .int .i64 t2, .int .i64 p2, .int .i64 o2] := by
     cases R2 with
     | none => exact ⟨_, _, _, _, _, rfl⟩
     | some c => exact ⟨_, _, _, _, _, rfl⟩
    unfold PostNext at HNX
    rw [hk2] at HNX
    have HK2 := Lib.hid hk2
    have HCH2 := Lib.hid hch2
    rw [List.length_append, List.length_singleton] at hlen2
    have hxl := OK.out.xl
    have hll : l.length + 1 ≤ d.exist.length := by omega
    have hll2 : l.length ≤ 1000000 := by omega
    have HENC := Lib.hid (encC_snoc l ch)
    obtain ⟨ck, cl, ct, cp, co⟩ := ch
    change Hid (Blk w5 cb 37 [.int .u8 ck, .int .i64 cl, .int .i64 ct, .int .i64 cp, .int .i64 co]) at HBC
    have k0' := HBC.out.cell 0
    have k1' := HBC.out.cell 1
    have k2' := HBC.out.cell 2
    have k3' := HBC.out.cell 3
    have k4' := HBC.out.cell 4
    simp only [List.getElem?_cons_zero, List.getElem?_cons_succ] at k0' k1' k2' k3' k4'
    have HWS := Lib.hid HCG.out.size
    simp only at HMK HENC
    clear hR2 hk2 hch hch2 hmk hok hlen hcok hyes hmk2 hok2 hlen2 hxl hRD
    go_wp2_with (first
     | (go_at_call 21; refine HMK.out.mono ?_; rintro e wM ⟨u2, x2, c2, rfl, hO, hEM⟩; obtain ⟨A4, n4, c4, A5, n5, c5, A6, n6, c6, g1, g2, g3⟩ := hO.reads.shape; subst g1 g2 g3
        have HRD := fun (wP wN : World) (v' : Value) (m : Nat) => mg_round (wP := wP) (wN := wN) (v' := v') (m := m) (k2 := .int .u8 k2) (e2 := .int .i64 e2) (t2 := .int .i64 t2) (p2 := .int .i64 p2) (o2 := .int .i64 o2) HBD.out HBC.out HVN.out HOC.out HWS.out hO hEM HCG.out
        obtain ⟨bM, cM, c3⟩ := (HRD w w v 0).1
        have f0 := bM.free 0
        have f1 := bM.free 1
        have f2 := bM.free 2
        have y0 := bM.cell 0
        have y1 := bM.cell 1
        have y2 := bM.cell 2
        have m0 := c3.cell 0
        have m1 := c3.cell 1
        have m2 := c3.cell 2
        have m3 := c3.cell 3
        have m4 := c3.cell 4
        have q0 := cM.cell 0
        have q1 := cM.cell 1
        have q2 := cM.cell 2
        have q3 := cM.cell 3
        have q4 := cM.cell 4
        simp only [List.getElem?_cons_zero, List.getElem?_cons_succ] at y0 y1 y2 m0 m1 m2 m3 m4 q0 q1 q2 q3 q4
        have HRW := Lib.hid (HRD w w v 0).2.1
        have HR3 := Lib.hid (fun wP wN v' m => (HRD wP wN v' m).2.2)
        have HSM : Hid (W.heap.size ≤ wM.heap.size) := Lib.hid (Nat.le_trans HWS.out hEM.size)
        clear HRD bM cM c3 hO hEM)
     | (at_builtin; refine wpList_append_own _ rfl (.tmp 29) (.tmp 31) 47 rfl W.heap.size 37 i2 (.agg #[.int .u8 0, .int .i64 0, .int .i64 0, .int .i64 0, .int .i64 0]) 5 40 Tryz.underlying47 HI.out HZ.out HZ1.out HZ2.out rfl (by decide) v l.length (encC l) rfl HRW.out ⟨wM.heap.size, 0, none⟩ 1 1 [.int .u8 ck, .int .i64 cl, .int .i64 ct, .int .i64 cp, .int .i64 co] rfl rfl (five_put3 wM w.heap.size _ _ _ _ _ _ _ _ _) (by simp [Value.oneCell']) (by unfold maxLen; omega) (by omega) (by have := HSM.out; simp; omega) ?_
        intro v' wP hown hgr _
        obtain ⟨gP, capP, hvP, -⟩ := own_some hown
        subst hvP
        have HRD := fun wN => HR3.out wP wN _ _ hgr hown
        obtain ⟨⟨bP, cP, bQ, cQ⟩, oQ, sP, vP, -⟩ := HRD w
        have p0 := cP.cell 0
        have p1 := cP.cell 1
        have p2 := cP.cell 2
        have p3 := cP.cell 3
        have p4 := cP.cell 4
        have r0 := bQ.cell 0
        have r1 := bQ.cell 1
        have r2 := bQ.cell 2
        simp only [List.getElem?_cons_zero, List.getElem?_cons_succ] at p0 p1 p2 p3 p4 r0 r1 r2
        have HOQ := Lib.hid oQ
        have HSP := Lib.hid sP
        have HVP := Lib.hid vP
        have HR4 := Lib.hid (fun wN => (HRD wN).2.2.2.2)
        clear HRD bP cP bQ cQ oQ sP vP hown hgr)
     | (go_at_call 19; refine (HNX.out _ _ _ _ HOQ.out.reads).mono ?_; rintro e wN ⟨rfl, hEN⟩
        have HRN := Lib.hid (HR4.out wN hEN)
        have g0 := HRN.out.1.free 0
        have g1 := HRN.out.1.free 1
        have g2 := HRN.out.1.free 2
        have g3 := HRN.out.1.free 3
        have g4 := HRN.out.1.free 4
        have j0 := HRN.out.1.cell 0
        have j1 := HRN.out.1.cell 1
        have j2 := HRN.out.1.cell 2
        have j3 := HRN.out.1.cell 3
        have j4 := HRN.out.1.cell 4
        simp only [List.getElem?_cons_zero, List.getElem?_cons_succ] at j0 j1 j2 j3 j4
        clear hEN))
    go_roundg (d.exist.length - (l.length + 1))
    case measure => omega
    case rel =>
     obtain ⟨-, z1, z2, z3, z4, z5⟩ := HRN.out
     exact ⟨l ++ [⟨ck, cl, ct, cp, co⟩], wP.heap.size, _, _, _, _, _, rfl, rfl, rfl, by rw [List.length_append, List.length_singleton]; omega, Lib.hid (by rw [← HR2.out]), HCH2, Lib.hid z1, Lib.hid (.inr z2), Lib.hid (by rw [← HR2.out, HK2.out]; exact z3), HSP, Lib.hid (by unfold OwnC; rw [HENC.out, List.length_append, List.length_singleton]; exact z4), HVP, Lib.hid z5⟩
  | false =>
    have hnone : nextP (runC d l) = none := by simpa using HOKB.out
    have hvf : ∃ A c, v = .slice A l.length c := by
     obtain ⟨-, ⟨h1, h2⟩ | ⟨g, cap, cur, h1, -⟩⟩ := HOC.out
     · exact ⟨none, 0, by rw [h1, h2]⟩
     · exact ⟨_, _, h1⟩
    obtain ⟨VA, vc, hv⟩ := hvf
    subst hv
    have HNO := Lib.hid hnone
    have HB5 := Lib.hid (HCG.out.blk HB2.out (fun h => by have := HSW.out; omega))
    have HLE : Hid (w.heap.size ≤ W.heap.size) := Lib.hid HEW.out.size
    have HE5 := Lib.hid hE5
    have HRD := Lib.hid hRD
    have HOKL := Lib.hid hok
    obtain ⟨nl, hnl⟩ : ∃ nl, nl = l.length := ⟨_, rfl⟩
    rw [← hnl] at HOC
    have HNL := Lib.hid hnl
    by_cases hl : l = []
    · have hz : ((nl : Int) == 0) = true := by rw [hnl, hl]; rfl
      have HOW := Lib.hid (own_any (runC d l) _ _ _ w5 HRD.out HOKL.out)
      clear hnone hE5 hRD hmk hok hlen hl hgl
      rw [← hnl]
      clear hnl
      go_wp2_with (go_at_call 71; refine HOW.out.mono ?_; rintro e wO ⟨u2, x2, c2, rfl, hO, hEO⟩; obtain ⟨A4, n4, c4, A5, n5, c5, A6, n6, c6, g1, g2, g3⟩ := hO.reads.shape; subst g1 g2 g3
                   have bM := HBD.out.ext hEO
                   have bR := HB5.out.ext hEO
                   have h3 := put3_chg wO w.heap.size (.slice A4 n4 c4) (.slice A5 n5 c5) (.slice A6 n6 c6)
                   have b3 := put3_blk (a := .slice A4 n4 c4) (b := .slice A5 n5 c5) (c := .slice A6 n6 c6) bM
                   have bR3 := h3.blk bR (by omega)
                   have f0 := bM.free 0
                   have f1 := bM.free 1
                   have f2 := bM.free 2
                   have y0 := bM.cell 0
                   have y1 := bM.cell 1
                   have y2 := bM.cell 2
                   have s0 := b3.cell 0
                   have s1 := b3.cell 1
                   have s2 := b3.cell 2
                   have r0 := bR3.cell 0
                   have r1 := bR3.cell 1
                   have r2 := bR3.cell 2
                   have q0 := bR3.free 0
                   have q1 := bR3.free 1
                   have q2 := bR3.free 2
                   simp only [List.getElem?_cons_zero, List.getElem?_cons_succ] at y0 y1 y2 s0 s1 s2 r0 r1 r2
                   have HR3 := Lib.hid bR3
                   have HOO : Hid (OwnD (put3 wO w.heap.size (.slice A4 n4 c4) (.slice A5 n5 c5) (.slice A6 n6 c6)) w.heap.size (.slice A4 n4 c4) (.slice A5 n5 c5) (.slice A6 n6 c6) (runC d l)) := Lib.hid ((hO.keep h3 (fun i hi => hi ▸ far_blk bM (by decide) (by decide) (by decide))).lower (Nat.le_trans HLE.out HCG.out.size))
                   have HOV : Hid ((put3 wO w.heap.size (.slice A4 n4 c4) (.slice A5 n5 c5) (.slice A6 n6 c6)).ownsRow w.heap.size 37 5 (.slice VA nl vc) l.length (encC l)) := Lib.hid (own_lower (h3.own (own_ext HOC.out hEO) (fun b hb hs => fin_neq bM (own_ext HOC.out hEO) (by decide) (hs ▸ hb))) HLE.out)
                   have HEO := Lib.hid (HE5.out.trans hEO)
                   clear bM bR h3 b3 bR3 hO hEO)
      refine bodyPost_ret (v := .tuple #[.agg #[.slice A4 n4 c4, .slice A5 n5 c5, .slice A6 n6 c6], .slice VA nl vc, .int .i64 0]) (by simp [results, Tryz.results26, go_sem, r0, r1, r2]) rfl ⟨l, _, _, _, _, rfl, HCH.out, HNO.out, ?_, ?_, ?_⟩
      · exact HOO.out.keep (put3_chg _ (w.heap.size + 1) _ _ _) (fun i hi => hi ▸ far_blk HR3.out (by decide) (by decide) (by decide))
      · exact (put3_chg _ (w.heap.size + 1) _ _ _).own HOV.out (fun b hb hs => fin_neq HR3.out HOV.out (by decide) (hs ▸ hb))
      · have he := HEO.out
        repeat (refine Below.setCell ?_ (by simp <;> omega) _)
        exact he
    · have hz : ((nl : Int) == 0) = false := by
       rw [hnl]
       have : l.length ≠ 0 := fun h => hl (List.length_eq_zero_iff.1 h)
       simpa using this
      have HOD := Lib.hid (HKD.out.own hl)
      have r0 := HB5.out.cell 0
      have r1 := HB5.out.cell 1
      have r2 := HB5.out.cell 2
      have q0 := HB5.out.free 0
      have q1 := HB5.out.free 1
      have q2 := HB5.out.free 2
      simp only [List.getElem?_cons_zero, List.getElem?_cons_succ] at r0 r1 r2
      clear hnone hE5 hRD hmk hok hlen hl hgl
      rw [← hnl]
      clear hnl
      go_wp2
      refine bodyPost_ret (v := .tuple #[.agg #[.slice A1' n1' c1', .slice A2' n2' c2', .slice A3' n3' c3'], .slice VA nl vc, .int .i64 0]) (by simp [results, Tryz.results26, go_sem, r0, r1, r2]) rfl ⟨l, _, _, _, _, rfl, HCH.out, HNO.out, ?_, ?_, ?_⟩
      · exact (HOD.out.lower HLE.out).keep (put3_chg _ (w.heap.size + 1) _ _ _) (fun i hi => hi ▸ far_blk HB5.out (by decide) (by decide) (by decide))
      · exact (put3_chg _ (w.heap.size + 1) _ _ _).own (own_lower HOC.out HLE.out) (fun b hb hs => fin_neq HB5.out HOC.out (by decide) (hs ▸ hb))
      · have he := HE5.out
        repeat (refine Below.setCell ?_ (by simp <;> omega) _)
        exact he
end Go.Proofs.YtjecjaihficcdaaGreat
namespace Go.Proofs.YtjecjaihficcdaaGreat
open Go.RowKit
set_option maxHeartbeats 4000000 in
theorem Ints_refl (xs : List Int) (v u : Value) (w : World) (hr : RI w v xs) (kr : RI w u xs) :
 Calls Tryz.prog 62 #[v, u] w fun e w' => e = .returned (.bool true) ∧ ∃ n, w' = w.drewN n := by
 have HR := Lib.hid hr
 have KR := Lib.hid kr
 obtain ⟨A, c, rfl, h1, h2, -⟩ := hr
 obtain ⟨B, d, rfl, k1, k2, -⟩ := kr
 obtain ⟨m, hm⟩ : ∃ m, m = xs.length := ⟨_, rfl⟩
 have HM := Lib.hid hm
 rw [← hm] at h1 h2 k1 HR KR ⊢
 clear hm k2
 have hnm : ((m : Int) != (m : Int)) = false := by simp
 go_enter Tryz.func62, Tryz.ntmps62
 go_wp2
 go_loopg [5] m (fun gn i wr => ∃ k : Nat, k ≤ m ∧ gn + k = m ∧ i = .int .i64 k ∧ Hid (∃ n, wr = w.drewN n))
 case atStart => exact ⟨0, Nat.zero_le _, by omega, rfl, ⟨0, rfl⟩⟩
 case round =>
  obtain ⟨k, hk, hgk, rfl, HI⟩ := hrel
  obtain ⟨wk, rfl⟩ : ∃ wk : World, wk = wr := ⟨_, rfl⟩
  have HE : Hid (Ext w wk) := Lib.hid (by obtain ⟨n, e⟩ := HI.out; rw [e]; exact Ext.drewN _ _)
  by_cases hlt : k < m
  · have hlx : k < xs.length := by have := HM.out; omega
    obtain ⟨ad, rfl, hx0⟩ := (HR.out.ext HE.out).row.2.2.2.int k hlx
    obtain ⟨bd, rfl, hy0⟩ := (KR.out.ext HE.out).row.2.2.2.int k hlx
    generalize xs[k] = x at hx0 hy0
    have hxx : (x != x) = false := by simp
    clear hlx
    go_wp2
    go_quiet (fail)
    go_wp2
    go_roundg (m - (k + 1))
    case measure => omega
    case rel =>
     refine ⟨k + 1, by omega, by omega, by go_num, ?_⟩
     obtain ⟨n, e⟩ := HI.out
     exact ⟨_, by rw [e, drewN_two]⟩
  · obtain rfl : k = m := by omega
    go_wp2
    go_ret
    exact ⟨rfl, HI.out⟩
theorem Ints_quiet (xs : List Int) (v u : Value) (w : World) (n : Nat) (hr : RI (w.drewN n) v xs) (kr : RI (w.drewN n) u xs) :
 Calls Tryz.prog 62 #[v, u] (w.drewN n) fun e w' => e = .returned (.bool true) ∧ ∃ m, w' = w.drewN m := by
 refine (Ints_refl xs v u _ hr kr).mono ?_
 rintro e w' ⟨h, m, rfl⟩
 exact ⟨h, _, drewN_two _ _ _⟩
set_option maxHeartbeats 4000000 in
theorem Lists_refl (f : List (List Int)) (v u : Value) (w : World) (hr : RLL w v f) (kr : RLL w u f) :
 Calls Tryz.prog 63 #[v, u] w fun e w' => e = .returned (.bool true) ∧ ∃ n, w' = w.drewN n := by
 obtain ⟨A, c, vs, rfl, h1, h2, h3, h4, h5⟩ := hr
 obtain ⟨B, d, us, rfl, k1, k2, k3, k4, k5⟩ := kr
 have H3 := Lib.hid h3
 have K3 := Lib.hid k3
 have H5 := Lib.hid h5
 have K5 := Lib.hid k5
 have H4 := Lib.hid h4
 have K4 := Lib.hid k4
 obtain ⟨m, hm⟩ : ∃ m, m = vs.length := ⟨_, rfl⟩
 have HM := Lib.hid hm
 have hum : us.length = m := by rw [hm, h4, k4]
 rw [← hm] at h1 h2 ⊢
 rw [hum] at k1 k2 ⊢
 have HU := Lib.hid hum
 clear hm hum h3 k3 h5 k5 h4 k4 k2
 have hnm : ((m : Int) != (m : Int)) = false := by simp
 go_enter Tryz.func63, Tryz.ntmps63
 go_wp2
 go_loopg [5] m (fun gn i wr => ∃ k : Nat, k ≤ m ∧ gn + k = m ∧ i = .int .i64 k ∧ Hid (∃ n, wr = w.drewN n))
 case atStart => exact ⟨0, Nat.zero_le _, by omega, rfl, ⟨0, rfl⟩⟩
 case round =>
  obtain ⟨k, hk, hgk, rfl, HI⟩ := hrel
  obtain ⟨wk, rfl⟩ : ∃ wk : World, wk = wr := ⟨_, rfl⟩
  have HE : Hid (Ext w wk) := Lib.hid (by obtain ⟨n, e⟩ := HI.out; rw [e]; exact Ext.drewN _ _)
  by_cases hlt : k < m
  · have hkv : k < vs.length := by have := HM.out; omega
    have hku : k < us.length := by have := HU.out; omega
    have hkf : k < f.length := by have := H4.out; omega
    obtain ⟨ad, rfl, hx0⟩ := (H3.out.ext HE.out) k hkv
    obtain ⟨bd, rfl, hy0⟩ := (K3.out.ext HE.out) k hku
    have hvk := (H5.out k hkv hkf).ext HE.out
    have huk := (K5.out k hku hkf).ext HE.out
    generalize vs[k] = vk at hx0 hvk
    generalize us[k] = uk at hy0 huk
    generalize f[k] = F at hvk huk
    obtain ⟨VA, vn, vc, rfl⟩ := slice_of hvk
    obtain ⟨VB, un, uc, rfl⟩ := slice_of huk
    have HVK := Lib.hid hvk
    have HUK := Lib.hid huk
    clear hkv hku hkf hvk huk
    go_wp2
    go_quiet ((go_at_call 62; exact Ints_quiet F _ _ wk _ (HVK.out.ext (Ext.drewN _ _)) (HUK.out.ext (Ext.drewN _ _))))
    go_wp2
    go_roundg (m - (k + 1))
    case measure => omega
    case rel =>
     refine ⟨k + 1, by omega, by omega, by go_num, ?_⟩
     obtain ⟨n, e⟩ := HI.out
     exact ⟨_, by rw [e, drewN_two]⟩
  · obtain rfl : k = m := by omega
    go_wp2
    go_ret
    exact ⟨rfl, HI.out⟩
set_option maxHeartbeats 8000000 in
theorem SameD_refl (d : DqV) (au ax ac bu bx bc : Value) (w : World) (ha : RD w au ax ac d) (hb : RD w bu bx bc d) :
 Calls Tryz.prog 23 #[.agg #[au, ax, ac], .agg #[bu, bx, bc]] w fun e w' => e = .returned (.bool true) ∧ Ext w w' := by
 have HA := Lib.hid ha
 have HB := Lib.hid hb
 obtain ⟨⟨A1, c1, h1, -⟩, ⟨A2, c2, on1, h2, -, -, o1, -⟩, ⟨A3, c3, us, h3, -⟩⟩ := ha
 obtain ⟨⟨B1, d1, k1, -⟩, ⟨B2, d2, on2, k2, -, -, o2, -⟩, ⟨B3, d3, vs, k3, -⟩⟩ := hb
 subst h1 h2 h3 k1 k2 k3
 obtain ⟨m, hm⟩ : ∃ m, m = d.exist.length := ⟨_, rfl⟩
 have HM := Lib.hid hm
 have hml : m ≤ 9223372036854775807 := by obtain ⟨A, c, ons, -, -, h, -⟩ := HA.out.x; rw [hm]; exact h
 rw [← hm] at HA HB ⊢
 clear hm o1 o2
 have fct : ∃ W : World, W = (w.alloc (.cells #[.slice A1 d.univ.length c1, .slice A2 m c2, .slice A3 us.length c3] 27)).alloc (.cells #[.slice B1 d.univ.length d1, .slice B2 m d2, .slice B3 vs.length d3] 27) ∧
  Blk W w.heap.size 27 [.slice A1 d.univ.length c1, .slice A2 m c2, .slice A3 us.length c3] ∧ Blk W (w.heap.size + 1) 27 [.slice B1 d.univ.length d1, .slice B2 m d2, .slice B3 vs.length d3] ∧ Ext w W := by
  refine ⟨_, rfl, ?_, Blk.new' (by simp), (Ext.alloc w _).trans (Ext.alloc _ _)⟩
  exact ((Ext.alloc _ _).chg (fun _ => False)).blk (Blk.new w 27 _) id
 obtain ⟨W, hW, b1, b2, hE⟩ := fct
 have HW := Lib.hid hW
 have HE := Lib.hid hE
 have FC : Hid (∀ wr, Ext W wr → (wr.cell? ⟨w.heap.size, 0, none⟩ = some (.slice A1 d.univ.length c1) ∧ wr.cell? ⟨w.heap.size, 1, none⟩ = some (.slice A2 m c2) ∧ wr.cell? ⟨w.heap.size, 2, none⟩ = some (.slice A3 us.length c3)) ∧
  (wr.cell? ⟨w.heap.size + 1, 0, none⟩ = some (.slice B1 d.univ.length d1) ∧ wr.cell? ⟨w.heap.size + 1, 1, none⟩ = some (.slice B2 m d2) ∧ wr.cell? ⟨w.heap.size + 1, 2, none⟩ = some (.slice B3 vs.length d3))) := Lib.hid (fun wr h => by
  have q1 := (h.chg (fun _ => False)).blk b1 id
  have q2 := (h.chg (fun _ => False)).blk b2 id
  exact ⟨⟨q1.cell 0, q1.cell 1, q1.cell 2⟩, ⟨q2.cell 0, q2.cell 1, q2.cell 2⟩⟩)
 clear hW hE b1 b2
 obtain ⟨⟨p0, p1, p2⟩, ⟨q0, q1, q2⟩⟩ := FC.out W (Ext.refl _)
 have hmm : ((m : Int) != (m : Int)) = false := by simp
 go_enter Tryz.func23, Tryz.ntmps23
 go_upto_region 1 with fail
 rw [← HW.out]
 go_upto_region 3 with (first
  | (go_at_call 62; refine (Ints_refl d.univ _ _ _ (HA.out.u.ext HE.out) (HB.out.u.ext HE.out)).mono ?_; rintro e wa ⟨rfl, n, rfl⟩; have HEa : Hid (Ext W (W.drewN n)) := Lib.hid (Ext.drewN W n); obtain ⟨⟨p0a, p1a, p2a⟩, ⟨q0a, q1a, q2a⟩⟩ := FC.out _ HEa.out; generalize W.drewN n = wa at HEa p0a p1a p2a q0a q1a q2a ⊢)
  | (go_at_call 63; refine (Lists_refl d.clauses _ _ _ (RLL.ext' HA.out.c (HE.out.trans HEa.out)) (RLL.ext' HB.out.c (HE.out.trans HEa.out))).mono ?_; rintro e wb ⟨rfl, n, rfl⟩; have HEb : Hid (Ext W (wa.drewN n)) := Lib.hid (HEa.out.trans (Ext.drewN wa n)); generalize wa.drewN n = wb at HEb ⊢))
 clear p0 p1 p2 q0 q1 q2 p0a p1a p2a q0a q1a q2a
 go_wp2
 go_loopg [5] m (fun gn i wr => ∃ k : Nat, k ≤ m ∧ gn + k = m ∧ i = .int .i64 k ∧ Hid (Ext W wr))
 case atStart => exact ⟨0, Nat.zero_le _, by omega, rfl, HEb⟩
 case round =>
  obtain ⟨k, hk, hgk, rfl, HI⟩ := hrel
  obtain ⟨wk, rfl⟩ : ∃ wk : World, wk = wr := ⟨_, rfl⟩
  obtain ⟨⟨-, p1, -⟩, ⟨-, q1, -⟩⟩ := FC.out _ HI.out
  by_cases hlt : k < m
  · have hkx : k < d.exist.length := by have := HM.out; omega
    have hEk := HE.out.trans HI.out
    obtain ⟨A', c', ons, ea, -, -, e4, e5⟩ := HA.out.x.ext hEk
    obtain ⟨B', c'', ons', eb, -, -, f4, f5⟩ := HB.out.x.ext hEk
    injection ea with a1 a2 a3
    injection eb with b1 b2 b3
    subst a1 b1
    obtain ⟨ad, rfl, x1, x2, x3⟩ := e5 k hkx (by omega)
    obtain ⟨bd, rfl, y1, y2, y3⟩ := f5 k hkx (by omega)
    generalize d.exist[k] = X at x1 x3 y1 y3
    generalize ons[k] = o1 at x2 x3
    generalize ons'[k] = o2 at y2 y3
    obtain ⟨OA, on, oc, rfl⟩ := slice_of x3
    obtain ⟨OB, un, uc, rfl⟩ := slice_of y3
    have HX3 := Lib.hid x3
    have HY3 := Lib.hid y3
    obtain ⟨X1, X2⟩ := X
    dsimp only at x1 y1 HX3 HY3
    have hxx : (X1 != X1) = false := by simp
    clear hkx hEk e4 e5 f4 f5 x3 y3 a2 a3 b2 b3
    go_wp2
    go_quiet ((go_at_call 62; exact Ints_quiet X2 _ _ wk _ (HX3.out.ext (Ext.drewN _ _)) (HY3.out.ext (Ext.drewN _ _))))
    go_wp2
    go_roundg (m - (k + 1))
    case measure => omega
    case rel => exact ⟨k + 1, by omega, by omega, by go_num, Lib.hid (HI.out.trans (Ext.drewN _ _))⟩
  · obtain rfl : k = m := by omega
    go_wp2
    go_ret
    exact ⟨rfl, HE.out.trans HI.out⟩
end Go.Proofs.YtjecjaihficcdaaGreat
namespace Go.Proofs.YtjecjaihficcdaaGreat
open Go.RowKit
theorem encC_at : ∀ (l : List ChV) (k : Nat) (h : k < l.length), (encC l)[k * 5]? = some (.int .u8 l[k].kind) ∧ (encC l)[k * 5 + 1]? = some (.int .i64 l[k].lit) ∧ (encC l)[k * 5 + 2]? = some (.int .i64 l[k].tz) ∧ (encC l)[k * 5 + 3]? = some (.int .i64 l[k].pos) ∧ (encC l)[k * 5 + 4]? = some (.int .i64 l[k].other)
 | [], k, h => absurd h (Nat.not_lt_zero k)
 | c :: l, 0, _ => ⟨rfl, rfl, rfl, rfl, rfl⟩
 | c :: l, k + 1, h => by
   have := encC_at l k (by simpa using h)
   have e : encC (c :: l) = .int .u8 c.kind :: .int .i64 c.lit :: .int .i64 c.tz :: .int .i64 c.pos :: .int .i64 c.other :: encC l := rfl
   rw [e, show (k + 1) * 5 = k * 5 + 1 + 1 + 1 + 1 + 1 by omega]
   simp only [List.getElem?_cons_succ, List.getElem_cons_succ]
   exact this
theorem OwnC.at {w : World} {base : Nat} {v : Value} {l : List ChV} (h : OwnC w base v l) (k : Nat) (hk : k < l.length) : ∃ ad c, v = .slice (some ad) l.length c ∧ w.cell? (ad.add (k * 5)) = some (.int .u8 l[k].kind) ∧ w.cell? ⟨(ad.add (k * 5)).block, (ad.add (k * 5)).off + 1, none⟩ = some (.int .i64 l[k].lit) ∧
 w.cell? ⟨(ad.add (k * 5)).block, (ad.add (k * 5)).off + 2, none⟩ = some (.int .i64 l[k].tz) ∧ w.cell? ⟨(ad.add (k * 5)).block, (ad.add (k * 5)).off + 3, none⟩ = some (.int .i64 l[k].pos) ∧ w.cell? ⟨(ad.add (k * 5)).block, (ad.add (k * 5)).off + 4, none⟩ = some (.int .i64 l[k].other) := by
 obtain ⟨h0, ⟨rfl, h1⟩ | ⟨g, cap, cur, rfl, hb, hg, hn, hm, hs, ht⟩⟩ := h
 · omega
 · have hcell : ∀ i, i < l.length * 5 → w.cell? ⟨g, i, none⟩ = (encC l)[i]? := fun i hi => by
    rw [cell_of_row w g _ cur _ (0, 0) hg]
    have h9 : (cur.toList.take (l.length * 5))[i]? = (encC l)[i]? := by rw [ht]
    rw [List.getElem?_take_of_lt hi, Array.getElem?_toList] at h9
    exact h9
   obtain ⟨q0, q1, q2, q3, q4⟩ := encC_at l k hk
   refine ⟨_, cap, rfl, ?_⟩
   rw [addr0]
   exact ⟨(hcell (k * 5) (by omega)).trans q0, (hcell (k * 5 + 1) (by omega)).trans q1, (hcell (k * 5 + 2) (by omega)).trans q2, (hcell (k * 5 + 3) (by omega)).trans q3, (hcell (k * 5 + 4) (by omega)).trans q4⟩
theorem st_one {w5 wN : World} {b0 : Nat} {u x c k e t p o : Value} (hB : Blk w5 b0 27 [u, x, c]) (hEN : Ext (w5.alloc (.cells #[k, e, t, p, o] 37)) wN) :
 Blk (wN.alloc (.cells #[k, e, t, p, o] 37)) b0 27 [u, x, c] ∧ Blk (wN.alloc (.cells #[k, e, t, p, o] 37)) wN.heap.size 37 [k, e, t, p, o] ∧ Ext w5 (wN.alloc (.cells #[k, e, t, p, o] 37)) := by
 have h1 := (Ext.alloc w5 (.cells #[k, e, t, p, o] 37)).trans hEN
 have h2 := Ext.alloc wN (.cells #[k, e, t, p, o] 37)
 exact ⟨(hB.ext h1).ext h2, Blk.new wN 37 [k, e, t, p, o], h1.trans h2⟩
theorem st_two {w5 wN wM : World} {b0 base : Nat} {u x c u2 x2 c2 k e t p o : Value} {dk : DqV} (hB : Blk w5 b0 27 [u, x, c]) (hEN : Ext (w5.alloc (.cells #[k, e, t, p, o] 37)) wN) (hEM : Ext (wN.alloc (.cells #[k, e, t, p, o] 37)) wM)
 (hO : OwnD wM (wN.alloc (.cells #[k, e, t, p, o] 37)).heap.size u2 x2 c2 dk) (hb : base ≤ w5.heap.size) :
 Blk wM b0 27 [u, x, c] ∧ Blk (put3 wM b0 u2 x2 c2) w5.heap.size 37 [k, e, t, p, o] ∧ Blk (put3 wM b0 u2 x2 c2) wN.heap.size 37 [k, e, t, p, o] ∧ Blk (put3 wM b0 u2 x2 c2) b0 27 [u2, x2, c2] ∧ OwnD (put3 wM b0 u2 x2 c2) base u2 x2 c2 dk ∧ Chg (fun i => i = b0) w5 (put3 wM b0 u2 x2 c2) := by
 obtain ⟨s1, s2, s3⟩ := st_one hB hEN
 have hA := Ext.alloc w5 (.cells #[k, e, t, p, o] 37)
 have n5 : Blk (w5.alloc (.cells #[k, e, t, p, o] 37)) w5.heap.size 37 [k, e, t, p, o] := Blk.new w5 37 [k, e, t, p, o]
 have h2 := Ext.alloc wN (.cells #[k, e, t, p, o] 37)
 have bM := s1.ext hEM
 have h3 := put3_chg wM b0 u2 x2 c2
 have hlt := hB.lt
 have hs1 := hA.size
 have hs2 := hEN.size
 refine ⟨bM, h3.blk (((n5.ext hEN).ext h2).ext hEM) (by omega), h3.blk (s2.ext hEM) (by omega), put3_blk bM, (hO.keep h3 (fun i hi => hi ▸ far_blk bM (by decide) (by decide) (by decide))).lower (Nat.le_trans hb (s3.size)), ((s3.trans hEM).chg _).trans h3⟩
set_option maxRecDepth 100000 in
set_option maxHeartbeats 8000000 in
theorem steps_law (d : DqV) (vu vx vc : Value) (w : World) (hd : RD w vu vx vc d) (h64 : D64 d) (ht : d.clauses.length ≤ 60 → sizeD d ≤ 9223372036854775807) :
 Calls Tryz.prog 7 #[.agg #[vu, vx, vc]] w fun e w' => e = .returned (.bool true) ∧ Ext w w' := by
 have HLG := Lib.hid (fun w' (h : Ext w w') => large_any d vu vx vc w' (hd.ext h) ht)
 have HD := Lib.hid hd
 have HOK : Hid (largeD d = false → DOk d) := Lib.hid (fun h => h64.ok h)
 obtain ⟨A1, n1, c1, A2, n2, c2, A3, n3, c3, hu, hx, hc⟩ := hd.shape
 subst hu hx hc
 clear hd h64 ht
 have hEW : Ext w (w.alloc (.cells #[.slice A1 n1 c1, .slice A2 n2 c2, .slice A3 n3 c3] 27)) := Ext.alloc w _
 have hBW : Blk (w.alloc (.cells #[.slice A1 n1 c1, .slice A2 n2 c2, .slice A3 n3 c3] 27)) w.heap.size 27 [.slice A1 n1 c1, .slice A2 n2 c2, .slice A3 n3 c3] := Blk.new w 27 _
 obtain ⟨W, hW⟩ : ∃ W, W = w.alloc (.cells #[.slice A1 n1 c1, .slice A2 n2 c2, .slice A3 n3 c3] 27) := ⟨_, rfl⟩
 rw [← hW] at hEW hBW
 have HW := Lib.hid hW
 have HE := Lib.hid hEW
 have FC : Hid (∀ wr, Ext W wr → wr.cell? ⟨w.heap.size, 0, none⟩ = some (.slice A1 n1 c1) ∧ wr.cell? ⟨w.heap.size, 1, none⟩ = some (.slice A2 n2 c2) ∧ wr.cell? ⟨w.heap.size, 2, none⟩ = some (.slice A3 n3 c3)) := Lib.hid (fun wr h => ⟨(hBW.ext h).cell 0, (hBW.ext h).cell 1, (hBW.ext h).cell 2⟩)
 have HBW := Lib.hid hBW
 clear hW hEW hBW
 obtain ⟨p0, p1, p2⟩ := FC.out W (Ext.refl _)
 cases hl : largeD d with
 | true =>
   rw [hl] at HLG
   clear HOK hl
   go_enter Tryz.func7, Tryz.ntmps7
   go_upto_region 1 with fail
   rw [← HW.out]
   go_wp2_with (first
    | (go_at_call 9; refine (HLG.out _ HE.out).mono ?_; rintro e w2 ⟨rfl, hE⟩; have HE2 := Lib.hid (HE.out.trans hE); clear hE)
    | (go_at_call 10; refine (awake_any _).mono ?_; rintro e w3 ⟨rfl, hE⟩; have HE3 := Lib.hid (HE2.out.trans hE); clear hE))
   go_ret
   exact ⟨rfl, HE3.out⟩
 | false =>
   have ok := HOK.out hl
   have HRM := Lib.hid (fun w' (h : Ext w w') => refMayD_any ok _ _ _ w' (HD.out.ext h))
   have OK := Lib.hid ok
   rw [hl] at HLG
   clear HOK hl ok
   cases hm : mayD d with
   | false =>
     rw [hm] at HRM
     have HMG := Lib.hid (fun w' (h : Ext w w') => Merge_no d _ _ _ w' (HD.out.ext h) OK.out hm)
     clear hm
     go_enter Tryz.func7, Tryz.ntmps7
     go_upto_region 1 with fail
     rw [← HW.out]
     go_wp2_with (first
      | (go_at_call 9; refine (HLG.out _ HE.out).mono ?_; rintro e w2 ⟨rfl, hE⟩; have HE2 := Lib.hid hE; obtain ⟨p0a, p1a, p2a⟩ := FC.out _ hE; clear hE)
      | (go_at_call 26; refine (HMG.out _ (HE.out.trans HE2.out)).mono ?_; rintro e w3 ⟨rfl, hE⟩; have HE3 := Lib.hid ((HE2.out.trans hE).trans (Ext.alloc w3 (.cells #[.slice none 0 0, .slice none 0 0, .slice none 0 0] 27))); obtain ⟨p0b, p1b, p2b⟩ := FC.out _ HE3.out; clear hE)
      | (go_at_call 24; refine (HRM.out _ (HE.out.trans HE3.out)).mono ?_; rintro e w4 ⟨rfl, hE⟩; have HE4 := Lib.hid (HE3.out.trans hE); clear hE)
      | (go_at_call 10; refine (awake_any _).mono ?_; rintro e w5 ⟨rfl, hE⟩; have HE5 := Lib.hid ((HE.out.trans HE4.out).trans hE); clear hE))
     go_ret
     exact ⟨rfl, HE5.out⟩
   | true =>
     rw [hm] at HRM
     have HMM := Lib.hid hm
     have HMG := Lib.hid (fun w' (h : Ext w w') => Merge_yes d _ _ _ w' (HD.out.ext h) OK.out hm)
     clear hm
     go_enter Tryz.func7, Tryz.ntmps7
     go_upto_region 1 with fail
     rw [← HW.out]
     go_upto_region 4 with (first
      | (go_at_call 9; refine (HLG.out _ HE.out).mono ?_; rintro e w2 ⟨rfl, hE⟩; have HE2 := Lib.hid hE; obtain ⟨p0a, p1a, p2a⟩ := FC.out _ hE; clear hE)
      | (go_at_call 26; refine (HMG.out _ (HE.out.trans HE2.out)).mono ?_; rintro e w3 ⟨l, mu, mx, mc, v, rfl, hCH, hNO, hO, hV, hE⟩; obtain ⟨U1, nu1, uc1, U2, nu2, uc2, U3, nu3, uc3, h1, h2, h3⟩ := hO.reads.shape; subst h1 h2 h3; have HCH := Lib.hid hCH; have HNO := Lib.hid hNO; have HO := Lib.hid hO; have HV := Lib.hid hV; have HE3 := Lib.hid (HE2.out.trans hE); have HS2 : Hid (w.heap.size ≤ w2.heap.size) := Lib.hid (Nat.le_trans HE.out.size HE2.out.size); clear hCH hNO hO hV hE))
     have e4 := Ext.alloc w3 (.cells #[.slice U1 nu1 uc1, .slice U2 nu2 uc2, .slice U3 nu3 uc3] 27)
     have HB4 := Lib.hid (Blk.new w3 27 [.slice U1 nu1 uc1, .slice U2 nu2 uc2, .slice U3 nu3 uc3])
     have HE4 := Lib.hid (HE3.out.trans e4)
     have HO4 := Lib.hid ((HO.out.ext e4).lower HS2.out)
     have HV4 : Hid (OwnC _ w.heap.size v l) := Lib.hid (own_lower (own_ext HV.out e4) HS2.out)
     have HLT : Hid (w.heap.size < w3.heap.size) := Lib.hid (Nat.lt_of_lt_of_le HBW.out.lt HE3.out.size)
     clear p0 p1 p2 p0a p1a p2a HE3 HE2 HO HV HS2 HMG
     generalize w3.heap.size = b4 at HB4 HLT ⊢
     generalize w3.alloc (.cells #[.slice U1 nu1 uc1, .slice U2 nu2 uc2, .slice U3 nu3 uc3] 27) = w4 at e4 HB4 HE4 HO4 HV4 ⊢
     clear e4
     obtain ⟨p0, p1, p2⟩ := FC.out _ HE4.out
     obtain ⟨VA, vc, hv⟩ : ∃ A c, v = .slice A l.length c := by
      obtain ⟨-, ⟨h1, h2⟩ | ⟨g, cap, cur, h1, -⟩⟩ := HV4.out
      · exact ⟨none, 0, by rw [h1, h2]⟩
      · exact ⟨_, _, h1⟩
     subst hv
     obtain ⟨n, hn⟩ : ∃ n, n = l.length := ⟨_, rfl⟩
     have HN := Lib.hid hn
     have hn1 : n ≤ 1000000 := by
      have h1 := (chain_may HMM.out OK.out l HCH.out).2.2
      have h2 := OK.out.xl
      omega
     rw [← hn] at HV4 ⊢
     clear hn
     go_wp2_with (go_at_call 24; refine (HRM.out _ (HE.out.trans HE4.out)).mono ?_; rintro e w5 ⟨rfl, hE⟩; have HE5 := Lib.hid hE; clear hE)
     go_loopg [37] n (fun gn i wr => ∃ (k : Nat) (u x c : Value), k ≤ n ∧ gn + k = n ∧ i = .int .i64 (k : Int) ∧ Hid (Blk wr w.heap.size 27 [u, x, c]) ∧ Hid (KD (k = 0) w wr w.heap.size u x c (runC d (l.take k))) ∧ Hid (Chg (fun i => i = w.heap.size) w5 wr))
     case atStart => exact ⟨0, _, _, _, Nat.zero_le _, by omega, rfl, Lib.hid (HBW.out.ext (HE4.out.trans HE5.out)), Lib.hid (.inl ⟨rfl, by rw [List.take_zero, runC_nil]; exact HD.out⟩), Lib.hid (Chg.refl _ _)⟩
     case round =>
      obtain ⟨k, u, x, c, hk, hgk, rfl, HBr, HKr, HCr⟩ := hrel
      obtain ⟨w6, rfl⟩ : ∃ w6 : World, w6 = wr := ⟨_, rfl⟩
      have hE5w : Ext w w5 := HE.out.trans (HE4.out.trans HE5.out)
      have hE6 : Ext w w6 := HCr.out.toExt hE5w (fun i hi => Nat.le_of_eq hi.symm)
      have hRD := HKr.out.reads hE6
      have hB5 := HBW.out.ext (HE4.out.trans HE5.out)
      have hV6 : OwnC w6 w.heap.size (.slice VA n vc) l := HCr.out.own (own_ext HV4.out HE5.out) (fun b hb hs => fin_neq hB5 (own_ext HV4.out HE5.out) (by decide) (hs ▸ hb))
      obtain ⟨B1, m1, g1, B2, m2, g2, B3, m3, g3, h1, h2, h3⟩ := hRD.shape
      subst h1 h2 h3
      have b0 := HBr.out.cell 0
      have b1 := HBr.out.cell 1
      have b2 := HBr.out.cell 2
      simp only [List.getElem?_cons_zero, List.getElem?_cons_succ] at b0 b1 b2
      obtain ⟨mk1, ok1, -⟩ := chain_at HMM.out OK.out l HCH.out k (by rw [← HN.out]; exact hk)
      have HS6 : Hid (w.heap.size ≤ w6.heap.size) := Lib.hid hE6.size
      by_cases hlt : k < n
      · have hkl : k < l.length := by rw [← HN.out]; exact hlt
        obtain ⟨ad, cc, hvv, c0, c1', c2', c3', c4'⟩ := hV6.at k hkl
        injection hvv with q1 q2 q3
        subst q1
        have hnx := HCH.out k hkl
        have hrc := runC_take (d := d) hkl
        have hyes := (next_ok hnx).2
        have hcok := next_cok mk1 hyes
        have HNX := Lib.hid (fun w' (h : Ext w6 w') => Next_any (runC d (l.take k)) _ _ _ w' (hRD.ext h) ok1)
        have HMK := Lib.hid (fun w' (h : Ext w6 w') => Make_yes (runC d (l.take k)) l[k] _ _ _ w' (hRD.ext h) ok1 hcok mk1 hyes)
        rw [← hrc] at HMK
        rw [hnx] at HNX
        unfold PostNext at HNX
        clear hnx hrc hyes hcok hRD hV6 hB5 hE5w hE6 mk1 ok1 q2 q3
        generalize l[k] = ch at c0 c1' c2' c3' c4' HNX HMK
        obtain ⟨ck, cl, ct, cp, co⟩ := ch
        simp only [chA, Option.isSome_some] at HNX
        simp only at c0 c1' c2' c3' c4' HMK
        have hwrk : IntKind.i64.wrap ((k : Int) + 1) = (k : Int) + 1 := IntWalk.i64_in _ (by omega)
        have hbA := HBr.out.ext (Ext.alloc w6 (.cells #[.int .u8 ck, .int .i64 cl, .int .i64 ct, .int .i64 cp, .int .i64 co] 37))
        have e0 := hbA.cell 0
        have e1 := hbA.cell 1
        have e2 := hbA.cell 2
        simp only [List.getElem?_cons_zero, List.getElem?_cons_succ] at e0 e1 e2
        clear hkl hbA
        go_wp2_with (first
         | (go_at_call 19; refine (HNX.out _ (Ext.alloc w6 _)).mono ?_; rintro e wN ⟨rfl, hEN⟩
            obtain ⟨s1, s2, s3⟩ := st_one HBr.out hEN
            have r0 := s1.cell 0
            have r1 := s1.cell 1
            have r2 := s1.cell 2
            have x0 := s2.cell 0
            have x1 := s2.cell 1
            have x2 := s2.cell 2
            have x3 := s2.cell 3
            have x4 := s2.cell 4
            simp only [List.getElem?_cons_zero, List.getElem?_cons_succ] at r0 r1 r2 x0 x1 x2 x3 x4
            have HEN := Lib.hid hEN
            have HS3 := Lib.hid s3
            clear s1 s2 s3 hEN)
         | (go_at_call 21; refine (HMK.out _ HS3.out).mono ?_; rintro e wM ⟨u2, x2, c2, rfl, hO, hEM⟩; obtain ⟨A4, n4, c4, A5, n5, c5, A6, n6, c6, g1, g2, g3⟩ := hO.reads.shape; subst g1 g2 g3
            obtain ⟨t1, t2, t3, t4, t5, t6⟩ := st_two HBr.out HEN.out hEM hO HS6.out
            have y0 := t1.cell 0
            have y1 := t1.cell 1
            have y2 := t1.cell 2
            have f0 := t1.free 0
            have f1 := t1.free 1
            have f2 := t1.free 2
            have a0 := t2.cell 0
            have a1 := t2.cell 1
            have a2 := t2.cell 2
            have a3 := t2.cell 3
            have a4 := t2.cell 4
            have d0 := t3.cell 0
            have d1 := t3.cell 1
            have d2 := t3.cell 2
            have d3 := t3.cell 3
            have d4 := t3.cell 4
            simp only [List.getElem?_cons_zero, List.getElem?_cons_succ] at y0 y1 y2 a0 a1 a2 a3 a4 d0 d1 d2 d3 d4
            have HT4 := Lib.hid t4
            have HT5 := Lib.hid t5
            have HT6 := Lib.hid t6
            clear t1 t2 t3 t4 t5 t6 hO hEM))
        go_roundg (n - (k + 1))
        case measure => omega
        case rel => exact ⟨k + 1, _, _, _, by omega, by omega, by go_num, HT4, Lib.hid (.inr HT5.out), Lib.hid (HCr.out.trans HT6.out)⟩
      · obtain rfl : k = n := by omega
        have htk : l.take k = l := by rw [HN.out, List.take_length]
        rw [htk] at hRD
        have ok2 := (chain_may HMM.out OK.out l HCH.out).2.1
        have hO6 : OwnD w6 w.heap.size (.slice U1 nu1 uc1) (.slice U2 nu2 uc2) (.slice U3 nu3 uc3) (runC d l) := (HO4.out.ext HE5.out).keep HCr.out (fun i hi => hi ▸ far_blk hB5 (by decide) (by decide) (by decide))
        have hB6 := HCr.out.blk (HB4.out.ext HE5.out) (fun h => by have := HLT.out; omega)
        have s0 := hB6.cell 0
        have s1 := hB6.cell 1
        have s2 := hB6.cell 2
        simp only [List.getElem?_cons_zero, List.getElem?_cons_succ] at s0 s1 s2
        have HNX := Lib.hid (fun w' (h : Ext w6 w') => Next_any (runC d l) _ _ _ w' (hO6.reads.ext h) ok2)
        rw [HNO.out] at HNX
        unfold PostNext at HNX
        simp only [chA, Option.isSome_none] at HNX
        have HR1 := Lib.hid hO6.reads
        have HR2 := Lib.hid hRD
        have HB0 := HBr
        have HB6 := Lib.hid hB6
        have HE6 := Lib.hid hE6
        clear htk hRD ok2 hO6 hB6 hV6 hB5 hE5w hE6 mk1 ok1
        go_wp2_with (first
         | (go_at_call 19; refine (HNX.out _ (Ext.refl _)).mono ?_; rintro e wN ⟨rfl, hEN⟩
            have hEN2 : Ext w6 (wN.alloc (.cells #[.int .u8 0, .int .i64 0, .int .i64 0, .int .i64 0, .int .i64 0] 37)) := hEN.trans (Ext.alloc wN _)
            have z0 := (HBr.out.ext hEN2).cell 0
            have z1 := (HBr.out.ext hEN2).cell 1
            have z2 := (HBr.out.ext hEN2).cell 2
            have v0 := (HB6.out.ext hEN2).cell 0
            have v1 := (HB6.out.ext hEN2).cell 1
            have v2 := (HB6.out.ext hEN2).cell 2
            simp only [List.getElem?_cons_zero, List.getElem?_cons_succ] at z0 z1 z2 v0 v1 v2
            have HEN := Lib.hid hEN2
            clear hEN hEN2)
         | (go_at_call 23; refine (SameD_refl (runC d l) _ _ _ _ _ _ _ (HR1.out.ext HEN.out) (HR2.out.ext HEN.out)).mono ?_; rintro e w8 ⟨rfl, hE⟩; have HE8 := Lib.hid ((HE6.out.trans HEN.out).trans hE); clear hE)
         | (go_at_call 10; refine (awake_any _).mono ?_; rintro e w9 ⟨rfl, hE⟩; have HE9 := Lib.hid (HE8.out.trans hE); clear hE))
        go_ret
        exact ⟨rfl, HE9.out⟩
end Go.Proofs.YtjecjaihficcdaaGreat
namespace Go.Proofs.YtjecjaihficcdaaGreat
open Go.ChangeShapes Go.WideShapes Go.ChangeAt Go.RowKit
set_option maxRecDepth 100000 in
theorem equivSteps_lifted (os : Os) (started : os.Started) (H : Type) (enc : TypeId × Value → H) (F : Stop.Interp) :
 ReturnsInHanded {} Tryz.checked os 7 .any ((Rows.OpenSpec.upto Rows.equivStepsSpec).pre6 enc Tryz.prog Tryz.f7 Rows.equivStepsUptoRow.domain false) (((Rows.OpenSpec.upto Rows.equivStepsSpec).at F).post enc Tryz.prog Tryz.f7 false true false false) := by
 refine returnsInHanded_of_cond (C := Tryz.checked) (s := Rows.OpenSpec.upto Rows.equivStepsSpec) (k := Rows.uptoSmall) rfl ownK started (by kernel_rfl) Tryz.func7
  (OpenSpec.witness (enc := enc) (C := Tryz.checked) (s := Rows.OpenSpec.upto Rows.equivStepsSpec) (k := Rows.uptoSmall) rfl false ⟨#[], #[.agg #[.slice none 0 0, .slice none 0 0, .slice none 0 0]], []⟩ 8 (by kernel_rfl) (by kernel_rfl) (by kernel_rfl)
   (x := ([.agg [.nil, .nil, .nil]], [], [])) (by kernel_rfl) rfl (by kernel_rfl)) ?_
 intro W base args ds gs before hval0 hW _ hk _
 have hval : ∀ (j : Nat) t v, Tryz.f7.params[j]? = some t → args[j]? = some v → Value.okWide Tryz.prog W .any base t v := hval0
 have hW' := hW
 obtain ⟨p, q, hA0, hV, rfl, hfz, hnd⟩ := hW
 have hA : DataW.TrodAll enc Tryz.prog W 0 (fun _ => true) true Tryz.f7.params.toList args.toList ds p := hA0
 rw [Tryz.params7] at hA hval
 obtain ⟨v0, d0, rfl, rfl, h0⟩ := trodAll_one hA
 obtain ⟨rfl, rfl⟩ := trodVars_none hV
 have hcs : ∃ cs, v0 = .agg cs ∧ cs.size = 3 := by
  obtain ⟨cs, h1, h2⟩ := okWide_struct Tryz.underlying27 (hval 0 27 v0 rfl rfl)
  exact ⟨cs, h1, by rw [h2, cellsD]⟩
 have h0k := h0
 obtain ⟨fuel0, hf0⟩ := h0
 clear hA0 hval0
 have hbk : Rows.uptoBulk d0 ≤ 1048576 := by
  have h1 := of_decide_eq_true hk
  simp only [List.append_nil, Rows.uptoBulkAll] at h1
  omega
 obtain ⟨vu, vx, vc, d, rfl, hd, h64, hsz⟩ := open_RDc hcs hf0 hbk
 simp only [List.append_nil] at hW'
 have hlt : ∀ x ∈ p, x.block < W.heap.size := fun x hx => by simpa using hW'.lt x hx
 refine (steps_law d vu vx vc W hd h64 (fun _ => hsz)).mono fun e W' ⟨he, hE⟩ => ?_
 subst he
 have hargs : DataW.TrodAll enc Tryz.prog W' 0 (fun b => decide (b < W.heap.size)) true [27] [.agg #[vu, vx, vc]] [d0] p :=
  trodAll_mk1 (Below.trod laidOutK (by kernel_rfl) (of_decide_eq_true (by kernel_rfl)) h0k hE (fun x hx => hlt x hx))
 exact ⟨_, rfl, _, _, _, [], p, [], hW', trodAll_mk1 (shut_bool Tryz.underlying4 true), hargs, rfl, hE.frame _, fun h => by cases h⟩
theorem equivSteps_holds : Rows.EquivStepsUptoSaid :=
 OpenClaim.holds_of_cond 7 Tryz.f7 rfl rfl rfl rfl rfl rfl rfl ⟨rfl, rfl, rfl, rfl, rfl⟩ rfl rfl rfl rfl rfl (by kernel_rfl) Tryz.func7 (by kernel_rfl)
  (of_decide_eq_true (by kernel_rfl)) (by unfold Func.isWrapper; first | (rw [if_pos (by decide +kernel)]; kernel_rfl) | (rw [if_neg (by decide +kernel)]; exact ⟨rfl, rfl⟩))
  (fun os started H enc _ F => equivSteps_lifted os started H enc F)
#print axioms equivSteps_holds
end Go.Proofs.YtjecjaihficcdaaGreat
