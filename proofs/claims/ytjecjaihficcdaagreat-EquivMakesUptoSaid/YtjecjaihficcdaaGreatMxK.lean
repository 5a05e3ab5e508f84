/- The law EquivMakes returns true for every input of bulk at most 1048576, and the inputs read behind the call as before. -/
import Derived.Test.YtjecjaihficcdaaGreatMxPEquivNextx20
import Derived.Test.YtjecjaihficcdaaGreatMxD
import Derived.Test.YtjecjaihficcdaaGreatMxF
import Derived.Test.YtjecjaihficcdaaGreatMxJ
import Derived.Test.YtjecjaihficcdaaGreatMxE
import Derived.Deep.Cut
namespace Go.Proofs.YtjecjaihficcdaaGreat.PEquivNext
open Go.RowKit Go.Proofs.YtjecjaihficcdaaGreatW.PrintWords
theorem before_f (x y : Int) (hx : I64 x) (hy : I64 y) : skolemref01_before.f x y = some (decide (blt x y)) := by
 unfold skolemref01_before.f
 rw [size_f x hx, size_f y hy]
 simp only [Option.bind_some]
 by_cases h : x.natAbs = y.natAbs
 · rw [if_pos (by omega)]
   congr 1
   rw [decide_eq_decide]
   unfold blt
   constructor
   · intro h1; exact .inr ⟨h, h1⟩
   · rintro (h1 | h1)
     · omega
     · exact h1.2
 · rw [if_neg (by omega)]
   congr 1
   rw [decide_eq_decide]
   unfold blt
   omega
theorem with_l0 (xs : List Int) (y : Int) (h64 : All64 xs) (hy : I64 y) (hb : xs.length ≤ 100000000) :
 ∀ n i, i + n = xs.length → Evn (fun k => skolemref01_with.l0 k xs y (i : Int)) (xs.take i ++ withL (xs.drop i) y) := by
 intro n
 induction n with
 | zero =>
   intro i hi
   refine Evn.succ (g' := fun _ => some (xs.take i ++ withL (xs.drop i) y)) (fun k => ?_) (Evn.ret _)
   rw [skolemref01_with.l0, if_neg (by omega), if_pos (by omega), if_pos (by omega)]
   have e1 : xs.take (i : Int).toNat = xs := by rw [List.take_of_length_le (by omega)]
   have e2 : xs.drop (i : Int).toNat = [] := List.drop_eq_nil_of_le (by omega)
   have e3 : xs.take i = xs := by rw [List.take_of_length_le (by omega)]
   have e4 : xs.drop i = [] := List.drop_eq_nil_of_le (by omega)
   simp only [Option.bind_some, e1, e2, e3, e4, List.length_nil, List.nil_append, List.append_nil, List.length_append, List.length_cons, withL]
   rw [if_pos (by omega), if_pos (by omega), if_pos (by omega)]
 | succ n ih =>
   intro i hi
   have hil : i < xs.length := by omega
   refine Evn.succ (fun k => by rw [skolemref01_with.l0]) ?_
   refine Evn.pos (by omega) (Evn.pos (by omega) ?_)
   rw [rd_nat xs i hil, wrap64_nat (by omega), List.drop_eq_getElem_cons hil, withL]
   refine Evn.bind (Evn.of_eq fun _ => before_f _ _ (h64 _ (List.getElem_mem hil)) hy) ?_
   by_cases h : blt xs[i] y
   · rw [if_pos h]
     refine Evn.pos (by simpa using h) ((ih (i + 1) (by omega)).to ?_)
     rw [List.take_succ_eq_append_getElem hil, List.append_assoc]; rfl
   · rw [if_neg h]
     refine Evn.neg (by simpa using h) ?_
     by_cases h2 : xs[i] = y
     · refine Evn.pos h2 ((Evn.ret _).to ?_)
       rw [if_pos h2, ← List.drop_eq_getElem_cons hil, List.take_append_drop]
     · refine Evn.neg h2 (Evn.pos (by omega) (Evn.of_eq fun _ => ?_))
       rw [if_neg h2]
       have e1 : (xs.take (i : Int).toNat).length = i := by rw [List.length_take]; omega
       have e2 : (xs.drop (i : Int).toNat).length = xs.length - i := by rw [List.length_drop]; omega
       simp only [Option.bind_some, List.length_nil, List.nil_append, List.length_append, List.length_cons, e1, e2]
       rw [if_pos (by omega), if_pos (by omega), if_pos (by omega)]
       have e3 : ((i : Nat) : Int).toNat = i := by omega
       rw [e3, List.append_assoc, ← List.drop_eq_getElem_cons hil]; rfl
theorem with_f (xs : List Int) (y : Int) (h64 : All64 xs) (hy : I64 y) (hb : xs.length ≤ 100000000) : Evn (fun k => skolemref01_with.f k xs y) (withL xs y) := by
 unfold skolemref01_with.f
 exact (with_l0 xs y h64 hy hb xs.length 0 (by omega)).to (by simp)
theorem withL_64 {xs : List Int} {y : Int} (h : All64 xs) (hy : I64 y) : All64 (withL xs y) := fun z hz => by
 rcases (mem_withL xs y z).1 hz with rfl | h1
 · exact hy
 · exact h z h1
theorem Norm_l1 (xs : List Int) (h64 : All64 xs) (hb : xs.length ≤ 200000) :
 ∀ n i acc, i + n = xs.length → All64 acc → acc.length ≤ i → Evn (fun k => skolemref01_Norm.l1 k xs acc (i : Int)) (if mayB (setL acc (xs.drop i)) = true then (setL acc (xs.drop i), 0) else ([], 10)) := by
 intro n
 induction n with
 | zero =>
   intro i acc hi ha hl
   refine Evn.succ (fun k => by rw [skolemref01_Norm.l1, if_neg (by omega)]) ?_
   rw [List.drop_eq_nil_of_le (by omega), show setL acc [] = acc from rfl]
   refine Evn.bind (May_f acc ha (by omega)) ?_
   by_cases h : mayB acc = true
   · exact Evn.pos h ((Evn.ret _).to (by rw [if_pos h]))
   · exact Evn.neg h ((Evn.ret _).to (by rw [if_neg h]))
 | succ n ih =>
   intro i acc hi ha hl
   have hil : i < xs.length := by omega
   refine Evn.succ (fun k => by rw [skolemref01_Norm.l1]) ?_
   refine Evn.pos (by omega) (Evn.pos (by omega) ?_)
   rw [rd_nat xs i hil, wrap64_nat (by omega), List.drop_eq_getElem_cons hil]
   have hy := h64 _ (List.getElem_mem hil)
   refine Evn.bind (with_f acc xs[i] ha hy (by omega)) ?_
   exact ih (i + 1) (withL acc xs[i]) (by omega) (withL_64 ha hy) (by have := withL_len acc xs[i]; omega)
theorem Norm_l0 (xs : List Int) (h64 : All64 xs) (hb : xs.length ≤ 200000) :
 ∀ n i, i + n = xs.length → Evn (fun k => skolemref01_Norm.l0 k xs (i : Int)) (if (xs.drop i).any (fun x => varOf x == 0) = true then ([], 2) else if mayB (setL [] xs) = true then (setL [] xs, 0) else ([], 10)) := by
 intro n
 induction n with
 | zero =>
   intro i hi
   refine Evn.succ (fun k => by rw [skolemref01_Norm.l0, if_neg (by omega)]) ?_
   rw [List.drop_eq_nil_of_le (by omega), if_neg (by simp)]
   exact (Norm_l1 xs h64 hb xs.length 0 [] (by omega) (fun _ h => by cases h) (by simp)).to (by simp)
 | succ n ih =>
   intro i hi
   have hil : i < xs.length := by omega
   refine Evn.succ (fun k => by rw [skolemref01_Norm.l0]) ?_
   refine Evn.pos (by omega) (Evn.pos (by omega) ?_)
   rw [rd_nat xs i hil, wrap64_nat (by omega), List.drop_eq_getElem_cons hil, List.any_cons]
   refine Evn.bind (Evn.of_eq fun _ => literal_f _ (h64 _ (List.getElem_mem hil))) ?_
   by_cases h : varOf xs[i] = 0
   · exact Evn.neg (by simpa using h) ((Evn.ret _).to (by rw [if_pos (by simp [h])]))
   · refine Evn.pos (by simpa using h) ((ih (i + 1) (by omega)).to ?_)
     rw [show (varOf xs[i] == 0) = false by simpa using h, Bool.false_or]
theorem Norm_f (xs : List Int) (h64 : All64 xs) (hb : xs.length ≤ 9223372036854775807) : Evn (fun k => skolemref01_Norm.f k xs) (NormV xs) := by
 unfold skolemref01_Norm.f NormV
 by_cases hl : xs.length > 200000
 · exact Evn.pos (by omega) ((Evn.ret _).to (by rw [if_pos (.inl hl)]))
 · refine Evn.neg (by omega) ((Norm_l0 xs h64 (by omega) xs.length 0 (by omega)).to ?_)
   rw [List.drop_zero]
   by_cases ha : xs.any (fun x => varOf x == 0) = true
   · rw [if_pos ha, if_pos (.inr ha)]
   · rw [if_neg ha]
     symm
     rw [if_neg (fun h => h.elim hl ha)]
end Go.Proofs.YtjecjaihficcdaaGreat.PEquivNext
namespace Go.Proofs.YtjecjaihficcdaaGreat
open Go.RowKit Go.Proofs.YtjecjaihficcdaaGreatW.PrintWords
theorem kdR_own {w : World} {base : Nat} {ok : Nat → Prop} {v : Value} {xs : List Int} (h : Kd.R (Kd.int .i64) 3 w base ok v xs) : OwnI w base v xs := by
 obtain ⟨-, inner, ho, hl, hr⟩ := h
 have e : inner = xs.map (Value.int .i64) := by
  have hl1 : inner.length = xs.length := by rw [hl]; exact Nat.mul_one _
  refine List.ext_getElem (by rw [hl1, List.length_map]) fun j h1 h2 => ?_
  have hj : j < xs.length := by omega
  have h3 : (inner.drop (j * 1)).take 1 = [Value.int .i64 xs[j]] := hr j _ (List.getElem?_eq_getElem hj)
  rw [Nat.mul_one, List.drop_eq_getElem_cons h1] at h3
  have h4 : inner[j] = Value.int .i64 xs[j] := by
   rw [List.take_succ_cons] at h3
   injection h3
  rw [h4, List.getElem_map]
 rw [e] at ho
 exact ho
theorem refNorm_own (xs : List Int) (v : Value) (w : World) (h64 : All64 xs) (hr : RI w v xs) : Calls Tryz.prog 61 #[v] w fun e w' => ∃ v', e = .returned (.tuple #[v', .int .i64 (NormV xs).2]) ∧ OwnI w' w.heap.size v' (NormV xs).1 ∧ Ext w w' := by
 obtain ⟨K, hK⟩ := PEquivNext.Norm_f xs h64 hr.max
 obtain ⟨A, c, rfl, h1, h2⟩ := hr.kd
 refine (PEquivNext.skolemref01_Norm.calls K A c xs _ _ w h2 h1 (hK K (Nat.le_refl _))).mono ?_
 rintro e w' ⟨v', rfl, hs, hE⟩
 exact ⟨v', rfl, kdR_own hs, hE⟩
end Go.Proofs.YtjecjaihficcdaaGreat
namespace Go.Proofs.YtjecjaihficcdaaGreat
open Go.RowKit Go.Proofs.YtjecjaihficcdaaGreatW.PrintWords
attribute [local go_sem ↓] Go.wp_at_zero Go.wp_at_succ
theorem okCh_allow {d : DqV} (h : mayD d = true) (c : ChV) : allowR d c = okCh d c := by
 rw [allow_eq h]
 unfold okCh
 simp only [Bool.and_assoc]
theorem refAllowed_any {d : DqV} (ok : DOk d) (c : ChV) (cok : COk c) (vu vx vc : Value) (w : World) (hd : RD w vu vx vc d) :
 Calls Tryz.prog 57 #[.agg #[vu, vx, vc], .agg (chArr c)] w fun e w' => e = .returned (.bool (allowR d c)) ∧ Ext w w' := by
 have hE := PEquivNext.Allowed_f d.univ (s61 d.exist) d.clauses c.kind c.lit c.tz c.pos c.other (by have := ok.ul; omega) (by rw [s61_len]; have := ok.xl; omega) (s61_all (Q := fun s => All64 s.f1) fun x hx => (ok.x64 x hx).2) (s61_all (Q := fun s => s.f1.length ≤ 9223372036854775807) fun x hx => by have := ok.ol x hx; show x.2.length ≤ _; omega)
  (fun c hc => by have := len_le_total' hc; have := ok.tot; omega) cok.l cok.t
 rw [dqv_s61] at hE
 obtain ⟨K, hK⟩ := hE
 obtain ⟨UA, uc, XA, xc, CA, cc, rfl, rfl, rfl, l1, l2, l3, h1, h2, h3⟩ := hd.kd
 refine (PEquivNext.skolemref16_Allowed.calls K UA uc d.univ XA xc (s61 d.exist) CA cc d.clauses c.kind c.lit c.tz c.pos c.other _ w h1 l1 h2 l2 h3 l3 (hK K (Nat.le_refl _))).mono ?_
 rintro e w' ⟨rfl, hE⟩
 exact ⟨rfl, hE⟩
def OwnY (w0 w : World) (base : Nat) (v : Value) (X : List (Int × List Int)) : Prop :=
 ∃ ps : List (Int × Value), w.ownsRow base 61 2 v X.length (encX ps) ∧ ps.length = X.length ∧ ∀ j (h : j < ps.length) (h' : j < X.length), ps[j].1 = X[j].1 ∧ RI w0 ps[j].2 X[j].2
theorem OwnY.nil (w0 w : World) (base : Nat) : OwnY w0 w base (.slice none 0 0) [] := ⟨[], World.ownsRow_nil _ _ _ 2, rfl, fun j h => absurd h (Nat.not_lt_zero j)⟩
theorem OwnY.keep {S : Nat → Prop} {w0 w w' : World} {base : Nat} {v : Value} {X : List (Int × List Int)} (h : OwnY w0 w base v X) (hc : Chg S w w') (hS : ∀ i, S i → ∀ cur : Array Value, w.heap[i]? = some (.cells cur 61 (0, 0)) → False) : OwnY w0 w' base v X := by
 obtain ⟨ps, h1, h2, h3⟩ := h
 refine ⟨ps, hc.own h1 (fun k hk hs => ?_), h2, h3⟩
 obtain ⟨-, -, cur, hcur⟩ := own_typed h1 hk
 exact hS k hs cur hcur
theorem OwnY.ext {w0 w w' : World} {base : Nat} {v : Value} {X : List (Int × List Int)} (h : OwnY w0 w base v X) (k : Ext w w') : OwnY w0 w' base v X := h.keep (k.chg (fun _ => False)) (fun _ h => h.elim)
theorem OwnY.reads {w0 w : World} {base : Nat} {v : Value} {X : List (Int × List Int)} (h : OwnY w0 w base v X) (hE : Ext w0 w) : RX w v X := by
 obtain ⟨ps, ⟨h0, ⟨rfl, h1⟩ | ⟨g, cap, cur, rfl, hb, hg, hn, hm, hs, ht⟩⟩, h2, h3⟩ := h
 · have : X = [] := List.length_eq_zero_iff.1 h1
   subst this
   exact ⟨none, 0, [], rfl, Nat.le_refl _, by simp, rfl, fun j h => absurd h (Nat.not_lt_zero j)⟩
 · refine ⟨_, cap, ps.map Prod.snd, rfl, hn, by unfold maxLen at hm; omega, by rw [List.length_map, h2], fun j hj hj' => ?_⟩
   have hjp : j < ps.length := by rw [h2]; exact hj
   obtain ⟨e1, e2⟩ := h3 j hjp hj
   have hcell : ∀ i, i < 2 → w.cell? ⟨g, j * 2 + i, none⟩ = (encX ps)[j * 2 + i]? := fun i hi => by
    rw [cell_of_row w g _ cur _ (0, 0) hg]
    have h9 : (cur.toList.take (X.length * 2))[j * 2 + i]? = (encX ps)[j * 2 + i]? := by rw [ht]
    rw [List.getElem?_take_of_lt (by omega), Array.getElem?_toList] at h9
    exact h9
   obtain ⟨q1, q2⟩ := encX_at ps j hjp
   refine ⟨_, rfl, ?_, ?_, ?_⟩
   · rw [addr0]; have := hcell 0 (by omega); rw [Nat.add_zero] at this; rw [this, q1, e1]
   · rw [addr0]; have := hcell 1 (by omega); show w.cell? ⟨g, j * 2 + 1, none⟩ = _; rw [this, q2, List.getElem_map]
   · rw [List.getElem_map]; exact e2.ext hE
set_option maxRecDepth 100000 in
set_option maxHeartbeats 8000000 in
theorem refMake_no (d : DqV) (c : ChV) (vu vx vc : Value) (w : World) (hd : RD w vu vx vc d) (ok : DOk d) (cok : COk c) (b : Bool) (hm : mayD d = b) (hno : b = true → okCh d c = false) (e9 : Int) (he9 : e9 = if b = false then 2 else 5) : Calls Tryz.prog 22 #[.agg #[vu, vx, vc], .agg (chArr c)] w (PostMake w (⟨[], [], []⟩, e9)) := by
 have HM := Lib.hid (fun w' (h : Ext w w') => refMayD_any ok vu vx vc w' (hd.ext h))
 have HAL := Lib.hid (fun w' (h : Ext w w') => refAllowed_any ok c cok vu vx vc w' (hd.ext h))
 rw [hm] at HM
 obtain ⟨⟨UA, uc, hue, -⟩, ⟨XA, xc, ons, hxe, -⟩, ⟨CA, cc, us, hce, -⟩⟩ := hd
 subst hue hxe hce
 unfold chArr at HAL ⊢
 obtain ⟨W, hW, B0, B1, B2, hEW, hsW⟩ := mk_new w (.slice UA d.univ.length uc) (.slice XA d.exist.length xc) (.slice CA us.length cc) c.kind c.lit c.tz c.pos c.other
 have HB0 := Lib.hid B0
 have HB1 := Lib.hid B1
 have HB2 := Lib.hid B2
 have HEW := Lib.hid hEW
 have HW := Lib.hid hW
 clear B0 B1 B2 hEW hsW hW
 cases b with
 | false =>
   subst he9
   clear hno hm ok cok HAL
   go_enter Tryz.func22, Tryz.ntmps22
   go_wp2_with (go_at_call 24; rw [← HW.out]; refine (HM.out _ HEW.out).mono ?_; rintro e w2 ⟨rfl, hE2⟩; have HE2 := Lib.hid hE2; clear hE2; have hbD := ((HE2.out).chg (fun _ => False)).blk HB0.out id; have hbC := ((HE2.out).chg (fun _ => False)).blk HB1.out id; have hbR := ((HE2.out).chg (fun _ => False)).blk HB2.out id; have d0a := hbD.cell 0; have d1a := hbD.cell 1; have d2a := hbD.cell 2; have k0a := hbC.cell 0; have k1a := hbC.cell 1; have k2a := hbC.cell 2; have k3a := hbC.cell 3; have k4a := hbC.cell 4; have r0a := hbR.cell 0; have rf0a := hbR.free 0; have r1a := hbR.cell 1; have rf1a := hbR.free 1; have r2a := hbR.cell 2; have rf2a := hbR.free 2; simp only [List.getElem?_cons_zero, List.getElem?_cons_succ] at d0a d1a d2a k0a k1a k2a k3a k4a r0a r1a r2a; clear hbD hbC hbR)
   refine bodyPost_ret (v := .tuple #[.agg #[.slice none 0 0, .slice none 0 0, .slice none 0 0], .int .i64 2]) (by simp [results, Tryz.results22, go_sem, r0a, r1a, r2a]) rfl ⟨_, _, _, rfl, RD.none _, ?_⟩
   have he := HEW.out.trans HE2.out
   repeat (refine Below.setCell ?_ (by simp <;> omega) _)
   exact he
 | true =>
   have hal : allowR d c = false := by rw [okCh_allow hm]; exact hno rfl
   rw [hal] at HAL
   subst he9
   clear hno hm ok cok hal
   generalize c.kind = ck at *
   generalize c.lit = cl at *
   generalize c.tz = ct at *
   generalize c.pos = cp at *
   generalize c.other = co at *
   go_enter Tryz.func22, Tryz.ntmps22
   go_wp2_with (first
    | (go_at_call 24; rw [← HW.out]; refine (HM.out _ HEW.out).mono ?_; rintro e w2 ⟨rfl, hE2⟩; have HE2 := Lib.hid hE2; clear hE2; have hbD := ((HE2.out).chg (fun _ => False)).blk HB0.out id; have hbC := ((HE2.out).chg (fun _ => False)).blk HB1.out id; have hbR := ((HE2.out).chg (fun _ => False)).blk HB2.out id; have d0a := hbD.cell 0; have d1a := hbD.cell 1; have d2a := hbD.cell 2; have k0a := hbC.cell 0; have k1a := hbC.cell 1; have k2a := hbC.cell 2; have k3a := hbC.cell 3; have k4a := hbC.cell 4; have r0a := hbR.cell 0; have rf0a := hbR.free 0; have r1a := hbR.cell 1; have rf1a := hbR.free 1; have r2a := hbR.cell 2; have rf2a := hbR.free 2; simp only [List.getElem?_cons_zero, List.getElem?_cons_succ] at d0a d1a d2a k0a k1a k2a k3a k4a r0a r1a r2a; clear hbD hbC hbR)
    | (go_at_call 57; refine (HAL.out _ (HEW.out.trans HE2.out)).mono ?_; rintro e w3 ⟨rfl, hE3⟩; have HE3 := Lib.hid (HE2.out.trans hE3); clear hE3; have hbD := ((HE3.out).chg (fun _ => False)).blk HB0.out id; have hbC := ((HE3.out).chg (fun _ => False)).blk HB1.out id; have hbR := ((HE3.out).chg (fun _ => False)).blk HB2.out id; have d0b := hbD.cell 0; have d1b := hbD.cell 1; have d2b := hbD.cell 2; have k0b := hbC.cell 0; have k1b := hbC.cell 1; have k2b := hbC.cell 2; have k3b := hbC.cell 3; have k4b := hbC.cell 4; have r0b := hbR.cell 0; have rf0b := hbR.free 0; have r1b := hbR.cell 1; have rf1b := hbR.free 1; have r2b := hbR.cell 2; have rf2b := hbR.free 2; simp only [List.getElem?_cons_zero, List.getElem?_cons_succ] at d0b d1b d2b k0b k1b k2b k3b k4b r0b r1b r2b; clear hbD hbC hbR))
   refine bodyPost_ret (v := .tuple #[.agg #[.slice none 0 0, .slice none 0 0, .slice none 0 0], .int .i64 5]) (by simp [results, Tryz.results22, go_sem, r0b, r1b, r2b]) rfl ⟨_, _, _, rfl, RD.none _, ?_⟩
   have he := HEW.out.trans HE3.out
   repeat (refine Below.setCell ?_ (by simp <;> omega) _)
   exact he
theorem depY {w0 : World} {base b7 gC capC nX : Nat} {wB wC : World} {u xv cv vB : Value} {X0 : List (Int × List Int)} {x : Int × List Int} {ps : List (Int × Value)} (hnX : nX = X0.length) (p1 : wB.ownsRow base 61 2 xv nX (encX ps)) (p2 : ps.length = nX)
 (p3 : ∀ j (h : j < ps.length) (h' : j < X0.length), ps[j].1 = X0[j].1 ∧ RI w0 ps[j].2 X0[j].2) (hBB : Blk wB b7 27 [u, xv, cv]) (hob : RI w0 vB x.2)
 (hOC : wC.ownsRow base 61 2 (.slice (some ⟨gC, 0, none⟩) (nX + 1) capC) (nX + 1) (encX ps ++ [.int .i64 x.1, vB])) (hcC : Chg (fun i => some i = xv.ownBlock) wB wC) (hb7 : base ≤ b7) :
 Blk (wC.setCell ⟨b7, 1, none⟩ (.slice (some ⟨gC, 0, none⟩) (nX + 1) capC)) b7 27 [u, .slice (some ⟨gC, 0, none⟩) (nX + 1) capC, cv] ∧ OwnY w0 (wC.setCell ⟨b7, 1, none⟩ (.slice (some ⟨gC, 0, none⟩) (nX + 1) capC)) base (.slice (some ⟨gC, 0, none⟩) (nX + 1) capC) (X0 ++ [x]) ∧
  Chg (fun i => base ≤ i) wB (wC.setCell ⟨b7, 1, none⟩ (.slice (some ⟨gC, 0, none⟩) (nX + 1) capC)) := by
 have hbC := hcC.blk hBB (fun h => fin_neq hBB p1 (by decide) h.symm)
 have hset := Chg.set wC b7 1 (.slice (some ⟨gC, 0, none⟩) (nX + 1) capC)
 have hCD : Chg (fun i => some i = xv.ownBlock ∨ i = b7) wB (wC.setCell ⟨b7, 1, none⟩ (.slice (some ⟨gC, 0, none⟩) (nX + 1) capC)) := (hcC.mono fun i hi => .inl hi).trans (hset.mono fun i hi => .inr hi)
 refine ⟨hbC.set 1 _, ⟨ps ++ [(x.1, vB)], ?_, ?_, ?_⟩, hCD.mono fun i hi => ?_⟩
 · rw [encX_snoc, List.length_append, ← hnX]
   exact hset.own hOC (fun b hb hs => fin_neq hbC hOC (by decide) (hs ▸ hb))
 · rw [List.length_append, List.length_append, p2, ← hnX]; rfl
 · intro j hj hj'
   by_cases hjl : j < ps.length
   · have q1 : (ps ++ [(x.1, vB)])[j] = ps[j] := List.getElem_append_left hjl
     have hjx : j < X0.length := by rw [← hnX, ← p2]; exact hjl
     have q2 : (X0 ++ [x])[j] = X0[j] := List.getElem_append_left hjx
     rw [q1, q2]
     exact p3 j hjl hjx
   · have ej : j = ps.length := by rw [List.length_append, List.length_singleton] at hj; omega
     have ex : X0.length = ps.length := by rw [← hnX, ← p2]
     have q1 : (ps ++ [(x.1, vB)])[j] = (x.1, vB) := by rw [List.getElem_append_right (by omega)]; simp
     have q2 : (X0 ++ [x])[j] = x := by rw [List.getElem_append_right (by omega)]; simp
     rw [q1, q2]
     exact ⟨rfl, hob⟩
 · rcases hi with hi | hi
   · exact (own_typed p1 hi.symm).1
   · rw [hi]; exact hb7
set_option maxRecDepth 100000 in
set_option maxHeartbeats 20000000 in
theorem refMake_ok (d : DqV) (c : ChV) (vu vx vc : Value) (w : World) (hd : RD w vu vx vc d) (ok : DOk d) (cok : COk c) (hm : mayD d = true) (hyes : okCh d c = true) : Calls Tryz.prog 22 #[.agg #[vu, vx, vc], .agg (chArr c)] w (PostMake w (madeV d c, 0)) := by
 have HM := Lib.hid (fun w' (h : Ext w w') => refMayD_any ok vu vx vc w' (hd.ext h))
 have HAL := Lib.hid (fun w' (h : Ext w w') => refAllowed_any ok c cok vu vx vc w' (hd.ext h))
 have hal : allowR d c = true := by rw [okCh_allow hm]; exact hyes
 have hh := hyes
 unfold okCh at hh
 simp only [Bool.and_eq_true, decide_eq_true_eq] at hh
 obtain ⟨-, h2, -, hp1, -⟩ := hh
 rw [hm] at HM
 rw [hal] at HAL
 have ht0 := (hasR_lit hm hp1).2
 have hte := varOf_eq ht0
 have htr := varOf_range c.tz
 have HD := Lib.hid hd
 have OK := Lib.hid ok
 obtain ⟨⟨UA, uc, hue, -⟩, ⟨XA, xc, ons, hxe, -⟩, ⟨CA, cc, us, hce, -, -, -, hcl4, -⟩⟩ := hd
 subst hue hxe hce
 have HCL4 := Lib.hid hcl4
 clear ok hm hyes hal hp1 hcl4
 unfold chArr at HAL ⊢
 obtain ⟨W, hW, B0, B1, B2, hEW, hsW⟩ := mk_new w (.slice UA d.univ.length uc) (.slice XA d.exist.length xc) (.slice CA us.length cc) c.kind c.lit c.tz c.pos c.other
 have HB0 := Lib.hid B0
 have HB1 := Lib.hid B1
 have HB2 := Lib.hid B2
 have HEW := Lib.hid hEW
 have HW := Lib.hid hW
 have HSW := Lib.hid hsW
 clear B0 B1 B2 hEW hsW hW
 obtain ⟨x, hx⟩ : ∃ x, x = c.lit := ⟨_, rfl⟩
 obtain ⟨t, ht⟩ : ∃ t, t = c.tz := ⟨_, rfl⟩
 have hx64 := cok.l
 rw [← hx, ← ht] at HB1 HW HAL
 rw [← hx] at hx64 h2
 rw [← ht] at hte htr ht0
 rw [← hx, ← ht]
 have HMV : Hid (madeV d c = ⟨d.univ, d.exist.filter (fun y => !decide (y.1 = x)), d.clauses.filterMap (normC x t)⟩) := Lib.hid (by rw [hx, ht]; rfl)
 clear hx ht cok
 generalize c.kind = ck at *
 generalize c.pos = cp at *
 generalize c.other = co at *
 unfold I64 at hx64
 obtain ⟨nt, hnte⟩ : ∃ nt, nt = -t := ⟨_, rfl⟩
 have hnt2 : RowKit.wrap64 (-t) = nt := by rw [hnte]; exact wrap64_id (by omega) (by omega)
 have hnx2 : RowKit.wrap64 (-x) = -x := wrap64_id (by omega) (by omega)
 have HNT := Lib.hid hnte
 have HTR : Hid (varOf t ≠ 0) := Lib.hid ht0
 clear hnte hte htr ht0
 go_enter Tryz.func22, Tryz.ntmps22
 go_upto_region 6 with (first
  | (go_at_call 24; rw [← HW.out]; refine (HM.out _ HEW.out).mono ?_; rintro e w2 ⟨rfl, hE2⟩; have HE2 := Lib.hid hE2; clear hE2; have hbD := ((HE2.out).chg (fun _ => False)).blk HB0.out id; have hbC := ((HE2.out).chg (fun _ => False)).blk HB1.out id; have hbR := ((HE2.out).chg (fun _ => False)).blk HB2.out id; have d0a := hbD.cell 0; have d1a := hbD.cell 1; have d2a := hbD.cell 2; have k0a := hbC.cell 0; have k1a := hbC.cell 1; have k2a := hbC.cell 2; have k3a := hbC.cell 3; have k4a := hbC.cell 4; have r0a := hbR.cell 0; have rf0a := hbR.free 0; have r1a := hbR.cell 1; have rf1a := hbR.free 1; have r2a := hbR.cell 2; have rf2a := hbR.free 2; simp only [List.getElem?_cons_zero, List.getElem?_cons_succ] at d0a d1a d2a k0a k1a k2a k3a k4a r0a r1a r2a; clear hbD hbC hbR)
  | (go_at_call 57; refine (HAL.out _ (HEW.out.trans HE2.out)).mono ?_; rintro e w3 ⟨rfl, hE3⟩; have HE3 := Lib.hid (HE2.out.trans hE3); clear hE3; have hbD := ((HE3.out).chg (fun _ => False)).blk HB0.out id; have hbC := ((HE3.out).chg (fun _ => False)).blk HB1.out id; have hbR := ((HE3.out).chg (fun _ => False)).blk HB2.out id; have d0b := hbD.cell 0; have d1b := hbD.cell 1; have d2b := hbD.cell 2; have k0b := hbC.cell 0; have k1b := hbC.cell 1; have k2b := hbC.cell 2; have k3b := hbC.cell 3; have k4b := hbC.cell 4; have r0b := hbR.cell 0; have rf0b := hbR.free 0; have r1b := hbR.cell 1; have rf1b := hbR.free 1; have r2b := hbR.cell 2; have rf2b := hbR.free 2; simp only [List.getElem?_cons_zero, List.getElem?_cons_succ] at d0b d1b d2b k0b k1b k2b k3b k4b r0b r1b r2b; clear hbD hbC hbR))
 have hE7 : Ext W (w3.alloc (.cells #[.slice UA d.univ.length uc, .slice none 0 0, .slice none 0 0] 27)) := HE3.out.trans (Ext.alloc w3 _)
 have hB7 := Blk.new w3 27 [.slice UA d.univ.length uc, .slice none 0 0, .slice none 0 0]
 have hb7 : W.heap.size ≤ w3.heap.size := HE3.out.size
 obtain ⟨b7, hb7e⟩ : ∃ b7, b7 = w3.heap.size := ⟨_, rfl⟩
 rw [← hb7e] at hB7 hb7 ⊢
 clear hb7e d0a d1a d2a k0a k1a k2a k3a k4a r0a r1a r2a rf0a rf1a rf2a d0b d1b d2b k0b k1b k2b k3b k4b r0b r1b r2b rf0b rf1b rf2b HE3 HE2 HM HAL
 generalize w3.alloc (.cells #[.slice UA d.univ.length uc, .slice none 0 0, .slice none 0 0] 27) = w7 at hE7 hB7 ⊢
 have HE7 := Lib.hid hE7
 have HB7 := Lib.hid hB7
 obtain ⟨m, hm⟩ : ∃ m, m = d.exist.length := ⟨_, rfl⟩
 have HMX := Lib.hid hm
 have hml : m ≤ 1000000 := by rw [hm]; exact OK.out.xl
 have kd1 : ∀ wr, Chg (fun i => W.heap.size ≤ i) W wr → wr.cell? ⟨w.heap.size, 1, none⟩ = some (.slice XA m xc) ∧ wr.cell? ⟨w.heap.size, 2, none⟩ = some (.slice CA us.length cc) ∧ wr.cell? ⟨w.heap.size + 1, 1, none⟩ = some (.int .i64 x) ∧ wr.cell? ⟨w.heap.size + 1, 2, none⟩ = some (.int .i64 t) := fun wr hc => by
  have h3 := HSW.out
  have q1 := (hc.blk HB0.out (fun h => by omega)).cell 1
  have q2 := (hc.blk HB0.out (fun h => by omega)).cell 2
  have q3 := (hc.blk HB1.out (fun h => by omega)).cell 1
  have q4 := (hc.blk HB1.out (fun h => by omega)).cell 2
  rw [hm]
  exact ⟨by simpa using q1, by simpa using q2, by simpa using q3, by simpa using q4⟩
 have HKD := Lib.hid kd1
 clear hE7 hB7 hm kd1
 go_wp2
 go_loopg [7] m (fun gn i wr => ∃ (k : Nat) (xv : Value), k ≤ m ∧ gn + k = m ∧ i = .int .i64 (k : Int) ∧ Hid (Blk wr b7 27 [.slice UA d.univ.length uc, xv, .slice none 0 0]) ∧ Hid (OwnY w wr W.heap.size xv ((d.exist.take k).filter fun y => !decide (y.1 = x))) ∧ Hid (Chg (fun i => W.heap.size ≤ i) W wr))
 case atStart => exact ⟨0, _, Nat.zero_le _, by omega, rfl, HB7, Lib.hid (OwnY.nil _ _ _), Lib.hid (HE7.out.chg _)⟩
 case round =>
  obtain ⟨k, xv, hk, hgk, rfl, HBr, HXr, HCr⟩ := hrel
  obtain ⟨w8, rfl⟩ : ∃ w8 : World, w8 = wr := ⟨_, rfl⟩
  by_cases hlt : k < m
  · have hkf : k < d.exist.length := Nat.lt_of_lt_of_le hlt (Nat.le_of_eq HMX.out)
    obtain ⟨A', c', ons', e1, -, -, e4, e5⟩ := HD.out.x
    injection e1 with a1 a2 a3
    subst a1
    obtain ⟨ad, had, hc0, hc1, hri⟩ := e5 k hkf (by rw [e4]; exact hkf)
    subst had
    have hfil : (d.exist.take (k + 1)).filter (fun y => !decide (y.1 = x)) = (d.exist.take k).filter (fun y => !decide (y.1 = x)) ++ (if d.exist[k].1 = x then [] else [d.exist[k]]) := by
     rw [List.take_succ_eq_append_getElem hkf, List.filter_append]
     congr 1
     by_cases e : d.exist[k].1 = x <;> simp [e]
    generalize d.exist[k] = X at hc0 hri hfil
    generalize ons'[k]'(by rw [e4]; exact hkf) = on at hc1 hri
    have HRI := Lib.hid hri
    obtain ⟨OA, oc, hone, -⟩ := hri
    obtain ⟨ol, hole⟩ : ∃ ol, ol = X.2.length := ⟨_, rfl⟩
    rw [← hole] at hone
    subst hone
    obtain ⟨v, hv⟩ : ∃ v, v = X.1 := ⟨_, rfl⟩
    rw [← hv] at hc0 hfil
    have HV := Lib.hid hv
    have HFI := Lib.hid hfil
    have HC0 := Lib.hid hc0
    have HC1 := Lib.hid hc1
    have fct : ∀ wr, Chg (fun i => W.heap.size ≤ i) W wr → wr.cell? (ad.add (k * 2)) = some (.int .i64 v) ∧ wr.cell? ⟨(ad.add (k * 2)).block, (ad.add (k * 2)).off + 1, none⟩ = some (.slice OA ol oc) := fun wr hc => by
     have hE := hc.toExt HEW.out (fun i hi => Nat.le_trans HEW.out.size hi)
     exact ⟨hE.cell HC0.out, hE.cell HC1.out⟩
    have HFC := Lib.hid fct
    clear hkf e4 e5 a2 a3 hfil hole hv hc0 hc1 fct
    obtain ⟨d1, -, k1, -⟩ := HKD.out w8 HCr.out
    obtain ⟨f0, f1⟩ := HFC.out w8 HCr.out
    go_upto_region 9 with fail
    by_cases hvx : v = x
    · have hvb : (v != x) = false := by simp [hvx]
      have HVX := Lib.hid hvx
      clear hvx
      go_quiet (fail)
      go_wp2
      go_roundg (m - (k + 1))
      case measure => omega
      case rel => exact ⟨k + 1, xv, by omega, by omega, by go_num, Lib.hid (((Ext.drewN w8 _).chg (fun _ => False)).blk HBr.out id), Lib.hid (by rw [HFI.out, if_pos HVX.out, List.append_nil]; exact HXr.out.ext (Ext.drewN w8 _)), Lib.hid (HCr.out.trans ((Ext.drewN w8 _).chg _))⟩
    · have hvb : (v != x) = true := by simp [hvx]
      have HVX := Lib.hid hvx
      clear hvx
      go_quiet (fail)
      generalize hwq : w8.drewN _ = wq
      have eq9 : Ext w8 wq := by rw [← hwq]; exact Ext.drewN w8 _
      have HBq := Lib.hid ((eq9.chg (fun _ => False)).blk HBr.out id)
      have HXq := Lib.hid (HXr.out.ext eq9)
      have HCq := Lib.hid (HCr.out.trans (eq9.chg _))
      clear hwq eq9 d1 k1 f0 f1 HBr HXr HCr
      go_upto_region 10 with fail
      obtain ⟨d1, -, k1, -⟩ := HKD.out wq HCq.out
      obtain ⟨f0, f1⟩ := HFC.out wq HCq.out
      have a1 := HBq.out.cell 1
      simp only [List.getElem?_cons_zero, List.getElem?_cons_succ] at a1
      obtain ⟨ps, p1, p2, p3⟩ := HXq.out
      obtain ⟨nX, hnX⟩ : ∃ nX, nX = ((d.exist.take k).filter fun y => !decide (y.1 = x)).length := ⟨_, rfl⟩
      rw [← hnX] at p1 p2
      have hnXl : nX ≤ 1000000 := by
       rw [hnX]
       refine Nat.le_trans (List.length_filter_le _ _) ?_
       rw [List.length_take]; omega
      have HP1 := Lib.hid p1
      have HP2 := Lib.hid p2
      have HP3 := Lib.hid p3
      have HNX := Lib.hid hnX
      have HSQ := Lib.hid HCq.out.size
      obtain ⟨i0, hi, hz0, hz1, hz2⟩ := info_parts info_dep
      have HI := Lib.hid hi
      have HZ := Lib.hid hz0
      have HZ1 := Lib.hid hz1
      have HZ2 := Lib.hid hz2
      clear hi hz0 hz1 hz2 p1 p2 p3 hnX
      have a1d : (wq.alloc (.cells #[.int .i64 v, .slice OA ol oc] 61)).cell? ⟨b7, 1, none⟩ = some xv := (Ext.alloc wq _).cell a1
      go_region_law (
       (refine step_append_lies _ rfl (.tmp 42) (.tmp 48) 25 rfl W.heap.size 61 i0 (.agg #[.int .i64 0, .slice none 0 0]) 2 32 Tryz.underlying25 HI.out HZ.out HZ1.out HZ2.out rfl (by decide) xv nX (encX ps) rfl ?c1 ⟨wq.heap.size, 0, none⟩ 1 1 [.int .i64 v, .slice OA ol oc] rfl rfl ?c2 (by simp [Value.oneCell']) (by omega) (by unfold maxLen; omega) (by omega) (by have := HSQ.out; simp; omega) (wq.heap.size + 1) (by simp) ?_
        case c1 => exact own_ext HP1.out ((Ext.drew wq).trans (Ext.alloc _ _))
        case c2 => exact two_cells _ _ _ _
        intro gC capC wC hown hgr hat hlt
        have hcC : Chg (fun i => some i = xv.ownBlock) wq wC := (((Ext.drew wq).trans (Ext.alloc _ _)).chg _).trans (grown_chg hgr)
        have hbC := hcC.blk HBq.out (fun h => fin_neq HBq.out HP1.out (by decide) h.symm)
        have c1C := hbC.cell 1
        have f1C := hbC.free 1
        simp only [List.getElem?_cons_zero, List.getElem?_cons_succ] at c1C
        have HFN := Lib.hid (depY (x := X) HNX.out HP1.out HP2.out HP3.out HBq.out HRI.out (by rw [← HV.out]; exact hown) hcC hb7)
        clear hown hgr hcC hbC hat hlt))
      all_goals
       go_wp2
       go_roundg (m - (k + 1))
       case measure => omega
       case rel => exact ⟨k + 1, _, by omega, by omega, by go_num, Lib.hid HFN.out.1, Lib.hid (by rw [HFI.out, if_neg HVX.out]; exact HFN.out.2.1), Lib.hid (HCq.out.trans HFN.out.2.2)⟩
  · obtain rfl : k = m := by omega
    have htk : d.exist.take k = d.exist := by rw [HMX.out, List.take_length]
    rw [htk] at HXr
    obtain ⟨nC, hnC⟩ : ∃ nC, nC = us.length := ⟨_, rfl⟩
    have HNC := Lib.hid hnC
    have hnCl : nC ≤ 1000000 := by rw [hnC, HCL4.out]; exact OK.out.cl
    rw [← hnC] at HKD
    obtain ⟨d1, -, -, -⟩ := HKD.out w8 HCr.out
    clear htk hnC
    go_wp2
    clear d1
    go_loopg [8] nC (fun gn i wr => ∃ (k2 : Nat) (cv : Value), k2 ≤ nC ∧ gn + k2 = nC ∧ i = .int .i64 (k2 : Int) ∧ Hid (Blk wr b7 27 [.slice UA d.univ.length uc, xv, cv]) ∧ Hid (OwnY w wr W.heap.size xv (d.exist.filter fun y => !decide (y.1 = x))) ∧ Hid (OwnLL wr W.heap.size cv ((d.clauses.take k2).filterMap (normC x t))) ∧ Hid (Chg (fun i => W.heap.size ≤ i) W wr))
    case atStart => exact ⟨0, _, Nat.zero_le _, by omega, rfl, HBr, HXr, Lib.hid ⟨[], World.ownsRow_nil _ _ _ 1, rfl, fun j hj => absurd hj (Nat.not_lt_zero j)⟩, HCr⟩
    case round =>
     obtain ⟨k2, cv, hk2, hgk2, rfl, GBr, GXr, GLr, GCr⟩ := hrel
     obtain ⟨w9, rfl⟩ : ∃ w9 : World, w9 = wr := ⟨_, rfl⟩
     by_cases hlt2 : k2 < nC
     · obtain ⟨A', c', us', e1, -, -, e4, e5, e6⟩ := HD.out.c
       injection e1 with a1 a2 a3
       subst a1
       have hku : k2 < us'.length := by rw [← a2, ← HNC.out]; exact hlt2
       have hkc : k2 < d.clauses.length := by rw [← e5]; exact hku
       obtain ⟨ad, had, hcell⟩ := e4 k2 hku
       subst had
       have hri := e6 k2 hku hkc
       have h64 := OK.out.c64 _ (List.getElem_mem hkc)
       have hll : d.clauses[k2].length ≤ 1000000 := Nat.le_trans (len_le_total (List.getElem_mem hkc)) OK.out.tot
       have hfm : (d.clauses.take (k2 + 1)).filterMap (normC x t) = (d.clauses.take k2).filterMap (normC x t) ++ (normC x t d.clauses[k2]).toList := by
        rw [List.take_succ_eq_append_getElem hkc, List.filterMap_append]
        congr 1
       generalize d.clauses[k2] = l at hri h64 hll hfm
       generalize us'[k2] = uk at hcell hri
       have hri2 := hri
       obtain ⟨KA, kc, huk, -⟩ := hri
       obtain ⟨nl, hnl⟩ : ∃ nl, nl = l.length := ⟨_, rfl⟩
       rw [← hnl] at huk
       subst huk
       have HRI := Lib.hid hri2
       have H64 := Lib.hid h64
       have HFM := Lib.hid hfm
       have HNL := Lib.hid hnl
       have hnl1 : nl ≤ 1000000 := by rw [hnl]; exact hll
       have HCL := Lib.hid hcell
       clear e4 e5 e6 a2 a3 hku hkc hri2 h64 hfm hnl hll hcell
       have fct : ∀ wr, Ext w9 wr → wr.cell? ⟨w.heap.size, 2, none⟩ = some (.slice (some ad) nC cc) ∧ wr.cell? ⟨w.heap.size + 1, 1, none⟩ = some (.int .i64 x) ∧ wr.cell? ⟨w.heap.size + 1, 2, none⟩ = some (.int .i64 t) ∧ wr.cell? (ad.add k2) = some (.slice KA nl kc) ∧ RI wr (.slice KA nl kc) l := fun wr hE => by
        have hc := GCr.out.trans (hE.chg _)
        obtain ⟨-, q2, q3, q4⟩ := HKD.out wr hc
        have hE0 := hc.toExt HEW.out (fun i hi => Nat.le_trans HEW.out.size hi)
        exact ⟨q2, q3, q4, hE0.cell HCL.out, HRI.out.ext hE0⟩
       have HFC := Lib.hid fct
       clear fct
       obtain ⟨d2, -, -, -, -⟩ := HFC.out w9 (Ext.refl _)
       go_wp2
       clear d2
       go_loopg [9, 10] nl (fun gn lv i wr => ∃ j : Nat, j ≤ nl ∧ gn + j = nl ∧ i = .int .i64 (j : Int) ∧ Hid (OwnI wr w9.heap.size lv ((l.take j).map (subst1 x t))) ∧ Hid (Ext w9 wr))
       case atStart => exact ⟨0, Nat.zero_le _, by omega, rfl, Lib.hid (by rw [List.take_zero]; exact OwnI.nil _ _), Lib.hid (Ext.refl _)⟩
       case round =>
        obtain ⟨j, hj, hgj, rfl, FO, FE⟩ := hrel
        obtain ⟨wr, rfl⟩ : ∃ w' : World, w' = wr := ⟨_, rfl⟩
        obtain ⟨d2, k1, k4, cl, hri⟩ := HFC.out wr FE.out
        by_cases hjl : j < nl
        · have hjf : j < l.length := by rw [← HNL.out]; exact hjl
          obtain ⟨kd, hkd, hcj⟩ := hri.row.2.2.2.int j hjf
          subst hkd
          have hts := List.take_succ_eq_append_getElem hjf
          have hy64 := H64.out _ (List.getElem_mem hjf)
          generalize l[j] = y at hcj hts hy64
          have HTS : Hid ((l.take (j + 1)).map (subst1 x t) = (l.take j).map (subst1 x t) ++ [subst1 x t y]) := Lib.hid (by rw [hts, List.map_append]; rfl)
          have hsl : ((l.take j).map (subst1 x t)).length = j := by rw [List.length_map, List.length_take]; omega
          have HSL := Lib.hid hsl
          have HFS := Lib.hid FE.out.size
          clear hts hjf hri hsl
          have app : ∀ (z : Int), z = subst1 x t y → ∀ (v' : Value) (wP : World), OwnI wP w9.heap.size v' ((l.take j).map (subst1 x t) ++ [z]) → (wr.alloc (.cells #[.int .i64 z] 3)).grownBy wP u9.ownBlock → Hid (OwnI wP w9.heap.size v' ((l.take (j + 1)).map (subst1 x t))) ∧ Hid (Ext w9 wP) := fun z hz v' wP ho hg => by
           refine ⟨Lib.hid (by rw [HTS.out, ← hz]; exact ho), Lib.hid ?_⟩
           exact (FE.out.trans (Ext.alloc wr _)).grown hg (fun b hb => (own_typed FO.out hb).1)
          have HAPP := Lib.hid app
          clear app
          by_cases hyx : y = x
          · have hyb : (y == x) = true := by simpa using hyx
            have HYX := Lib.hid hyx
            clear hyx
            go_wp2_with (at_builtin; refine app_I rfl (.tmp 90) (.tmp 92) rfl (base := w9.heap.size) (ys := [t]) rfl rfl (own_ext FO.out (Ext.alloc wr _)) (lit0 wr [t] (by simp)) (by rw [HSL.out]; simp; omega) (by have := HFS.out; simp; omega) ?_; intro v' wP ho hg; have HOP := Lib.hid ho; have HGP := Lib.hid hg; clear ho hg)
            go_roundg (nl - (j + 1))
            case measure => omega
            case rel =>
             obtain ⟨q1, q2⟩ := HAPP.out t (by unfold subst1; rw [if_pos HYX.out]) _ _ HOP.out HGP.out
             exact ⟨j + 1, by omega, by omega, by go_num, q1, q2⟩
          · have hyb : (y == x) = false := by simpa using hyx
            have HYX := Lib.hid hyx
            clear hyx
            by_cases hyn : y = -x
            · have hynb : (y == -x) = true := by simpa using hyn
              have HYN := Lib.hid hyn
              clear hyn
              go_wp2_with (at_builtin; refine app_I rfl (.tmp 90) (.tmp 92) rfl (base := w9.heap.size) (ys := [nt]) rfl rfl (own_ext FO.out (Ext.alloc wr _)) (lit0 wr [nt] (by simp)) (by rw [HSL.out]; simp; omega) (by have := HFS.out; simp; omega) ?_; intro v' wP ho hg; have HOP := Lib.hid ho; have HGP := Lib.hid hg; clear ho hg)
              go_roundg (nl - (j + 1))
              case measure => omega
              case rel =>
               obtain ⟨q1, q2⟩ := HAPP.out nt (by unfold subst1; rw [if_neg HYX.out, if_pos HYN.out, HNT.out]) _ _ HOP.out HGP.out
               exact ⟨j + 1, by omega, by omega, by go_num, q1, q2⟩
            · have hynb : (y == -x) = false := by simpa using hyn
              have HYN := Lib.hid hyn
              clear hyn
              go_wp2_with (at_builtin; refine app_I rfl (.tmp 90) (.tmp 92) rfl (base := w9.heap.size) (ys := [y]) rfl rfl (own_ext FO.out (Ext.alloc wr _)) (lit0 wr [y] (by simp)) (by rw [HSL.out]; simp; omega) (by have := HFS.out; simp; omega) ?_; intro v' wP ho hg; have HOP := Lib.hid ho; have HGP := Lib.hid hg; clear ho hg)
              go_roundg (nl - (j + 1))
              case measure => omega
              case rel =>
               obtain ⟨q1, q2⟩ := HAPP.out y (by unfold subst1; rw [if_neg HYX.out, if_neg HYN.out]) _ _ HOP.out HGP.out
               exact ⟨j + 1, by omega, by omega, by go_num, q1, q2⟩
        · obtain rfl : j = nl := by omega
          have hres : (l.take j).map (subst1 x t) = l.map (subst1 x t) := by rw [HNL.out, List.take_length]
          rw [hres] at FO
          have h64m : All64 (l.map (subst1 x t)) := fun z hz => by
           obtain ⟨y, hy, rfl⟩ := List.mem_map.1 hz
           have h1 := H64.out y hy
           have h2 := varOf_eq HTR.out
           have h3 := varOf_range t
           unfold subst1
           split
           · unfold I64; omega
           · split
             · unfold I64; omega
             · exact h1
          have HN1 := Lib.hid (refNorm_own (l.map (subst1 x t)) u9 wr h64m (OwnI.reads FO.out))
          obtain ⟨LA, ln, lc, hlv⟩ := slice_of (OwnI.reads FO.out)
          subst hlv
          obtain ⟨R, hR⟩ : ∃ R, R = NormV (l.map (subst1 x t)) := ⟨_, rfl⟩
          have HNC2 : Hid (normC x t l = if R.2 = 0 then some R.1 else none) := Lib.hid (by rw [hR]; rfl)
          rw [← hR] at HN1
          obtain ⟨R1, R2⟩ := R
          clear hR h64m hres
          simp only at HN1 HNC2
          obtain ⟨i1, hi, hz0, hz1, hz2⟩ := info_parts info_ints
          have HI := Lib.hid hi
          have HZ := Lib.hid hz0
          have HZ1 := Lib.hid hz1
          have HZ2 := Lib.hid hz2
          clear hi hz0 hz1 hz2
          obtain ⟨vs, v1, v2, v3⟩ := GLr.out
          have hvl : vs.length ≤ 1000000 := by
           rw [v2]
           refine Nat.le_trans (List.length_filterMap_le _ _) ?_
           rw [List.length_take]; omega
          have HV1 := Lib.hid v1
          have HV2 := Lib.hid v2
          have HV3 := Lib.hid v3
          clear v1 v2 v3
          by_cases hr : R2 = 0
          · subst hr
            go_wp2_with (first
             | (go_at_call 61; refine HN1.out.mono ?_; rintro e wN ⟨vN, rfl, hoN, hEN⟩; have HEN := Lib.hid (FE.out.trans hEN); have HON := Lib.hid (own_lower hoN (Nat.le_trans GCr.out.size FE.out.size)); obtain ⟨NA, nc, hvN, -⟩ := OwnI.reads hoN; obtain ⟨nn, hnn⟩ : ∃ nn, nn = R1.length := ⟨_, rfl⟩; rw [← hnn] at hvN; subst hvN; have hbN := (HEN.out.chg (fun _ => False)).blk GBr.out id; have HBN := Lib.hid hbN; have z2 := hbN.cell 2; simp only [List.getElem?_cons_zero, List.getElem?_cons_succ] at z2; have HSN : Hid (W.heap.size ≤ wN.heap.size) := Lib.hid (Nat.le_trans GCr.out.size HEN.out.size); clear hoN hEN hnn hbN)
             | (at_builtin; refine wpList_append_own _ rfl (.tmp 102) (.tmp 104) 22 rfl W.heap.size 24 i1 (.slice none 0 0) 1 24 Tryz.underlying22 HI.out HZ.out HZ1.out HZ2.out rfl (by decide) _ vs.length vs rfl (own_ext HV1.out (HEN.out.trans (Ext.alloc wN _))) ⟨wN.heap.size, 0, none⟩ 1 1 [.slice NA nn nc] rfl rfl (one_cell wN _ _) (by simp [Value.oneCell']) (by unfold maxLen; omega) (by omega) (by have := HSN.out; simp; omega) ?_; intro v' wP hown hgr _
                obtain ⟨gP, capP, hvP, -⟩ := own_some hown
                subst hvP
                have hcP : Chg (fun i => some i = cv.ownBlock) wN wP := ((Ext.alloc wN _).chg _).trans (grown_chg hgr)
                have hbP := hcP.blk HBN.out (fun h => fin_neq HBN.out (own_ext HV1.out HEN.out) (by decide) h.symm)
                have p2 := hbP.cell 2
                have f2 := hbP.free 2
                simp only [List.getElem?_cons_zero, List.getElem?_cons_succ] at p2
                have HOP := Lib.hid hown
                have HGP := Lib.hid hgr
                have HCP := Lib.hid hcP
                have HBP := Lib.hid hbP
                clear hown hgr hcP hbP))
            go_roundg (nC - (k2 + 1))
            case measure => omega
            case rel =>
             have hset := Chg.set wP b7 2 (.slice (some ⟨gP, 0, none⟩) (vs.length + 1) capP)
             have hrow := own_ext HV1.out HEN.out
             have hall : Chg (fun i => some i = cv.ownBlock ∨ i = b7) wN (wP.setCell ⟨b7, 2, none⟩ (.slice (some ⟨gP, 0, none⟩) (vs.length + 1) capP)) := (HCP.out.mono fun i hi => .inl hi).trans (hset.mono fun i hi => .inr hi)
             refine ⟨k2 + 1, _, by omega, by omega, by go_num, Lib.hid (HBP.out.set 2 _), Lib.hid ((GXr.out.ext HEN.out).keep hall (fun i hi cur hh => ?_)), Lib.hid ?_, Lib.hid (GCr.out.trans ((HEN.out.chg _).trans (hall.mono fun i hi => ?_)))⟩
             · rcases hi with hi | hi
               · obtain ⟨-, -, c9, h9⟩ := own_typed hrow hi.symm
                 rw [h9] at hh
                 injection hh with hh; injection hh with _ hh; exact absurd hh (by decide)
               · have h9 := HBN.out
                 unfold Blk at h9
                 rw [hi, h9] at hh
                 injection hh with hh; injection hh with _ hh; exact absurd hh (by decide)
             · rw [HFM.out, HNC2.out, if_pos trivial, show (some R1).toList = [R1] from rfl]
               have hs := OwnLL.snoc (w := wN.alloc (.cells #[.slice NA nn nc] 24)) HV2.out (fun j hj hj' => own_ext (HV3.out j hj hj') (HEN.out.trans (Ext.alloc wN _))) (own_ext HV1.out (HEN.out.trans (Ext.alloc wN _))) (own_ext HON.out (Ext.alloc wN _)) HOP.out HGP.out
               refine hs.keep hset (fun i hi cur hh => ?_)
               have h9 := HBP.out
               unfold Blk at h9
               rw [hi, h9] at hh
               rcases hh with hh | hh <;> injection hh with hh <;> injection hh with _ hh <;> exact absurd hh (by decide)
             · rcases hi with hi | hi
               · exact (own_typed hrow hi.symm).1
               · rw [hi]; exact hb7
          · have hrb : (R2 == 0) = false := by simpa using hr
            have HRN := Lib.hid hr
            clear hr
            go_wp2_with (go_at_call 61; refine HN1.out.mono ?_; rintro e wN ⟨vN, rfl, hoN, hEN⟩; have HEN := Lib.hid (FE.out.trans hEN); clear hoN hEN)
            go_roundg (nC - (k2 + 1))
            case measure => omega
            case rel =>
             exact ⟨k2 + 1, cv, by omega, by omega, by go_num, Lib.hid ((HEN.out.chg (fun _ => False)).blk GBr.out id), Lib.hid (GXr.out.ext HEN.out), Lib.hid (by rw [HFM.out, HNC2.out, if_neg HRN.out]; simpa using GLr.out.ext HEN.out), Lib.hid (GCr.out.trans (HEN.out.chg _))⟩
     · obtain rfl : k2 = nC := by omega
       have htk2 : d.clauses.take k2 = d.clauses := by rw [HNC.out, HCL4.out, List.take_length]
       rw [htk2] at GLr
       obtain ⟨-, d2, -, -⟩ := HKD.out w9 GCr.out
       have h33 := HSW.out
       have hbR := GCr.out.blk HB2.out (fun h => by omega)
       have r0 := hbR.cell 0
       have r1 := hbR.cell 1
       have r2 := hbR.cell 2
       have q0 := hbR.free 0
       have q1 := hbR.free 1
       have q2 := hbR.free 2
       have s0 := GBr.out.cell 0
       have s1 := GBr.out.cell 1
       have s2 := GBr.out.cell 2
       simp only [List.getElem?_cons_zero, List.getElem?_cons_succ] at r0 r1 r2 s0 s1 s2
       have hEw := GCr.out.toExt HEW.out (fun i hi => Nat.le_trans HEW.out.size hi)
       have HXV := Lib.hid (GXr.out.reads hEw)
       obtain ⟨A1, c1, hxve⟩ : ∃ A1 c1, xv = .slice A1 (d.exist.filter fun y => !decide (y.1 = x)).length c1 := by
        obtain ⟨A, c, ons, e, -⟩ := HXV.out
        exact ⟨A, c, e⟩
       obtain ⟨A2, n2, c2, hcve⟩ : ∃ A2 n2 c2, cv = .slice A2 n2 c2 := by
        obtain ⟨vs, h1, -⟩ := GLr.out
        obtain ⟨A, c, e, -⟩ := own_row h1
        exact ⟨A, _, c, e⟩
       obtain ⟨n1, hn1⟩ : ∃ n1, n1 = (d.exist.filter fun y => !decide (y.1 = x)).length := ⟨_, rfl⟩
       rw [← hn1] at hxve
       subst hxve hcve
       clear hn1 htk2 hbR h33 hEw
       go_wp2
       refine bodyPost_ret (v := .tuple #[.agg #[.slice UA d.univ.length uc, .slice A1 n1 c1, .slice A2 n2 c2], .int .i64 0]) (by simp [results, Tryz.results22, go_sem, r0, r1, r2]) rfl ⟨_, _, _, rfl, ?_, ?_⟩
       · have hbR := GCr.out.blk HB2.out (fun h => by have := HSW.out; omega)
         have hset : Chg (fun i => i = w.heap.size + 2) w9 ((((w9.setCell ⟨w.heap.size + 2, 0, none⟩ (.slice UA d.univ.length uc)).setCell ⟨w.heap.size + 2, 1, none⟩ (.slice A1 n1 c1)).setCell ⟨w.heap.size + 2, 2, none⟩ (.slice A2 n2 c2))) := ((Chg.set w9 _ _ _).trans (Chg.set _ _ _ _)).trans (Chg.set _ _ _ _)
         show RD ((((w9.setCell ⟨w.heap.size + 2, 0, none⟩ (.slice UA d.univ.length uc)).setCell ⟨w.heap.size + 2, 1, none⟩ (.slice A1 n1 c1)).setCell ⟨w.heap.size + 2, 2, none⟩ (.slice A2 n2 c2))) _ _ _ (madeV d c)
         rw [HMV.out]
         have he := GCr.out.toExt HEW.out (fun i hi => Nat.le_trans HEW.out.size hi)
         have hEF : Ext w ((((w9.setCell ⟨w.heap.size + 2, 0, none⟩ (.slice UA d.univ.length uc)).setCell ⟨w.heap.size + 2, 1, none⟩ (.slice A1 n1 c1)).setCell ⟨w.heap.size + 2, 2, none⟩ (.slice A2 n2 c2))) := hset.toExt he (fun i hi => by omega)
         have hno : ∀ i, i = w.heap.size + 2 → ∀ cur : Array Value, w9.heap[i]? = some (.cells cur 3 (0, 0)) ∨ w9.heap[i]? = some (.cells cur 24 (0, 0)) → False := fun i hi cur hh => by
          subst hi
          unfold Blk at hbR
          rw [hbR] at hh
          rcases hh with hh | hh <;> injection hh with hh <;> injection hh with _ hh <;> exact absurd hh (by decide)
         have hno2 : ∀ i, i = w.heap.size + 2 → ∀ cur : Array Value, w9.heap[i]? = some (.cells cur 61 (0, 0)) → False := fun i hi cur hh => by
          subst hi
          unfold Blk at hbR
          rw [hbR] at hh
          injection hh with hh; injection hh with _ hh; exact absurd hh (by decide)
         exact ⟨HD.out.u.ext hEF, (GXr.out.keep hset hno2).reads hEF, (GLr.out.keep hset hno).reads⟩
       · have he := GCr.out.toExt HEW.out (fun i hi => Nat.le_trans HEW.out.size hi)
         repeat (refine Below.setCell ?_ (by simp <;> omega) _)
         exact he
end Go.Proofs.YtjecjaihficcdaaGreat
namespace Go.Proofs.YtjecjaihficcdaaGreat
open Go.RowKit
set_option maxHeartbeats 4000000 in
theorem Ints_refl (xs : List Int) (v u : Value) (w : World) (hr : RI w v xs) (kr : RI w u xs) :
 Calls Tryz.prog 62 #[v, u] w fun e w' => e = .returned (.bool true) ∧ ∃ n, w' = w.drewN n := by
 have HR := Lib.hid hr
 have KR := Lib.hid kr
 obtain ⟨A, c, rfl, h1, h2, -⟩ := hr
 obtain ⟨B, d, rfl, k1, k2, -⟩ := kr
 obtain ⟨m, hm⟩ : ∃ m, m = xs.length := ⟨_, rfl⟩
 have HM := Lib.hid hm
 rw [← hm] at h1 h2 k1 HR KR ⊢
 clear hm k2
 have hnm : ((m : Int) != (m : Int)) = false := by simp
 go_enter Tryz.func62, Tryz.ntmps62
 go_wp2
 go_loopg [5] m (fun gn i wr => ∃ k : Nat, k ≤ m ∧ gn + k = m ∧ i = .int .i64 k ∧ Hid (∃ n, wr = w.drewN n))
 case atStart => exact ⟨0, Nat.zero_le _, by omega, rfl, ⟨0, rfl⟩⟩
 case round =>
  obtain ⟨k, hk, hgk, rfl, HI⟩ := hrel
  obtain ⟨wk, rfl⟩ : ∃ wk : World, wk = wr := ⟨_, rfl⟩
  have HE : Hid (Ext w wk) := Lib.hid (by obtain ⟨n, e⟩ := HI.out; rw [e]; exact Ext.drewN _ _)
  by_cases hlt : k < m
  · have hlx : k < xs.length := by have := HM.out; omega
    obtain ⟨ad, rfl, hx0⟩ := (HR.out.ext HE.out).row.2.2.2.int k hlx
    obtain ⟨bd, rfl, hy0⟩ := (KR.out.ext HE.out).row.2.2.2.int k hlx
    generalize xs[k] = x at hx0 hy0
    have hxx : (x != x) = false := by simp
    clear hlx
    go_wp2
    go_quiet (fail)
    go_wp2
    go_roundg (m - (k + 1))
    case measure => omega
    case rel =>
     refine ⟨k + 1, by omega, by omega, by go_num, ?_⟩
     obtain ⟨n, e⟩ := HI.out
     exact ⟨_, by rw [e, drewN_two]⟩
  · obtain rfl : k = m := by omega
    go_wp2
    go_ret
    exact ⟨rfl, HI.out⟩
theorem Ints_quiet (xs : List Int) (v u : Value) (w : World) (n : Nat) (hr : RI (w.drewN n) v xs) (kr : RI (w.drewN n) u xs) :
 Calls Tryz.prog 62 #[v, u] (w.drewN n) fun e w' => e = .returned (.bool true) ∧ ∃ m, w' = w.drewN m := by
 refine (Ints_refl xs v u _ hr kr).mono ?_
 rintro e w' ⟨h, m, rfl⟩
 exact ⟨h, _, drewN_two _ _ _⟩
set_option maxHeartbeats 4000000 in
theorem Lists_refl (f : List (List Int)) (v u : Value) (w : World) (hr : RLL w v f) (kr : RLL w u f) :
 Calls Tryz.prog 63 #[v, u] w fun e w' => e = .returned (.bool true) ∧ ∃ n, w' = w.drewN n := by
 obtain ⟨A, c, vs, rfl, h1, h2, h3, h4, h5⟩ := hr
 obtain ⟨B, d, us, rfl, k1, k2, k3, k4, k5⟩ := kr
 have H3 := Lib.hid h3
 have K3 := Lib.hid k3
 have H5 := Lib.hid h5
 have K5 := Lib.hid k5
 have H4 := Lib.hid h4
 have K4 := Lib.hid k4
 obtain ⟨m, hm⟩ : ∃ m, m = vs.length := ⟨_, rfl⟩
 have HM := Lib.hid hm
 have hum : us.length = m := by rw [hm, h4, k4]
 rw [← hm] at h1 h2 ⊢
 rw [hum] at k1 k2 ⊢
 have HU := Lib.hid hum
 clear hm hum h3 k3 h5 k5 h4 k4 k2
 have hnm : ((m : Int) != (m : Int)) = false := by simp
 go_enter Tryz.func63, Tryz.ntmps63
 go_wp2
 go_loopg [5] m (fun gn i wr => ∃ k : Nat, k ≤ m ∧ gn + k = m ∧ i = .int .i64 k ∧ Hid (∃ n, wr = w.drewN n))
 case atStart => exact ⟨0, Nat.zero_le _, by omega, rfl, ⟨0, rfl⟩⟩
 case round =>
  obtain ⟨k, hk, hgk, rfl, HI⟩ := hrel
  obtain ⟨wk, rfl⟩ : ∃ wk : World, wk = wr := ⟨_, rfl⟩
  have HE : Hid (Ext w wk) := Lib.hid (by obtain ⟨n, e⟩ := HI.out; rw [e]; exact Ext.drewN _ _)
  by_cases hlt : k < m
  · have hkv : k < vs.length := by have := HM.out; omega
    have hku : k < us.length := by have := HU.out; omega
    have hkf : k < f.length := by have := H4.out; omega
    obtain ⟨ad, rfl, hx0⟩ := (H3.out.ext HE.out) k hkv
    obtain ⟨bd, rfl, hy0⟩ := (K3.out.ext HE.out) k hku
    have hvk := (H5.out k hkv hkf).ext HE.out
    have huk := (K5.out k hku hkf).ext HE.out
    generalize vs[k] = vk at hx0 hvk
    generalize us[k] = uk at hy0 huk
    generalize f[k] = F at hvk huk
    obtain ⟨VA, vn, vc, rfl⟩ := slice_of hvk
    obtain ⟨VB, un, uc, rfl⟩ := slice_of huk
    have HVK := Lib.hid hvk
    have HUK := Lib.hid huk
    clear hkv hku hkf hvk huk
    go_wp2
    go_quiet ((go_at_call 62; exact Ints_quiet F _ _ wk _ (HVK.out.ext (Ext.drewN _ _)) (HUK.out.ext (Ext.drewN _ _))))
    go_wp2
    go_roundg (m - (k + 1))
    case measure => omega
    case rel =>
     refine ⟨k + 1, by omega, by omega, by go_num, ?_⟩
     obtain ⟨n, e⟩ := HI.out
     exact ⟨_, by rw [e, drewN_two]⟩
  · obtain rfl : k = m := by omega
    go_wp2
    go_ret
    exact ⟨rfl, HI.out⟩
set_option maxHeartbeats 8000000 in
theorem SameD_refl (d : DqV) (au ax ac bu bx bc : Value) (w : World) (ha : RD w au ax ac d) (hb : RD w bu bx bc d) :
 Calls Tryz.prog 23 #[.agg #[au, ax, ac], .agg #[bu, bx, bc]] w fun e w' => e = .returned (.bool true) ∧ Ext w w' := by
 have HA := Lib.hid ha
 have HB := Lib.hid hb
 obtain ⟨⟨A1, c1, h1, -⟩, ⟨A2, c2, on1, h2, -, -, o1, -⟩, ⟨A3, c3, us, h3, -⟩⟩ := ha
 obtain ⟨⟨B1, d1, k1, -⟩, ⟨B2, d2, on2, k2, -, -, o2, -⟩, ⟨B3, d3, vs, k3, -⟩⟩ := hb
 subst h1 h2 h3 k1 k2 k3
 obtain ⟨m, hm⟩ : ∃ m, m = d.exist.length := ⟨_, rfl⟩
 have HM := Lib.hid hm
 have hml : m ≤ 9223372036854775807 := by obtain ⟨A, c, ons, -, -, h, -⟩ := HA.out.x; rw [hm]; exact h
 rw [← hm] at HA HB ⊢
 clear hm o1 o2
 have fct : ∃ W : World, W = (w.alloc (.cells #[.slice A1 d.univ.length c1, .slice A2 m c2, .slice A3 us.length c3] 27)).alloc (.cells #[.slice B1 d.univ.length d1, .slice B2 m d2, .slice B3 vs.length d3] 27) ∧
  Blk W w.heap.size 27 [.slice A1 d.univ.length c1, .slice A2 m c2, .slice A3 us.length c3] ∧ Blk W (w.heap.size + 1) 27 [.slice B1 d.univ.length d1, .slice B2 m d2, .slice B3 vs.length d3] ∧ Ext w W := by
  refine ⟨_, rfl, ?_, Blk.new' (by simp), (Ext.alloc w _).trans (Ext.alloc _ _)⟩
  exact ((Ext.alloc _ _).chg (fun _ => False)).blk (Blk.new w 27 _) id
 obtain ⟨W, hW, b1, b2, hE⟩ := fct
 have HW := Lib.hid hW
 have HE := Lib.hid hE
 have FC : Hid (∀ wr, Ext W wr → (wr.cell? ⟨w.heap.size, 0, none⟩ = some (.slice A1 d.univ.length c1) ∧ wr.cell? ⟨w.heap.size, 1, none⟩ = some (.slice A2 m c2) ∧ wr.cell? ⟨w.heap.size, 2, none⟩ = some (.slice A3 us.length c3)) ∧
  (wr.cell? ⟨w.heap.size + 1, 0, none⟩ = some (.slice B1 d.univ.length d1) ∧ wr.cell? ⟨w.heap.size + 1, 1, none⟩ = some (.slice B2 m d2) ∧ wr.cell? ⟨w.heap.size + 1, 2, none⟩ = some (.slice B3 vs.length d3))) := Lib.hid (fun wr h => by
  have q1 := (h.chg (fun _ => False)).blk b1 id
  have q2 := (h.chg (fun _ => False)).blk b2 id
  exact ⟨⟨q1.cell 0, q1.cell 1, q1.cell 2⟩, ⟨q2.cell 0, q2.cell 1, q2.cell 2⟩⟩)
 clear hW hE b1 b2
 obtain ⟨⟨p0, p1, p2⟩, ⟨q0, q1, q2⟩⟩ := FC.out W (Ext.refl _)
 have hmm : ((m : Int) != (m : Int)) = false := by simp
 go_enter Tryz.func23, Tryz.ntmps23
 go_upto_region 1 with fail
 rw [← HW.out]
 go_upto_region 3 with (first
  | (go_at_call 62; refine (Ints_refl d.univ _ _ _ (HA.out.u.ext HE.out) (HB.out.u.ext HE.out)).mono ?_; rintro e wa ⟨rfl, n, rfl⟩; have HEa : Hid (Ext W (W.drewN n)) := Lib.hid (Ext.drewN W n); obtain ⟨⟨p0a, p1a, p2a⟩, ⟨q0a, q1a, q2a⟩⟩ := FC.out _ HEa.out; generalize W.drewN n = wa at HEa p0a p1a p2a q0a q1a q2a ⊢)
  | (go_at_call 63; refine (Lists_refl d.clauses _ _ _ (RLL.ext' HA.out.c (HE.out.trans HEa.out)) (RLL.ext' HB.out.c (HE.out.trans HEa.out))).mono ?_; rintro e wb ⟨rfl, n, rfl⟩; have HEb : Hid (Ext W (wa.drewN n)) := Lib.hid (HEa.out.trans (Ext.drewN wa n)); generalize wa.drewN n = wb at HEb ⊢))
 clear p0 p1 p2 q0 q1 q2 p0a p1a p2a q0a q1a q2a
 go_wp2
 go_loopg [5] m (fun gn i wr => ∃ k : Nat, k ≤ m ∧ gn + k = m ∧ i = .int .i64 k ∧ Hid (Ext W wr))
 case atStart => exact ⟨0, Nat.zero_le _, by omega, rfl, HEb⟩
 case round =>
  obtain ⟨k, hk, hgk, rfl, HI⟩ := hrel
  obtain ⟨wk, rfl⟩ : ∃ wk : World, wk = wr := ⟨_, rfl⟩
  obtain ⟨⟨-, p1, -⟩, ⟨-, q1, -⟩⟩ := FC.out _ HI.out
  by_cases hlt : k < m
  · have hkx : k < d.exist.length := by have := HM.out; omega
    have hEk := HE.out.trans HI.out
    obtain ⟨A', c', ons, ea, -, -, e4, e5⟩ := HA.out.x.ext hEk
    obtain ⟨B', c'', ons', eb, -, -, f4, f5⟩ := HB.out.x.ext hEk
    injection ea with a1 a2 a3
    injection eb with b1 b2 b3
    subst a1 b1
    obtain ⟨ad, rfl, x1, x2, x3⟩ := e5 k hkx (by omega)
    obtain ⟨bd, rfl, y1, y2, y3⟩ := f5 k hkx (by omega)
    generalize d.exist[k] = X at x1 x3 y1 y3
    generalize ons[k] = o1 at x2 x3
    generalize ons'[k] = o2 at y2 y3
    obtain ⟨OA, on, oc, rfl⟩ := slice_of x3
    obtain ⟨OB, un, uc, rfl⟩ := slice_of y3
    have HX3 := Lib.hid x3
    have HY3 := Lib.hid y3
    obtain ⟨X1, X2⟩ := X
    dsimp only at x1 y1 HX3 HY3
    have hxx : (X1 != X1) = false := by simp
    clear hkx hEk e4 e5 f4 f5 x3 y3 a2 a3 b2 b3
    go_wp2
    go_quiet ((go_at_call 62; exact Ints_quiet X2 _ _ wk _ (HX3.out.ext (Ext.drewN _ _)) (HY3.out.ext (Ext.drewN _ _))))
    go_wp2
    go_roundg (m - (k + 1))
    case measure => omega
    case rel => exact ⟨k + 1, by omega, by omega, by go_num, Lib.hid (HI.out.trans (Ext.drewN _ _))⟩
  · obtain rfl : k = m := by omega
    go_wp2
    go_ret
    exact ⟨rfl, HE.out.trans HI.out⟩
end Go.Proofs.YtjecjaihficcdaaGreat
namespace Go.Proofs.YtjecjaihficcdaaGreat
open Go.RowKit
theorem refMake_any (d : DqV) (c : ChV) (vu vx vc : Value) (w : World) (hd : RD w vu vx vc d) (ok : DOk d) (cok : COk c) : Calls Tryz.prog 22 #[.agg #[vu, vx, vc], .agg (chArr c)] w (PostMake w (MakeV d c)) := by
 unfold MakeV
 cases hm : mayD d
 · rw [if_pos rfl]
   exact refMake_no d c vu vx vc w hd ok cok false hm (fun h => by cases h) 2 rfl
 · rw [if_neg (by simp)]
   cases hy : okCh d c
   · rw [if_pos rfl]
     exact refMake_no d c vu vx vc w hd ok cok true hm (fun _ => hy) 5 rfl
   · rw [if_neg (by simp)]
     exact refMake_ok d c vu vx vc w hd ok cok hm hy
theorem RD.forms {w : World} {vu vx vc : Value} {d : DqV} (h : RD w vu vx vc d) : ∃ A1 n1 c1 A2 n2 c2 A3 n3 c3, vu = .slice A1 n1 c1 ∧ vx = .slice A2 n2 c2 ∧ vc = .slice A3 n3 c3 := by
 obtain ⟨A1, n1, c1, h1⟩ := slice_of h.u
 obtain ⟨A2, c2, ons, h2, -⟩ := h.x
 obtain ⟨A3, c3, us, h3, -⟩ := h.c
 exact ⟨A1, n1, c1, A2, _, c2, A3, _, c3, h1, h2, h3⟩
set_option maxRecDepth 100000 in
set_option maxHeartbeats 8000000 in
theorem makes_law (d : DqV) (c : ChV) (vu vx vc : Value) (w : World) (hd : RD w vu vx vc d) (h64 : D64 d) (cok : COk c) (ht : d.clauses.length ≤ 60 → sizeD d ≤ 9223372036854775807) :
 Calls Tryz.prog 5 #[.agg #[vu, vx, vc], .agg (chArr c)] w fun e w' => e = .returned (.bool true) ∧ Ext w w' := by
 have HLG := Lib.hid (fun w' (h : Ext w w') => large_any d vu vx vc w' (hd.ext h) ht)
 have HD := Lib.hid hd
 have HOK : Hid (largeD d = false → DOk d) := Lib.hid (fun h => h64.ok h)
 have HMK := Lib.hid (fun w' (h : Ext w w') (ok : DOk d) => Make_any d c vu vx vc w' (hd.ext h) ok cok)
 have HRM := Lib.hid (fun w' (h : Ext w w') (ok : DOk d) => refMake_any d c vu vx vc w' (hd.ext h) ok cok)
 unfold chArr at HMK HRM ⊢
 generalize MakeV d c = R at HMK HRM
 obtain ⟨RM, RE⟩ := R
 generalize c.kind = ck at *
 generalize c.lit = cl at *
 generalize c.tz = ct at *
 generalize c.pos = cp at *
 generalize c.other = co at *
 obtain ⟨A1, n1, c1, A2, n2, c2, A3, n3, c3, hu, hx, hc⟩ := hd.forms
 subst hu hx hc
 clear hd h64 ht cok
 have fct : ∃ W : World, W = (w.alloc (.cells #[.slice A1 n1 c1, .slice A2 n2 c2, .slice A3 n3 c3] 27)).alloc (.cells #[.int .u8 ck, .int .i64 cl, .int .i64 ct, .int .i64 cp, .int .i64 co] 37) ∧
  Blk W w.heap.size 27 [.slice A1 n1 c1, .slice A2 n2 c2, .slice A3 n3 c3] ∧ Blk W (w.heap.size + 1) 37 [.int .u8 ck, .int .i64 cl, .int .i64 ct, .int .i64 cp, .int .i64 co] ∧ Ext w W := by
  refine ⟨_, rfl, ?_, Blk.new' (by simp), (Ext.alloc w _).trans (Ext.alloc _ _)⟩
  exact ((Ext.alloc _ _).chg (fun _ => False)).blk (Blk.new w 27 _) id
 obtain ⟨W, hW, b1, b2, hE⟩ := fct
 have HW := Lib.hid hW
 have HE := Lib.hid hE
 have FC : Hid (∀ wr, Ext W wr → (wr.cell? ⟨w.heap.size, 0, none⟩ = some (.slice A1 n1 c1) ∧ wr.cell? ⟨w.heap.size, 1, none⟩ = some (.slice A2 n2 c2) ∧ wr.cell? ⟨w.heap.size, 2, none⟩ = some (.slice A3 n3 c3)) ∧
  (wr.cell? ⟨w.heap.size + 1, 0, none⟩ = some (.int .u8 ck) ∧ wr.cell? ⟨w.heap.size + 1, 1, none⟩ = some (.int .i64 cl) ∧ wr.cell? ⟨w.heap.size + 1, 2, none⟩ = some (.int .i64 ct) ∧ wr.cell? ⟨w.heap.size + 1, 3, none⟩ = some (.int .i64 cp) ∧ wr.cell? ⟨w.heap.size + 1, 4, none⟩ = some (.int .i64 co))) := Lib.hid (fun wr h => by
  have q1 := (h.chg (fun _ => False)).blk b1 id
  have q2 := (h.chg (fun _ => False)).blk b2 id
  exact ⟨⟨q1.cell 0, q1.cell 1, q1.cell 2⟩, ⟨q2.cell 0, q2.cell 1, q2.cell 2, q2.cell 3, q2.cell 4⟩⟩)
 clear hW hE b1 b2
 obtain ⟨⟨p0, p1, p2⟩, ⟨q0, q1, q2, q3, q4⟩⟩ := FC.out W (Ext.refl _)
 cases hl : largeD d with
 | true =>
   rw [hl] at HLG
   clear HOK hl HMK HRM
   go_enter Tryz.func5, Tryz.ntmps5
   go_upto_region 1 with fail
   rw [← HW.out]
   go_wp2_with (first
    | (go_at_call 9; refine (HLG.out _ HE.out).mono ?_; rintro e w2 ⟨rfl, hE⟩; have HE2 := Lib.hid (HE.out.trans hE); clear hE)
    | (go_at_call 10; refine (awake_any _).mono ?_; rintro e w3 ⟨rfl, hE⟩; have HE3 := Lib.hid (HE2.out.trans hE); clear hE))
   go_ret
   exact ⟨rfl, HE3.out⟩
 | false =>
   have ok := HOK.out hl
   have HMK2 := Lib.hid (fun w' (h : Ext w w') => HMK.out w' h ok)
   have HRM2 := Lib.hid (fun w' (h : Ext w w') => HRM.out w' h ok)
   unfold PostMake at HMK2 HRM2
   simp only at HMK2 HRM2
   rw [hl] at HLG
   clear HOK hl ok HMK HRM
   go_enter Tryz.func5, Tryz.ntmps5
   go_upto_region 1 with fail
   rw [← HW.out]
   go_upto_region 4 with (first
    | (go_at_call 9; refine (HLG.out _ HE.out).mono ?_; rintro e w2 ⟨rfl, hE⟩; have HE2 := Lib.hid hE; obtain ⟨⟨p0a, p1a, p2a⟩, ⟨q0a, q1a, q2a, q3a, q4a⟩⟩ := FC.out _ hE; clear hE)
    | (go_at_call 21; refine (HMK2.out _ (HE.out.trans HE2.out)).mono ?_; rintro e w3 ⟨mu, mx, mc, rfl, hr, hE⟩; obtain ⟨U1, u1, uc1, U2, u2, uc2, U3, u3, uc3, h1, h2, h3⟩ := hr.forms; subst h1 h2 h3; have HE3 := Lib.hid (HE2.out.trans hE); have HR3 := Lib.hid hr; clear hE hr))
   have e4 := Ext.alloc w3 (.cells #[.slice U1 u1 uc1, .slice U2 u2 uc2, .slice U3 u3 uc3] 27)
   have HB4 := Lib.hid (Blk.new w3 27 [.slice U1 u1 uc1, .slice U2 u2 uc2, .slice U3 u3 uc3])
   have HE4 := Lib.hid (HE3.out.trans e4)
   have HR4 := Lib.hid (HR3.out.ext e4)
   clear p0 p1 p2 q0 q1 q2 q3 q4 p0a p1a p2a q0a q1a q2a q3a q4a HE3 HE2 HR3
   generalize w3.heap.size = b4 at HB4 ⊢
   generalize w3.alloc (.cells #[.slice U1 u1 uc1, .slice U2 u2 uc2, .slice U3 u3 uc3] 27) = w4 at e4 HB4 HE4 HR4 ⊢
   clear e4
   obtain ⟨⟨p0, p1, p2⟩, ⟨q0, q1, q2, q3, q4⟩⟩ := FC.out _ HE4.out
   go_upto_region 5 with (go_at_call 22; refine (HRM2.out _ (HE.out.trans HE4.out)).mono ?_; rintro e w5 ⟨mu, mx, mc, rfl, hr, hE⟩; obtain ⟨V1, v1, vc1, V2, v2, vc2, V3, v3, vc3, h1, h2, h3⟩ := hr.forms; subst h1 h2 h3; have HE5 := Lib.hid hE; have HR5 := Lib.hid hr; clear hE hr)
   have e6 := Ext.alloc w5 (.cells #[.slice V1 v1 vc1, .slice V2 v2 vc2, .slice V3 v3 vc3] 27)
   have B6 := Blk.new w5 27 [.slice V1 v1 vc1, .slice V2 v2 vc2, .slice V3 v3 vc3]
   have HR6 := Lib.hid (HR5.out.ext e6)
   have HR46 := Lib.hid (HR4.out.ext (HE5.out.trans e6))
   have hb4 := ((HE5.out.trans e6).chg (fun _ => False)).blk HB4.out id
   have HE6 := Lib.hid (HE.out.trans (HE4.out.trans (HE5.out.trans e6)))
   have s0 := hb4.cell 0
   have s1 := hb4.cell 1
   have s2 := hb4.cell 2
   have t0 := B6.cell 0
   have t1 := B6.cell 1
   have t2 := B6.cell 2
   simp only [List.getElem?_cons_zero, List.getElem?_cons_succ] at s0 s1 s2 t0 t1 t2
   clear p0 p1 p2 q0 q1 q2 q3 q4 B6 hb4 HR5 HR4 HB4
   generalize w5.heap.size = b6 at t0 t1 t2 ⊢
   generalize w5.alloc (.cells #[.slice V1 v1 vc1, .slice V2 v2 vc2, .slice V3 v3 vc3] 27) = w6 at e6 s0 s1 s2 t0 t1 t2 HR6 HR46 HE6 ⊢
   clear e6 HE5 HE4
   go_wp2_with (first
    | (go_at_call 23; refine (SameD_refl RM _ _ _ _ _ _ _ HR46.out HR6.out).mono ?_; rintro e w7 ⟨rfl, hE⟩; have HE7 := Lib.hid (HE6.out.trans hE); clear hE)
    | (go_at_call 10; refine (awake_any _).mono ?_; rintro e w8 ⟨rfl, hE⟩; have HE8 := Lib.hid (HE7.out.trans hE); clear hE))
   go_ret
   exact ⟨rfl, HE8.out⟩
end Go.Proofs.YtjecjaihficcdaaGreat
namespace Go.Proofs.YtjecjaihficcdaaGreat
open Go.ChangeShapes Go.WideShapes Go.ChangeAt Go.RowKit
theorem cellsK : Tryz.prog.cellsOf 35 = 1 := by kernel_rfl
theorem cellsCh : Tryz.prog.cellsOf 37 = 5 := by kernel_rfl
theorem open_Ch {H : Type} {enc : TypeId × Value → H} {W : World} {base : Nat} {held : Bool} {fuel : Nat} {x : DataW H × List MemPlace} {v : Value} (hv : ∃ cs, v = .agg cs ∧ cs.size = 5) (h : DataW.trod enc Tryz.prog W base (fun _ => true) held fuel 37 v.cells.toList = some x) :
 ∃ c : ChV, v = .agg (chArr c) ∧ COk c := by
 obtain ⟨cs, rfl, hs⟩ := hv
 obtain ⟨cl⟩ := cs
 match cl, hs with
 | [v0, v1, v2, v3, v4], _ =>
   obtain ⟨xs, n, -, -, -, hlen, hf⟩ := DataW.trod_struct Tryz.underlying37 h
   match xs, hlen with
   | [y0, y1, y2, y3, y4], _ =>
     have t0 := hf 0 _ rfl
     have t1 := hf 1 _ rfl
     have t2 := hf 2 _ rfl
     have t3 := hf 3 _ rfl
     have t4 := hf 4 _ rfl
     have t0' : DataW.trod enc Tryz.prog W base (fun _ => true) held n 35 (([v0, v1, v2, v3, v4].drop 0).take (Tryz.prog.cellsOf 35)) = some y0 := t0
     have e0 : DataW.trod enc Tryz.prog W base (fun _ => true) held n 35 [v0] = some y0 := by rw [cellsK] at t0'; exact t0'
     have t1' : DataW.trod enc Tryz.prog W base (fun _ => true) held n 3 (([v0, v1, v2, v3, v4].drop 1).take (Tryz.prog.cellsOf 3)) = some y1 := t1
     have e1 : DataW.trod enc Tryz.prog W base (fun _ => true) held n 3 [v1] = some y1 := by rw [cellsI] at t1'; exact t1'
     have t2' : DataW.trod enc Tryz.prog W base (fun _ => true) held n 3 (([v0, v1, v2, v3, v4].drop 2).take (Tryz.prog.cellsOf 3)) = some y2 := t2
     have e2 : DataW.trod enc Tryz.prog W base (fun _ => true) held n 3 [v2] = some y2 := by rw [cellsI] at t2'; exact t2'
     have t3' : DataW.trod enc Tryz.prog W base (fun _ => true) held n 3 (([v0, v1, v2, v3, v4].drop 3).take (Tryz.prog.cellsOf 3)) = some y3 := t3
     have e3 : DataW.trod enc Tryz.prog W base (fun _ => true) held n 3 [v3] = some y3 := by rw [cellsI] at t3'; exact t3'
     have t4' : DataW.trod enc Tryz.prog W base (fun _ => true) held n 3 (([v0, v1, v2, v3, v4].drop 4).take (Tryz.prog.cellsOf 3)) = some y4 := t4
     have e4 : DataW.trod enc Tryz.prog W base (fun _ => true) held n 3 [v4] = some y4 := by rw [cellsI] at t4'; exact t4'
     obtain ⟨k, hk, -, -⟩ := DataW.trod_int Tryz.underlying35 e0
     obtain ⟨a1, h1, -, w1⟩ := DataW.trod_int Tryz.underlying3 e1
     obtain ⟨a2, h2, -, w2⟩ := DataW.trod_int Tryz.underlying3 e2
     obtain ⟨a3, h3, -, w3⟩ := DataW.trod_int Tryz.underlying3 e3
     obtain ⟨a4, h4, -, w4⟩ := DataW.trod_int Tryz.underlying3 e4
     simp only [List.cons.injEq, and_true] at hk h1 h2 h3 h4
     subst hk h1 h2 h3 h4
     exact ⟨⟨k, a1, a2, a3, a4⟩, rfl, ⟨I64_wf w1, I64_wf w2, I64_wf w3, I64_wf w4⟩⟩
set_option maxRecDepth 100000 in
theorem equivMakes_lifted (os : Os) (started : os.Started) (H : Type) (enc : TypeId × Value → H) (F : Stop.Interp) :
 ReturnsInHanded {} Tryz.checked os 5 .any ((Rows.OpenSpec.upto Rows.equivMakesSpec).pre6 enc Tryz.prog Tryz.f5 Rows.equivMakesUptoRow.domain false) (((Rows.OpenSpec.upto Rows.equivMakesSpec).at F).post enc Tryz.prog Tryz.f5 false true false false) := by
 refine returnsInHanded_of_cond (C := Tryz.checked) (s := Rows.OpenSpec.upto Rows.equivMakesSpec) (k := Rows.uptoSmall) rfl ownK started (by kernel_rfl) Tryz.func5
  (OpenSpec.witness (enc := enc) (C := Tryz.checked) (s := Rows.OpenSpec.upto Rows.equivMakesSpec) (k := Rows.uptoSmall) rfl false ⟨#[], #[.agg #[.slice none 0 0, .slice none 0 0, .slice none 0 0], .agg #[.int .u8 0, .int .i64 0, .int .i64 0, .int .i64 0, .int .i64 0]], []⟩ 8 (by kernel_rfl) (by kernel_rfl) (by kernel_rfl)
   (x := ([.agg [.nil, .nil, .nil], .agg [.lit (.int .u8 0), .lit (.int .i64 0), .lit (.int .i64 0), .lit (.int .i64 0), .lit (.int .i64 0)]], [], [])) (by kernel_rfl) rfl (by kernel_rfl)) ?_
 intro W base args ds gs before hval0 hW _ hk _
 have hval : ∀ (j : Nat) t v, Tryz.f5.params[j]? = some t → args[j]? = some v → Value.okWide Tryz.prog W .any base t v := hval0
 have hW' := hW
 obtain ⟨p, q, hA0, hV, rfl, hfz, hnd⟩ := hW
 have hA : DataW.TrodAll enc Tryz.prog W 0 (fun _ => true) true Tryz.f5.params.toList args.toList ds p := hA0
 rw [Tryz.params5] at hA hval
 obtain ⟨v0, v1, d0, d1, p0, p1, rfl, rfl, rfl, h0, h1⟩ := trodAll_two hA
 obtain ⟨rfl, rfl⟩ := trodVars_none hV
 have hcs : ∃ cs, v0 = .agg cs ∧ cs.size = 3 := by
  obtain ⟨cs, h1, h2⟩ := okWide_struct Tryz.underlying27 (hval 0 27 v0 rfl rfl)
  exact ⟨cs, h1, by rw [h2, cellsD]⟩
 have hcs1 : ∃ cs, v1 = .agg cs ∧ cs.size = 5 := by
  obtain ⟨cs, h1, h2⟩ := okWide_struct Tryz.underlying37 (hval 1 37 v1 rfl rfl)
  exact ⟨cs, h1, by rw [h2, cellsCh]⟩
 have h0k := h0
 have h1k := h1
 obtain ⟨fuel0, hf0⟩ := h0
 obtain ⟨fuel1, hf1⟩ := h1
 clear hA0 hval0
 have hbk : Rows.uptoBulk d0 ≤ 1048576 := by
  have h1 := of_decide_eq_true hk
  simp only [List.append_nil, Rows.uptoBulkAll] at h1
  omega
 obtain ⟨vu, vx, vc, d, rfl, hd, h64, hsz⟩ := open_RDc hcs hf0 hbk
 obtain ⟨c, rfl, cok⟩ := open_Ch hcs1 hf1
 simp only [List.append_nil] at hW'
 have hlt : ∀ x ∈ p0 ++ p1, x.block < W.heap.size := fun x hx => by simpa using hW'.lt x hx
 refine (makes_law d c vu vx vc W hd h64 cok (fun _ => hsz)).mono fun e W' ⟨he, hE⟩ => ?_
 subst he
 have hargs : DataW.TrodAll enc Tryz.prog W' 0 (fun b => decide (b < W.heap.size)) true [27, 37] [.agg #[vu, vx, vc], .agg (chArr c)] [d0, d1] (p0 ++ p1) :=
  trodAll_mk2 (Below.trod laidOutK (by kernel_rfl) (of_decide_eq_true (by kernel_rfl)) h0k hE (fun x hx => hlt x (List.mem_append_left _ hx))) (Below.trod laidOutK (by kernel_rfl) (of_decide_eq_true (by kernel_rfl)) h1k hE (fun x hx => hlt x (List.mem_append_right _ hx)))
 exact ⟨_, rfl, _, _, _, [], p0 ++ p1, [], hW', trodAll_mk1 (shut_bool Tryz.underlying4 true), hargs, rfl, hE.frame _, fun h => by cases h⟩
theorem equivMakes_holds : Rows.EquivMakesUptoSaid :=
 OpenClaim.holds_of_cond 5 Tryz.f5 rfl rfl rfl rfl rfl rfl rfl ⟨rfl, rfl, rfl, rfl, rfl⟩ rfl rfl rfl rfl rfl (by kernel_rfl) Tryz.func5 (by kernel_rfl)
  (of_decide_eq_true (by kernel_rfl)) (by unfold Func.isWrapper; first | (rw [if_pos (by decide +kernel)]; kernel_rfl) | (rw [if_neg (by decide +kernel)]; exact ⟨rfl, rfl⟩))
  (fun os started H enc _ F => equivMakes_lifted os started H enc F)
#print axioms equivMakes_holds
end Go.Proofs.YtjecjaihficcdaaGreat
