/- The law EquivHolds returns true for every input, and its argument reads behind the call as before: no condition on the input. -/
import Derived.Test.YtjecjaihficcdaaGreatHxPEquivNextx32
import Derived.Test.YtjecjaihficcdaaGreatHxPEquivNextx33
import Derived.Test.YtjecjaihficcdaaGreatHxPEquivNextx34
import Derived.Test.YtjecjaihficcdaaGreatHxPEquivNextx35
import Derived.Test.YtjecjaihficcdaaGreatHxK
import Derived.Test.YtjecjaihficcdaaGreatHxI
import Derived.Test.YtjecjaihficcdaaGreatHxD
import Derived.Test.YtjecjaihficcdaaGreatHxJ
import Derived.Deep.Cut
import Derived.Test.YtjecjaihficcdaaGreatRows
import Derived.ProofKit
import Derived.LaidMore
import Derived.Stop.Joined
import Derived.Deep.Matrix
import Derived.SizedLaws
import Derived.RowKitVeiled
import Derived.JoinedAt
namespace Go.Proofs.YtjecjaihficcdaaGreat
open Go.RowKit Go.Proofs.YtjecjaihficcdaaGreatW.PrintWords
section
variable (f : List (List Int)) (u : Value) (w : World) (h64 : All64L f) (kr : RLL w u f) (ht : total f ≤ 9223372036854775807)
include h64 kr ht
end
theorem progClasses_any (f : List (List Int)) (u : Value) (w : World) (h64 : All64L f) (kr : RLL w u f) (ht : f.length ≤ 20000 → total f ≤ 9223372036854775807) :
 Calls Tryz.prog 17 #[u] w fun e w' => ∃ v, e = .returned v ∧ RLL w' v (if mayCnfB f = true then RefClasses f else []) ∧ Ext w w' := by
 refine (classes_any f u w kr h64 ht).mono ?_
 rintro e w' ⟨v, L, rfl, hr, hE, h0, h1⟩
 refine ⟨v, rfl, ?_, hE⟩
 cases hm : mayCnfB f
 · rw [h0 hm] at hr; rw [if_neg (by simp)]; exact hr
 · rw [classes_ref hm (h1 hm)] at hr; rw [if_pos rfl]; exact hr
end Go.Proofs.YtjecjaihficcdaaGreat
namespace Go.Proofs.YtjecjaihficcdaaGreat
open Go.RowKit
def sumX (X : List (Int × List Int)) (k : Nat) : Nat := ((X.take k).map fun x => 1 + x.2.length).sum
def sizeD (d : DqV) : Nat := d.univ.length + total d.clauses + sumX d.exist d.exist.length
def largeD (d : DqV) : Bool := decide (60 < d.clauses.length) || decide (300 < sizeD d)
theorem sumX_succ (X : List (Int × List Int)) (k : Nat) (hk : k < X.length) : sumX X (k + 1) = sumX X k + (1 + X[k].2.length) := by
 unfold sumX
 rw [List.take_succ_eq_append_getElem hk, List.map_append, List.sum_append]
 simp
theorem lens_succ' (f : List (List Int)) (k : Nat) (hk : k < f.length) : lens f (k + 1) = lens f k + f[k].length := by
 unfold lens
 rw [List.take_succ_eq_append_getElem hk, List.map_append, List.sum_append]
 simp
theorem wrap64_add (a b : Int) : wrap64 (wrap64 a + b) = wrap64 (a + b) := by unfold wrap64; omega
theorem wrap64_add' (a b : Int) : wrap64 (wrap64 a + wrap64 b) = wrap64 (a + b) := by unfold wrap64; omega
theorem wrap64_in {a : Int} (h : -9223372036854775808 ≤ a ∧ a ≤ 9223372036854775807) : wrap64 a = a := by unfold wrap64; omega
set_option maxHeartbeats 4000000 in
theorem large_any (d : DqV) (vu vx vc : Value) (w : World) (hd : RD w vu vx vc d) (ht : d.clauses.length ≤ 60 → sizeD d ≤ 9223372036854775807) :
 Calls Tryz.prog 9 #[.agg #[vu, vx, vc]] w fun e w' => e = .returned (.bool (largeD d)) ∧ Ext w w' := by
 have HT := Lib.hid ht
 have HD := Lib.hid hd
 obtain ⟨⟨UA, uc, hue, hu1, hu2, -⟩, ⟨XA, xc, ons, hxe, hx1, hx2, hx3, hx4⟩, ⟨CA, cc, us, hce, hc1, hc2, hc3, hc4, hc5⟩⟩ := hd
 subst hue hxe hce
 have e1 := Ext.alloc w (.cells #[.slice UA d.univ.length uc, .slice XA d.exist.length xc, .slice CA us.length cc] 27)
 have B1 := Blk.new w 27 [.slice UA d.univ.length uc, .slice XA d.exist.length xc, .slice CA us.length cc]
 have HB := Lib.hid B1
 have HE := Lib.hid e1
 have HC3 := Lib.hid hc3
 have HC4 := Lib.hid hc4
 have HC5 := Lib.hid hc5
 have HX4 := Lib.hid hx4
 have HX3 := Lib.hid hx3
 have h0 : Hid (wrap64 (d.univ.length : Int) = (d.univ.length : Int)) := Lib.hid (wrap64_in (by omega))
 have cb0 := B1.cell 0
 have cb2 := B1.cell 2
 simp only [List.getElem?_cons_zero, List.getElem?_cons_succ] at cb0 cb2
 clear B1 e1 hc3 hc4 hc5 hx4 ht hx3
 generalize hb : w.heap.size = b at HB cb0 cb2
 generalize hW : w.alloc _ = w1 at HB HE cb0 cb2
 obtain ⟨n, hn⟩ : ∃ n, n = us.length := ⟨_, rfl⟩
 have HN := Lib.hid hn
 go_enter Tryz.func9, Tryz.ntmps9
 go_wp2
 clear cb0 cb2
 have HS0 : Hid (Value.int .i64 (d.univ.length : Int) = .int .i64 (wrap64 ((d.univ.length + lens d.clauses 0 : Nat) : Int))) := Lib.hid (by rw [show d.univ.length + lens d.clauses 0 = d.univ.length by simp [lens], h0.out])
 go_loopg [3, 14] n (fun gn s i wr => ∃ k : Nat, k ≤ n ∧ gn + k = n ∧ i = .int .i64 (k : Int) ∧ s = .int .i64 (wrap64 ((d.univ.length + lens d.clauses k : Nat) : Int)) ∧ Hid (Ext w1 wr))
 case atStart => exact ⟨0, Nat.zero_le _, by omega, rfl, HS0.out, Lib.hid (Ext.refl _)⟩
 case round =>
  obtain ⟨k, hk, hgk, rfl, rfl, HE2⟩ := hrel
  obtain ⟨w2, rfl⟩ : ∃ w2 : World, w2 = wr := ⟨_, rfl⟩
  by_cases hlt : k < n
  · have hku : k < us.length := by rw [← HN.out]; exact hlt
    have hkc : k < d.clauses.length := by rw [← HC4.out]; exact hku
    obtain ⟨ad, rfl, hcell⟩ := (HC3.out.ext (HE.out.trans HE2.out)) k hku
    obtain ⟨Ak, ck, hve, hv1, hv2, -⟩ := HC5.out k hku hkc
    have HL := Lib.hid (lens_succ' d.clauses k hkc)
    obtain ⟨L, hL⟩ : ∃ L, L = d.clauses[k].length := ⟨_, rfl⟩
    rw [← hL] at hve hv1 hv2 HL
    rw [hve] at hcell
    obtain ⟨S, hS⟩ : ∃ S : Int, S = wrap64 ((d.univ.length + lens d.clauses k : Nat) : Int) := ⟨_, rfl⟩
    have HSS := Lib.hid hS
    rw [← hS]
    clear hve hS hL
    go_wp2
    go_roundg (n - (k + 1))
    case measure => omega
    case rel => exact ⟨k + 1, by omega, by omega, by go_num, by rw [HSS.out, wrap64_add, HL.out]; congr 2; omega, HE2⟩
  · obtain rfl : k = n := by omega
    have b2 := (HE2.out.chg (fun _ => False)).blk HB.out id
    have cb1 := b2.cell 1
    simp only [List.getElem?_cons_zero, List.getElem?_cons_succ] at cb1
    have HTOT : Hid (lens d.clauses k = total d.clauses) := Lib.hid (by unfold total; rw [HN.out, HC4.out])
    obtain ⟨S, hS⟩ : ∃ S : Int, S = wrap64 ((d.univ.length + lens d.clauses k : Nat) : Int) := ⟨_, rfl⟩
    have HS1 : Hid (Value.int .i64 S = .int .i64 (wrap64 ((d.univ.length + total d.clauses + sumX d.exist 0 : Nat) : Int))) := Lib.hid (by rw [hS, HTOT.out]; simp [sumX])
    rw [← hS]
    clear b2 hS
    go_wp2
    clear cb1
    go_loopg [3, 26] d.exist.length (fun gn s i wr => ∃ k : Nat, k ≤ d.exist.length ∧ gn + k = d.exist.length ∧ i = .int .i64 (k : Int) ∧ s = .int .i64 (wrap64 ((d.univ.length + total d.clauses + sumX d.exist k : Nat) : Int)) ∧ Hid (Ext w1 wr))
    case atStart => exact ⟨0, Nat.zero_le _, by omega, rfl, HS1.out, HE2⟩
    case round =>
     obtain ⟨k, hk, hgk, rfl, rfl, HE3⟩ := hrel
     obtain ⟨w3, rfl⟩ : ∃ w3 : World, w3 = wr := ⟨_, rfl⟩
     by_cases hlt : k < d.exist.length
     · obtain ⟨ad, rfl, c1, c2, hr⟩ := HX4.out k hlt (by rw [HX3.out]; exact hlt)
       have c1' := (HE.out.trans HE3.out).cell c1
       have c2' := (HE.out.trans HE3.out).cell c2
       have HL := Lib.hid (sumX_succ d.exist k hlt)
       obtain ⟨V, hV⟩ : ∃ V, V = ons[k]'(by rw [HX3.out]; exact hlt) := ⟨_, rfl⟩
       obtain ⟨x, hx⟩ : ∃ x, x = d.exist[k] := ⟨_, rfl⟩
       rw [← hx] at c1' hr HL
       rw [← hV] at hr c2'
       clear c1 c2 hx hV
       obtain ⟨OA, oc, rfl, o1, o2, -⟩ := hr
       obtain ⟨y, ys⟩ := x
       dsimp only at c1' c2' o1 o2 HL
       obtain ⟨S, hS⟩ : ∃ S : Int, S = wrap64 ((d.univ.length + total d.clauses + sumX d.exist k : Nat) : Int) := ⟨_, rfl⟩
       have HSS := Lib.hid hS
       rw [← hS]
       clear hS
       go_wp2
       go_roundg (d.exist.length - (k + 1))
       case measure => omega
       case rel => exact ⟨k + 1, by omega, by omega, by go_num, (by rw [HSS.out, HL.out]; (first | rw [wrap64_add'] | rw [wrap64_add]); congr 2; omega), Lib.hid (HE3.out.trans (Ext.alloc _ _))⟩
     · obtain rfl : k = d.exist.length := by omega
       have b3 := (HE3.out.chg (fun _ => False)).blk HB.out id
       have cb2 := b3.cell 2
       simp only [List.getElem?_cons_zero, List.getElem?_cons_succ] at cb2
       clear b3
       have HW : Hid (Ext w w3) := Lib.hid (HE.out.trans HE3.out)
       obtain ⟨S, hS⟩ : ∃ S : Int, S = wrap64 ((d.univ.length + total d.clauses + sumX d.exist d.exist.length : Nat) : Int) := ⟨_, rfl⟩
       have HSS := Lib.hid hS
       rw [← hS]
       clear hS
       by_cases h60 : (60 : Int) < (us.length : Int)
       · have HR : Hid (largeD d = true) := Lib.hid (by unfold largeD; rw [decide_eq_true (by rw [← HC4.out]; omega)]; rfl)
         go_wp2
         go_ret
         exact ⟨(congrArg (fun b : Bool => Ending.returned (Value.bool b)) HR.out).symm, HW.out⟩
       · have hsz := HT.out (by rw [← HC4.out]; omega)
         have HSE : Hid (S = (sizeD d : Int)) := Lib.hid (by rw [HSS.out]; exact wrap64_in (by unfold sizeD at hsz; omega))
         have HR : Hid (largeD d = decide ((300 : Int) < S)) := Lib.hid (by
          unfold largeD
          rw [decide_eq_false (by rw [← HC4.out]; omega), Bool.false_or, HSE.out, decide_eq_decide]
          omega)
         have h60b : decide ((60 : Int) < (us.length : Int)) = false := decide_eq_false h60
         clear hsz
         go_wp2
         go_ret
         exact ⟨(congrArg (fun b : Bool => Ending.returned (Value.bool b)) HR.out).symm, HW.out⟩
theorem sumX_get {X : List (Int × List Int)} {x : Int × List Int} (h : x ∈ X) : 1 + x.2.length ≤ sumX X X.length := by
 unfold sumX
 rw [List.take_length]
 induction X with
 | nil => cases h
 | cons c f ih =>
   rw [List.map_cons, List.sum_cons]
   rcases List.mem_cons.1 h with rfl | h
   · omega
   · have := ih h; omega
theorem sumX_len (X : List (Int × List Int)) : X.length ≤ sumX X X.length := by
 unfold sumX
 rw [List.take_length]
 induction X with
 | nil => simp
 | cons c f ih => rw [List.map_cons, List.sum_cons, List.length_cons]; omega
structure D64 (d : DqV) : Prop where
 u64 : All64 d.univ
 x64 : ∀ x ∈ d.exist, I64 x.1 ∧ All64 x.2
 c64 : All64L d.clauses
theorem D64.ok {d : DqV} (h : D64 d) (hl : largeD d = false) : DOk d := by
 unfold largeD at hl
 rw [Bool.or_eq_false_iff, decide_eq_false_iff_not, decide_eq_false_iff_not] at hl
 have h1 := hl.1
 have h2 := hl.2
 unfold sizeD at h2
 have h3 := sumX_len d.exist
 exact ⟨h.u64, h.x64, h.c64, by omega, by omega, fun x hx => by have := sumX_get hx; omega, by omega, by omega⟩
end Go.Proofs.YtjecjaihficcdaaGreat
namespace Go.Proofs.YtjecjaihficcdaaGreat
open Go.RowKit
theorem st_atc {P : Program} {ops : Array Oper} {a : Act} {w : World} {o : Oper} {R : World → Value → Prop} {ty e : TypeId} {s : Tmp} {ad : Addr} {n c : Nat} (hg : Region.wanted o (yielded ops a.tmps) = true) (ho : o.op = .indexAddr ty (.tmp s) (.const (.int .i64 0))) (hu : P.underlying ty = some (.slice e)) (hz : (P.info? e).map (·.size) = some 1) (hs : a.tmps[s]? = some (.slice (some ad) n c)) (hk : 0 < n) (hR : R w (.pointer (some (ad.add 0)))) : OpOk P ops a o w R := by
 refine ok_val hg (.pointer (some (ad.add 0))) w ?_ (Ext.refl w) hR
 obtain ⟨i0, hi0, hz0⟩ : ∃ i0, P.info? e = some i0 ∧ i0.size = 1 := by
  cases hx : P.info? e with
  | none => rw [hx] at hz; cases hz
  | some i0 => rw [hx] at hz; exact ⟨i0, rfl, by simpa using hz⟩
 have he : a.eval (.const (.int .i64 0)) = .int .i64 0 := rfl
 unfold execOp
 simp [ho, eval_of hs, he, Instr.indexAt, run_underlying hu, asIntOf, sizeOf, typeInfo, hi0, hz0, hk]
theorem wrapU (n : Int) (h0 : 0 ≤ n) (h1 : n < 18446744073709551616) : IntKind.u64.wrap n = n := IntWalk.u64_in n ⟨by omega, by omega⟩
theorem fv_value : Fv Tryz.prog 31 := ⟨_, Tryz.func31, by kernel_rfl, by kernel_rfl⟩
theorem fv_cube : Fv Tryz.prog 32 := ⟨_, Tryz.func32, by kernel_rfl, by kernel_rfl⟩
theorem fv_within : Fv Tryz.prog 33 := ⟨_, Tryz.func33, by kernel_rfl, by kernel_rfl⟩
theorem fv_reachesF : Fv Tryz.prog 12 := ⟨_, Tryz.func12, by kernel_rfl, by kernel_rfl⟩
theorem fv_contI : Fv Tryz.prog 34 := ⟨_, Tryz.func34, by kernel_rfl, by kernel_rfl⟩
theorem fv_hold1 : Fv Tryz.prog 35 := ⟨_, Tryz.func35, by kernel_rfl, by kernel_rfl⟩
set_option maxHeartbeats 400000 in
theorem hold1_fn (xs : List Int) (lit : Int) (pa : Nat) (v : Value) (w : World) (h64 : All64 xs) (hl : I64 lit) (hr : RI w v xs) (hv : ValueV xs lit = 1) (ha : w.cell? ⟨pa, 0, none⟩ = some v) :
 Calls Tryz.prog 35 #[.int .i64 lit, .pointer (some ⟨pa, 0, none⟩)] w fun e w' => e = .returned (.bool false) ∧ Ext w w' := by
 have HV := Lib.hid (Value_any xs lit v w h64 hl hr)
 rw [hv] at HV
 obtain ⟨A, c, rfl, -⟩ := hr
 clear hv
 go_enter Tryz.func35, Tryz.ntmps35
 go_wp2_with (go_at_call 31; refine HV.out.mono ?_; rintro e w' ⟨rfl, hE⟩)
 go_ret
 exact ⟨rfl, hE⟩
theorem cont_none (xs ys : List Int) (pa : Nat) (v u : Value) (w : World) (h64 : All64 xs) (k64 : All64 ys) (hr : RI w v xs) (kr : RI w u ys) (hv : ∀ y ∈ ys, ValueV xs y = 1) (ha : w.cell? ⟨pa, 0, none⟩ = some v) :
 Calls Tryz.prog 34 #[u, .func (.func 35) #[] #[.pointer (some ⟨pa, 0, none⟩)]] w fun e w' => ∃ b, e = .returned b ∧ Ext w w' ∧ b = .bool false := by
 obtain ⟨A, c, rfl, h1, h2, h3⟩ := kr
 have hix := containsFuncI 35 #[.pointer (some ⟨pa, 0, none⟩)] fv_hold1 A c (ys.map (Value.int .i64)) (by rw [List.length_map]; exact h2) (fun _ => false) (fun _ w' => Ext w w') w
  (fun _ w' hw => h3.ext hw)
  (fun j hj w' hw => by
   have hj' : j < ys.length := by simpa using hj
   rw [List.getElem_map]
   exact (hold1_fn xs ys[j] pa v w' h64 (k64 _ (List.getElem_mem hj')) (hr.ext hw) (hv _ (List.getElem_mem hj')) (hw.cell ha)).mono fun e w'' ⟨q1, q2⟩ => ⟨q1, hw.trans q2⟩)
  (Ext.refl _)
 rw [List.length_map] at hix
 refine hix.mono fun e w' hq => ?_
 obtain ⟨r, rfl, hq⟩ := hq
 rcases hq with ⟨k, -, hp, -⟩ | ⟨-, rfl, hE⟩
 · cases hp
 · exact ⟨_, rfl, hE, rfl⟩
theorem asc_I64 {xs : List Int} (h : Asc xs) : All64 xs := fun x hx => by
 have h1 := h.2 x hx
 have h2 := varOf_range x
 have h3 := varOf_eq (n := x) (by omega)
 unfold I64
 omega
set_option maxRecDepth 100000 in
set_option maxHeartbeats 8000000 in
theorem hold_law (f : List (List Int)) (u : Value) (w : World) (kr : RLL w u f) (h64 : All64L f) (ht : f.length ≤ 60 → total f ≤ 9223372036854775807) :
 Calls Tryz.prog 8 #[u] w fun e w' => e = .returned (.bool true) ∧ Ext w w' := by
 have hsz : sizeD ⟨[], [], f⟩ = total f := by simp [sizeD, sumX]
 have HLG := Lib.hid (large_any ⟨[], [], f⟩ (.slice none 0 0) (.slice none 0 0) u w ⟨RI.none _, ⟨none, 0, [], rfl, Nat.le_refl _, by simp, rfl, fun j h => absurd h (Nat.not_lt_zero j)⟩, kr⟩ (fun h => by rw [hsz]; exact ht h))
 have hlg : largeD ⟨[], [], f⟩ = (decide (60 < f.length) || decide (300 < total f)) := by unfold largeD; rw [hsz]
 rw [hlg] at HLG
 have KR := Lib.hid kr
 have H64 := Lib.hid h64
 obtain ⟨A, c, us, hue, -⟩ := kr
 obtain ⟨n, hn⟩ : ∃ n, n = us.length := ⟨_, rfl⟩
 rw [← hn] at hue
 subst hue
 clear hn hsz hlg ht
 cases hl : (decide (60 < f.length) || decide (300 < total f)) with
 | true =>
   rw [hl] at HLG
   clear hl
   go_enter Tryz.func8, Tryz.ntmps8
   go_wp2_with (first
    | (go_at_call 9; refine HLG.out.mono ?_; rintro e w2 ⟨rfl, hE⟩; have HE2 := Lib.hid hE; clear hE)
    | (go_at_call 10; refine (awake_any _).mono ?_; rintro e w3 ⟨rfl, hE⟩; have HE3 := Lib.hid (HE2.out.trans hE); clear hE))
   go_ret
   exact ⟨rfl, HE3.out⟩
 | false =>
   rw [hl] at HLG
   rw [Bool.or_eq_false_iff, decide_eq_false_iff_not, decide_eq_false_iff_not] at hl
   have htt : total f ≤ 300 := by omega
   have HMC := Lib.hid (fun w' (h : Ext w w') => refMayCnf_any f _ w' h64 (RLL.ext' KR.out h) (by omega))
   cases hm : mayCnfB f with
   | false =>
     rw [hm] at HMC
     clear hl hm
     go_enter Tryz.func8, Tryz.ntmps8
     go_wp2_with (first
      | (go_at_call 9; refine HLG.out.mono ?_; rintro e w2 ⟨rfl, hE⟩; have HE2 := Lib.hid hE; clear hE)
      | (go_at_call 27; refine (HMC.out _ HE2.out).mono ?_; rintro e w3 ⟨rfl, hE⟩; have HE3 := Lib.hid (HE2.out.trans hE); clear hE)
      | (go_at_call 10; refine (awake_any _).mono ?_; rintro e w4 ⟨rfl, hE⟩; have HE4 := Lib.hid (HE3.out.trans hE); clear hE))
     go_ret
     exact ⟨rfl, HE4.out⟩
   | true =>
     rw [hm] at HMC
     have HVS := Lib.hid (fun w' (h : Ext w w') => Vars_any f _ w' h64 (RLL.ext' KR.out h) (by omega))
     have HCL := Lib.hid (fun w' (h : Ext w w') => progClasses_any f _ w' h64 (RLL.ext' KR.out h) (fun _ => by omega))
     have HFA := Lib.hid (fun w' (h : Ext w w') => Failed_any f _ w' h64 (RLL.ext' KR.out h) (fun _ => by omega))
     rw [if_pos hm] at HCL
     have HTT := Lib.hid htt
     have HM := Lib.hid hm
     clear hl htt hm
     by_cases hv8 : (VarsV f).length ≤ 8
     · have HHO := Lib.hid (fun k (h : CnfV (pointL k (VarsV f)) f = 1) => holds_of (n := k) rfl (by omega) h)
       have HPA := Lib.hid (fun k => point_asc (f := f) (n := k) (by omega))
       have hMV := many_vars (f := f) (by omega)
       obtain ⟨V, hV⟩ : ∃ V, V = VarsV f := ⟨_, rfl⟩
       have HV64 : Hid (All64 V) := Lib.hid (fun x hx => by
        rw [hV] at hx
        obtain ⟨h0, c, -, y, -, he⟩ := (mem_VarsV f x).1 hx
        have hr := varOf_range y
        unfold I64
        omega)
       have HVV := Lib.hid hV
       rw [← hV] at HHO HPA HVS hv8 hMV
       clear hV
       have HMV := Lib.hid hMV
       clear hMV
       obtain ⟨nv, hnv⟩ : ∃ nv, nv = V.length := ⟨_, rfl⟩
       have hv9 : nv ≤ 8 := by omega
       have b8 : decide ((8 : Int) < nv) = false := by rw [decide_eq_false_iff_not]; omega
       have hv8' : ¬ (8 : Int) < nv := by omega
       obtain ⟨N, hN⟩ : ∃ N : Nat, N = 2 ^ nv := ⟨_, rfl⟩
       have hN2 : N ≤ 256 := by
        rw [hN]
        exact Nat.pow_le_pow_right (n := 2) (by omega) hv9
       have hsh : IntKind.u64.wrap (2 ^ nv) = (N : Int) := by
        rw [show ((2 : Int) ^ nv) = ((2 ^ nv : Nat) : Int) by simp, ← hN]
        exact wrapU _ (by omega) (by omega)
       have HNN : Hid (N = 2 ^ V.length) := Lib.hid (by rw [hN, hnv])
       have HNV := Lib.hid hnv
       clear hN hv8 hnv
       go_enter Tryz.func8, Tryz.ntmps8
       go_wp2_with (first
        | (go_at_call 9; refine HLG.out.mono ?_; rintro e w2 ⟨rfl, hE⟩; have HE2 := Lib.hid hE; clear hE)
        | (go_at_call 27; refine (HMC.out _ HE2.out).mono ?_; rintro e w3 ⟨rfl, hE⟩; have HE3 := Lib.hid (HE2.out.trans hE); clear hE)
        | (go_at_call 28; refine (HVS.out _ HE3.out).mono ?_; rintro e w4 ⟨v4, rfl, ho, hE⟩; have HV4 := Lib.hid (OwnI.reads ho); obtain ⟨A4, c4, hv4, -⟩ := OwnI.reads ho; rw [← HNV.out] at hv4; subst hv4; have HE4 := Lib.hid (HE3.out.trans hE); clear ho hE)
        | (go_at_call 17; refine (HCL.out _ HE4.out).mono ?_; rintro e w5 ⟨v5, rfl, ho, hE⟩; have HC5 := Lib.hid ho; obtain ⟨A5, c5, us5, hv5, -⟩ := ho; obtain ⟨n5, hn5⟩ : ∃ n, n = us5.length := ⟨_, rfl⟩; rw [← hn5] at hv5; subst hv5; have HN5 := Lib.hid hn5; have HE5 := Lib.hid (HE4.out.trans hE); have HV5 := Lib.hid (HV4.out.ext hE); clear hE hn5)
        | (go_at_call 14; refine (HFA.out _ HE5.out).mono ?_; rintro e w6 ⟨v6, rfl, ho, hE⟩; have HF6 := Lib.hid (OwnI.reads ho); obtain ⟨A6, c6, hv6, -⟩ := OwnI.reads ho; obtain ⟨n6, hn6⟩ : ∃ n, n = (FailV f).length := ⟨_, rfl⟩; rw [← hn6] at hv6; subst hv6; have HN6 := Lib.hid hn6; have HE6 := Lib.hid (HE5.out.trans hE); have HV6 := Lib.hid (HV5.out.ext hE); have HC6 := Lib.hid (RLL.ext' HC5.out hE); clear ho hE hn6))
       go_loopg [39] N (fun gn i wr => ∃ k : Nat, k ≤ N ∧ gn + k = N ∧ i = .int .u64 (k : Int) ∧ Hid (Ext w6 wr))
       case atStart => exact ⟨0, Nat.zero_le _, by omega, rfl, Lib.hid (Ext.refl _)⟩
       case round =>
        clear hsh
        obtain ⟨k, hk, hgk, rfl, HK⟩ := hrel
        obtain ⟨wn, rfl⟩ : ∃ wn : World, wn = wr := ⟨_, rfl⟩
        by_cases hlt : k < N
        · have hPV : PointV (k : Int) V = (pointL (k : Int) V, 0) := by
           unfold PointV
           rw [if_pos HMV.out, if_pos]
           have : ((k : Int)) < 2 ^ V.length := by
            have h1 := HNN.out
            have h2 : ((2 : Int) ^ V.length) = ((2 ^ V.length : Nat) : Int) := by simp
            omega
           exact Int.ediv_eq_zero_of_lt (by omega) this
          have HPT := Lib.hid (Point_any V k (by omega) (by omega) (.slice A4 nv c4) wn HV64.out (HV6.out.ext HK.out))
          rw [hPV] at HPT
          have HPA2 := Lib.hid (HPA.out (k : Int))
          have HHO2 := Lib.hid (HHO.out (k : Int))
          clear hPV
          generalize pointL (k : Int) V = P at HPT HPA2 HHO2
          have HP64 := Lib.hid (asc_I64 HPA2.out)
          have HCN := Lib.hid (fun (w' : World) (v : Value) (he : Ext w w') (hu : RI w' v P) => Cnf_any P f v _ w' HP64.out H64.out hu (RLL.ext' KR.out he) (fun _ => by have := HTT.out; omega))
          have hwrk : IntKind.u64.wrap ((k : Int) + 1) = (k : Int) + 1 := wrapU _ (by omega) (by omega)
          obtain ⟨np, hnp⟩ : ∃ np, np = P.length := ⟨_, rfl⟩
          have HNP := Lib.hid hnp
          clear hnp
          by_cases hc1 : CnfV P f = 1
          · have HH := Lib.hid (HHO2.out hc1)
            rw [hc1] at HCN
            clear hc1 HHO2
            go_wp2_with (first
             | (go_at_call 29; refine HPT.out.mono ?_; rintro e w12 ⟨v12, rfl, ho, hE⟩; have HO12 := Lib.hid ho.reads; obtain ⟨PA, pc, hvp, -⟩ := ho.reads; rw [← HNP.out] at hvp; subst hvp; have e13 := Ext.alloc w12 (.cells #[.slice PA np pc] 24); have HB13 := Lib.hid (Var1.new w12 24 (.slice PA np pc)).cell; have HO13 := Lib.hid (HO12.out.ext e13); have HE13 := Lib.hid ((HK.out.trans hE).trans e13); have cb := HB13.out; clear ho hE e13)
             | (go_at_call 30; refine (HCN.out _ _ (HE6.out.trans HE13.out) HO13.out).mono ?_; rintro e w14 ⟨rfl, hE⟩; have HE14 := Lib.hid (HE13.out.trans hE); have HO14 := Lib.hid (HO13.out.ext hE); have HB14 := Lib.hid (hE.cell HB13.out); clear hE))
            clear cb
            obtain ⟨b7, hb7⟩ : ∃ b7, b7 = w12.heap.size := ⟨_, rfl⟩
            rw [← hb7] at HB14 ⊢
            clear hb7 HB13 HO13 HE13 HO12
            have HBX : Hid (∀ wr, Ext w14 wr → wr.cell? ⟨b7, 0, none⟩ = some (.slice PA np pc)) := Lib.hid (fun wr h => h.cell HB14.out)
            have HVAL := Lib.hid (fun (y : Int) (hy : I64 y) w' (h : Ext w14 w') => Value_any P y (.slice PA np pc) w' HP64.out hy (HO14.out.ext h))
            go_loopg [54] n5 (fun gn i wr => ∃ k2 : Nat, k2 ≤ n5 ∧ gn + k2 = n5 ∧ i = .int .i64 (k2 : Int) ∧ Hid (Ext w14 wr))
            case atStart => exact ⟨0, Nat.zero_le _, by omega, rfl, Lib.hid (Ext.refl _)⟩
            case round =>
             obtain ⟨k2, hk2, hgk2, rfl, HK2⟩ := hrel
             obtain ⟨wm, rfl⟩ : ∃ wm : World, wm = wr := ⟨_, rfl⟩
             by_cases hlt2 : k2 < n5
             · obtain ⟨A', c', us', e1, -, -, e4, e5, e6⟩ := RLL.ext' HC6.out (HE14.out.trans HK2.out)
               injection e1 with a1 a2 a3
               subst a1
               have hku : k2 < us'.length := by rw [← a2]; exact hlt2
               have hkc : k2 < (RefClasses f).length := by rw [← e5]; exact hku
               obtain ⟨ad, had, hcell⟩ := e4 k2 hku
               subst had
               have hri := e6 k2 hku hkc
               have HCC := Lib.hid (HH.out.cls _ (List.getElem_mem hkc))
               have HC64 : Hid (∀ y ∈ (RefClasses f)[k2], I64 y) := Lib.hid (cls_I64 HM.out (List.getElem_mem hkc))
               generalize (RefClasses f)[k2] = cl at hri HCC HC64
               generalize us'[k2] = uk at hcell hri
               have hri2 := hri
               obtain ⟨KA, kc, huk, hkk, -⟩ := hri
               obtain ⟨nl, hnl⟩ : ∃ nl, nl = cl.length := ⟨_, rfl⟩
               rw [← hnl] at huk
               subst huk
               have HRI := Lib.hid hri2
               have HNL := Lib.hid hnl
               have hnl1 : nl ≤ 9223372036854775807 := by
                obtain ⟨-, -, -, -, h9, -⟩ := hri2
                omega
               have hwr2 : IntKind.i64.wrap ((k2 : Int) + 1) = (k2 : Int) + 1 := IntWalk.i64_in _ (by have := HC6.out.max.1; omega)
               clear e4 e5 e6 a2 a3 hku hkc hri2 hnl hkk
               go_wp2
               go_loopg [60] nl (fun gn i wr => ∃ k3 : Nat, k3 ≤ nl ∧ gn + k3 = nl ∧ i = .int .i64 (k3 : Int) ∧ Hid (Ext w14 wr) ∧ Hid (Ext wm wr))
               case atStart => exact ⟨0, Nat.zero_le _, by omega, rfl, HK2, Lib.hid (Ext.refl _)⟩
               case round =>
                obtain ⟨k3, hk3, hgk3, rfl, HK3, HK4⟩ := hrel
                obtain ⟨wx, rfl⟩ : ∃ wx : World, wx = wr := ⟨_, rfl⟩
                by_cases hlt3 : k3 < nl
                · have hk3c : k3 < cl.length := by rw [← HNL.out]; exact hlt3
                  have hr3 := (HRI.out.ext HK4.out).row.2.2.2
                  obtain ⟨ad3, had3, hc3⟩ := hr3.int k3 hk3c
                  obtain ⟨ad4, had4, hc4⟩ := hr3.int 0 (by omega)
                  subst had3
                  injection had4 with had4
                  subst had4
                  have HY64 := Lib.hid (HC64.out _ (List.getElem_mem hk3c))
                  have HZ64 := Lib.hid (HC64.out _ (List.getElem_mem (show 0 < cl.length by omega)))
                  have hva := HCC.out _ (List.getElem_mem hk3c)
                  have hz0 : cl.getD 0 0 = cl[0]'(by omega) := by simp [show 0 < cl.length by omega]
                  rw [hz0] at hva
                  have HVA := Lib.hid (HVAL.out cl[k3] HY64.out)
                  have HVZ := Lib.hid (HVAL.out (cl[0]'(by omega)) HZ64.out)
                  rw [hva] at HVA
                  generalize ValueV P (cl[0]'(by omega)) = VV at HVA HVZ
                  generalize cl[k3] = y at hc3 HVA HY64
                  generalize cl[0]'(by omega) = z at hc4 HVZ HZ64
                  have hwr3 : IntKind.i64.wrap ((k3 : Int) + 1) = (k3 : Int) + 1 := IntWalk.i64_in _ (by omega)
                  clear hva hz0 hk3c hr3
                  have h0n : 0 < nl := by omega
                  have HC4 : Hid (∀ wr, Ext wx wr → wr.cell? (ad3.add 0) = some (.int .i64 z)) := Lib.hid (fun wr h => h.cell hc4)
                  go_wp2
                  go_cut [72] from 64 to 72 (fun s wy => s = .bool false ∧ Hid (Ext wx wy))
                  case first =>
                   rename_i J K1 hRJ hMK
                   refine wp_region_mono (W := wx) rfl (Kd.at [.val (.slice PA np pc), .val (.int .i64 y), .val (.int .u8 VV), .val (.slice PA np pc), .val (.slice (some ad3) nl kc), .val (.pointer (some (ad3.add 0))), .val (.int .i64 z), .val (.int .u8 VV), .val (.bool false)]) (Kd.at_mono _) 108 rfl (by decide) (by decide) (by decide) ?_ ?_
                   · refine ⟨?_, ?_, ?_, ?_, ?_, ?_, ?_, ?_, ?_, trivial⟩
                     · intro a' w' hE hK hd
                       have hi7 : a'.tmps[7]? = some (.pointer (some ⟨b7, 0, none⟩)) := hK.get 7 (by decide)
                       exact st_load (wanted_none rfl) rfl Tryz.underlying24 hi7 (HBX.out w' (HK3.out.trans hE)) rfl
                     · intro a' w' hE hK hd
                       have hi12 : a'.tmps[12]? = some (.int .i64 y) := hK.get 12 (by decide)
                       exact st_move (wanted_none rfl) rfl hi12 rfl
                     · intro a' w' hE hK hd
                       obtain ⟨u0, h0, p0⟩ := got (hd ⟨0, .data⟩ (by simp) rfl) rfl rfl
                       obtain rfl : u0 = .slice PA np pc := p0
                       obtain ⟨u1, h1, p1⟩ := got (hd ⟨1, .data⟩ (by simp) rfl) rfl rfl
                       obtain rfl : u1 = .int .i64 y := p1
                       exact st_call _ _ _ rfl (wanted_none rfl) rfl fv_value _ (by simp only [List.map_toArray, List.map_cons, List.map_nil, eval_of h0, eval_of h1]) ((HVA.out w' (HK3.out.trans hE)).mono fun e w'' ⟨H1, H2⟩ => ⟨_, H1, H2, rfl⟩)
                     · intro a' w' hE hK hd
                       have hi7 : a'.tmps[7]? = some (.pointer (some ⟨b7, 0, none⟩)) := hK.get 7 (by decide)
                       exact st_load (wanted_none rfl) rfl Tryz.underlying24 hi7 (HBX.out w' (HK3.out.trans hE)) rfl
                     · intro a' w' hE hK hd
                       have hi10 : a'.tmps[10]? = some (.slice (some ad3) nl kc) := hK.get 10 (by decide)
                       exact st_move (wanted_none rfl) rfl hi10 rfl
                     · intro a' w' hE hK hd
                       obtain ⟨u4, h4, p4⟩ := got (hd ⟨4, .data⟩ (by simp) rfl) rfl rfl
                       obtain rfl : u4 = .slice (some ad3) nl kc := p4
                       exact st_atc (wanted_none rfl) rfl Tryz.underlying24 (by kernel_rfl) h4 h0n rfl
                     · intro a' w' hE hK hd
                       obtain ⟨u5, h5, p5⟩ := got (hd ⟨5, .data⟩ (by simp) rfl) rfl rfl
                       obtain rfl : u5 = .pointer (some (ad3.add 0)) := p5
                       exact st_loadI (wanted_none rfl) rfl Tryz.underlying3 h5 (HC4.out w' hE) rfl
                     · intro a' w' hE hK hd
                       obtain ⟨u3, h3, p3⟩ := got (hd ⟨3, .data⟩ (by simp) rfl) rfl rfl
                       obtain rfl : u3 = .slice PA np pc := p3
                       obtain ⟨u6, h6, p6⟩ := got (hd ⟨6, .data⟩ (by simp) rfl) rfl rfl
                       obtain rfl : u6 = .int .i64 z := p6
                       exact st_call _ _ _ rfl (wanted_none rfl) rfl fv_value _ (by simp only [List.map_toArray, List.map_cons, List.map_nil, eval_of h3, eval_of h6]) ((HVZ.out w' (HK3.out.trans hE)).mono fun e w'' ⟨H1, H2⟩ => ⟨_, H1, H2, rfl⟩)
                     · intro a' w' hE hK hd
                       obtain ⟨u2, h2, p2⟩ := got (hd ⟨2, .data⟩ (by simp) rfl) rfl rfl
                       obtain rfl : u2 = .int .u8 VV := p2
                       obtain ⟨u7, h7, p7⟩ := got (hd ⟨7, .data⟩ (by simp) rfl) rfl rfl
                       obtain rfl : u7 = .int .u8 VV := p7
                       exact st_run (wanted_none rfl) (v := .bool false) (by unfold execOp; simp [h2, h7, go_sem]) rfl
                   · intro a' w' hE hK hG
                     obtain ⟨u, hl9, pl9⟩ := got (hG 8 (by decide)) rfl rfl
                     obtain rfl : u = .bool false := pl9
                     refine hMK a' w' (Met.intro (hRJ a' w' ?_))
                     refine ⟨_, _, _, _, _, _, _, _, _, ?_, Kep.re hK rfl 64 72 (by decide)⟩
                     refine ⟨?_, Lib.hid hE⟩
                     show (a'.tmps[72]?).getD undef = _
                     rw [hl9]; rfl
                  case rest =>
                   obtain ⟨rfl, HCT⟩ := hcut
                   go_wp2
                   go_roundg (nl - (k3 + 1))
                   case measure => omega
                   case rel => exact ⟨k3 + 1, by omega, by omega, by go_num, Lib.hid (HK3.out.trans HCT.out), Lib.hid (HK4.out.trans HCT.out)⟩
                · obtain rfl : k3 = nl := by omega
                  go_wp2
                  go_roundg (n5 - (k2 + 1))
                  case measure => omega
                  case rel => exact ⟨k2 + 1, by omega, by omega, by go_num, HK3⟩
             · obtain rfl : k2 = n5 := by omega
               go_wp2
               go_loopg [77] n6 (fun gn i wr => ∃ k4 : Nat, k4 ≤ n6 ∧ gn + k4 = n6 ∧ i = .int .i64 (k4 : Int) ∧ Hid (Ext w14 wr))
               case atStart => exact ⟨0, Nat.zero_le _, by omega, rfl, HK2⟩
               case round =>
                obtain ⟨k4, hk4, hgk4, rfl, HK4⟩ := hrel
                obtain ⟨wx, rfl⟩ : ∃ wx : World, wx = wr := ⟨_, rfl⟩
                have HF := Lib.hid (HF6.out.ext (HE14.out.trans HK4.out))
                have hf6 : n6 ≤ 9223372036854775807 := by rw [HN6.out]; exact HF6.out.max
                by_cases hlt4 : k4 < n6
                · have hkf : k4 < (FailV f).length := by rw [← HN6.out]; exact hlt4
                  obtain ⟨ad3, had3, hc3⟩ := HF.out.row.2.2.2.int k4 hkf
                  subst had3
                  have hx2 := HH.out.fail _ (List.getElem_mem hkf)
                  have HX64 := Lib.hid (fail_I64 HM.out (List.getElem_mem hkf))
                  have HVA := Lib.hid (HVAL.out (FailV f)[k4] HX64.out wx HK4.out)
                  rw [hx2] at HVA
                  generalize (FailV f)[k4] = y at hc3 HVA HX64
                  have cb := HBX.out wx HK4.out
                  have hwr4 : IntKind.i64.wrap ((k4 : Int) + 1) = (k4 : Int) + 1 := IntWalk.i64_in _ (by omega)
                  clear hx2 hkf
                  go_wp2_with (go_at_call 31; refine HVA.out.mono ?_; rintro e wz ⟨rfl, hE⟩; have HEZ := Lib.hid hE; clear hE)
                  go_roundg (n6 - (k4 + 1))
                  case measure => omega
                  case rel => exact ⟨k4 + 1, by omega, by omega, by go_num, Lib.hid (HK4.out.trans HEZ.out)⟩
                · obtain rfl : k4 = n6 := by omega
                  have cb := HBX.out wx HK4.out
                  go_wp2
                  go_loopg [88] np (fun gn i wr => ∃ k5 : Nat, k5 ≤ np ∧ gn + k5 = np ∧ i = .int .i64 (k5 : Int) ∧ Hid (Ext w14 wr))
                  case atStart => exact ⟨0, Nat.zero_le _, by omega, rfl, HK4⟩
                  case round =>
                   clear cb
                   obtain ⟨k5, hk5, hgk5, rfl, HK5⟩ := hrel
                   obtain ⟨wx, rfl⟩ : ∃ wx : World, wx = wr := ⟨_, rfl⟩
                   have hp6 : np ≤ 9223372036854775807 := by rw [HNP.out]; exact HO14.out.max
                   by_cases hlt5 : k5 < np
                   · have hkp : k5 < P.length := by rw [← HNP.out]; exact hlt5
                     obtain ⟨ad3, had3, hc3⟩ := (HO14.out.ext HK5.out).row.2.2.2.int k5 hkp
                     subst had3
                     have HX64 := Lib.hid (HP64.out _ (List.getElem_mem hkp))
                     have HXR := Lib.hid (HH.out.reach _ (List.getElem_mem hkp))
                     have hcu := HH.out.cube
                     rw [← HVV.out] at hcu
                     have hW64 : All64 (WithinV P V) := fun x hx => by
                      unfold WithinV at hx
                      split at hx
                      · exact HP64.out x (List.mem_filter.1 hx).1
                      · cases hx
                     have HCB := Lib.hid (fun w' u (he : Ext wx w') (hu : RI w' u (WithinV P V)) => Cube_any P (WithinV P V) _ u w' HP64.out hW64 (HO14.out.ext (HK5.out.trans he)) hu)
                     rw [hcu] at HCB
                     clear hcu
                     have HRA := Lib.hid (fun (w' : World) (u : Value) (r : RLL w' u f) => Reaches_any f P[k5] u w' HX64.out H64.out r (fun _ => by have := HTT.out; omega))
                     have HR64 : Hid (All64 (ReachV f P[k5])) := Lib.hid (reach_I64 HM.out P[k5])
                     generalize P[k5] = y at hc3 HX64 HXR HRA HR64
                     have hwr5 : IntKind.i64.wrap ((k5 : Int) + 1) = (k5 : Int) + 1 := IntWalk.i64_in _ (by omega)
                     clear hkp
                     go_wp2
                     go_cut [104] from 92 to 104 (fun s wy => s = .bool false ∧ Hid (Ext wx wy))
                     case first =>
                      rename_i J K1 hRJ hMK
                      refine wp_region_mono (W := wx) rfl (Kd.at [.val (.slice (some ad3) np pc), .val (.slice (some ad3) np pc), .row V, .row (WithinV P V), .val (.int .u8 1), .val (.bool false), .val (.bool false), .rows f, .val (.int .i64 y), .row (ReachV f y), .val (.func (.func 35) #[] #[.pointer (some ⟨b7, 0, none⟩)]), .val (.bool false), .val (.bool false)]) (Kd.at_mono _) 108 rfl (by decide) (by decide) (by decide) ?_ ?_
                      · refine ⟨?_, ?_, ?_, ?_, ?_, ?_, ?_, ?_, ?_, ?_, ?_, ?_, ?_, trivial⟩
                        · intro a' w' hE hK hd
                          have hi7 : a'.tmps[7]? = some (.pointer (some ⟨b7, 0, none⟩)) := hK.get 7 (by decide)
                          exact st_load (wanted_none rfl) rfl Tryz.underlying24 hi7 (HBX.out w' (HK5.out.trans hE)) rfl
                        · intro a' w' hE hK hd
                          have hi7 : a'.tmps[7]? = some (.pointer (some ⟨b7, 0, none⟩)) := hK.get 7 (by decide)
                          exact st_load (wanted_none rfl) rfl Tryz.underlying24 hi7 (HBX.out w' (HK5.out.trans hE)) rfl
                        · intro a' w' hE hK hd
                          have hi3 : a'.tmps[3]? = some (.slice A4 nv c4) := hK.get 3 (by decide)
                          exact st_move (wanted_none rfl) rfl hi3 ((HV6.out.ext ((HE14.out.trans HK5.out).trans hE)))
                        · intro a' w' hE hK hd
                          obtain ⟨u1, h1, p1⟩ := got (hd ⟨1, .data⟩ (by simp) rfl) rfl rfl
                          obtain rfl : u1 = .slice (some ad3) np pc := p1
                          obtain ⟨u2, h2, p2⟩ := got (hd ⟨2, .data⟩ (by simp) rfl) rfl rfl
                          have r2 : RI w' u2 V := p2
                          exact st_call _ _ _ rfl (wanted_none rfl) rfl fv_within _ (by simp only [List.map_toArray, List.map_cons, List.map_nil, eval_of h1, eval_of h2]) ((Within_any P V _ _ w' HP64.out (HO14.out.ext (HK5.out.trans hE)) r2).mono fun e w'' ⟨v, H1, H2, H3⟩ => ⟨_, H1, H3, H2.reads⟩)
                        · intro a' w' hE hK hd
                          obtain ⟨u0, h0, p0⟩ := got (hd ⟨0, .data⟩ (by simp) rfl) rfl rfl
                          obtain rfl : u0 = .slice (some ad3) np pc := p0
                          obtain ⟨u3, h3, p3⟩ := got (hd ⟨3, .data⟩ (by simp) rfl) rfl rfl
                          have r3 : RI w' u3 (WithinV P V) := p3
                          exact st_call _ _ _ rfl (wanted_none rfl) rfl fv_cube _ (by simp only [List.map_toArray, List.map_cons, List.map_nil, eval_of h0, eval_of h3]) ((HCB.out w' u3 hE r3).mono fun e w'' ⟨H1, H2⟩ => ⟨_, H1, H2, rfl⟩)
                        · intro a' w' hE hK hd
                          obtain ⟨u4, h4, p4⟩ := got (hd ⟨4, .data⟩ (by simp) rfl) rfl rfl
                          obtain rfl : u4 = .int .u8 1 := p4
                          exact st_run (wanted_none rfl) (v := .bool false) (by unfold execOp; simp [h4, go_sem]) rfl
                        · intro a' w' hE hK hd
                          obtain ⟨u5, h5, p5⟩ := got (hd ⟨5, .data⟩ (by simp) rfl) rfl rfl
                          obtain rfl : u5 = .bool false := p5
                          exact st_move (wanted_none rfl) rfl h5 rfl
                        · intro a' w' hE hK hd
                          obtain ⟨ug, hg, pg⟩ := got (hd ⟨6, .guard⟩ (by simp) rfl) rfl rfl
                          obtain rfl : ug = .bool false := pg
                          have hi0 : a'.tmps[0]? = some (.slice A n c) := hK.get 0 (by decide)
                          exact st_move ((wanted_b rfl rfl rfl hg).trans rfl) rfl hi0 ((RLL.ext' KR.out ((HE6.out.trans (HE14.out.trans HK5.out)).trans hE)))
                        · intro a' w' hE hK hd
                          obtain ⟨ug, hg, pg⟩ := got (hd ⟨6, .guard⟩ (by simp) rfl) rfl rfl
                          obtain rfl : ug = .bool false := pg
                          have hi16 : a'.tmps[16]? = some (.int .i64 y) := hK.get 16 (by decide)
                          exact st_move ((wanted_b rfl rfl rfl hg).trans rfl) rfl hi16 rfl
                        · intro a' w' hE hK hd
                          obtain ⟨ug, hg, pg⟩ := got (hd ⟨6, .guard⟩ (by simp) rfl) rfl rfl
                          obtain rfl : ug = .bool false := pg
                          obtain ⟨u7, h7, p7⟩ := got (hd ⟨7, .data⟩ (by simp) rfl) rfl rfl
                          have r7 : RLL w' u7 f := p7
                          obtain ⟨u8, h8, p8⟩ := got (hd ⟨8, .data⟩ (by simp) rfl) rfl rfl
                          obtain rfl : u8 = .int .i64 y := p8
                          exact st_call _ _ _ rfl ((wanted_b rfl rfl rfl hg).trans rfl) rfl fv_reachesF _ (by simp only [List.map_toArray, List.map_cons, List.map_nil, eval_of h7, eval_of h8]) ((HRA.out w' u7 r7).mono fun e w'' ⟨v, H1, H2, H3⟩ => ⟨_, H1, H3, H2.reads⟩)
                        · intro a' w' hE hK hd
                          obtain ⟨ug, hg, pg⟩ := got (hd ⟨6, .guard⟩ (by simp) rfl) rfl rfl
                          obtain rfl : ug = .bool false := pg
                          have hi7 : a'.tmps[7]? = some (.pointer (some ⟨b7, 0, none⟩)) := hK.get 7 (by decide)
                          exact st_run ((wanted_b rfl rfl rfl hg).trans rfl) (v := .func (.func 35) #[] #[.pointer (some ⟨b7, 0, none⟩)]) (by unfold execOp; simp [hi7, go_sem]; done) rfl
                        · intro a' w' hE hK hd
                          obtain ⟨ug, hg, pg⟩ := got (hd ⟨6, .guard⟩ (by simp) rfl) rfl rfl
                          obtain rfl : ug = .bool false := pg
                          obtain ⟨u9, h9, p9⟩ := got (hd ⟨9, .data⟩ (by simp) rfl) rfl rfl
                          have r9 : RI w' u9 (ReachV f y) := p9
                          obtain ⟨u10, h10, p10⟩ := got (hd ⟨10, .data⟩ (by simp) rfl) rfl rfl
                          obtain rfl : u10 = .func (.func 35) #[] #[.pointer (some ⟨b7, 0, none⟩)] := p10
                          exact st_call _ _ _ rfl ((wanted_b rfl rfl rfl hg).trans rfl) rfl fv_contI _ (by simp only [List.map_toArray, List.map_cons, List.map_nil, eval_of h9, eval_of h10]) (cont_none P (ReachV f y) b7 (.slice (some ad3) np pc) u9 w' HP64.out HR64.out (HO14.out.ext (HK5.out.trans hE)) r9 HXR.out (HBX.out w' (HK5.out.trans hE)))
                        · intro a' w' hE hK hd
                          obtain ⟨u6, h6, p6⟩ := got (hd ⟨6, .data⟩ (by simp) rfl) rfl rfl
                          obtain rfl : u6 = .bool false := p6
                          obtain ⟨u11, h11, p11⟩ := got (hd ⟨11, .data⟩ (by simp) rfl) rfl rfl
                          obtain rfl : u11 = .bool false := p11
                          exact st_pickv (wanted_none rfl) rfl h6 (eval_of h11) rfl
                      · intro a' w' hE hK hG
                        obtain ⟨u, hl9, pl9⟩ := got (hG 12 (by decide)) rfl rfl
                        obtain rfl : u = .bool false := pl9
                        refine hMK a' w' (Met.intro (hRJ a' w' ?_))
                        refine ⟨_, _, _, _, _, _, _, _, _, _, _, _, _, ?_, Kep.re hK rfl 92 104 (by decide)⟩
                        refine ⟨?_, Lib.hid hE⟩
                        show (a'.tmps[104]?).getD undef = _
                        rw [hl9]; rfl
                     case rest =>
                      obtain ⟨rfl, HCT⟩ := hcut
                      go_wp2
                      go_roundg (np - (k5 + 1))
                      case measure => omega
                      case rel => exact ⟨k5 + 1, by omega, by omega, by go_num, Lib.hid (HK5.out.trans HCT.out)⟩
                   · obtain rfl : k5 = np := by omega
                     go_wp2
                     go_roundg (N - (k + 1))
                     case measure => omega
                     case rel => exact ⟨k + 1, by omega, by omega, by go_num, Lib.hid (HE14.out.trans HK5.out)⟩
          · have hcb : (CnfV P f != 1) = true := by simpa using hc1
            have HCB := Lib.hid hcb
            clear hc1 hcb HHO2
            go_wp2_with (first
             | (go_at_call 29; refine HPT.out.mono ?_; rintro e w12 ⟨v12, rfl, ho, hE⟩; have HO12 := Lib.hid ho.reads; obtain ⟨PA, pc, hvp, -⟩ := ho.reads; rw [← HNP.out] at hvp; subst hvp; have e13 := Ext.alloc w12 (.cells #[.slice PA np pc] 24); have HB13 := Lib.hid (Var1.new w12 24 (.slice PA np pc)).cell; have HO13 := Lib.hid (HO12.out.ext e13); have HE13 := Lib.hid ((HK.out.trans hE).trans e13); have cb := HB13.out; clear ho hE e13)
             | (go_at_call 30; refine (HCN.out _ _ (HE6.out.trans HE13.out) HO13.out).mono ?_; rintro e w14 ⟨rfl, hE⟩; have HE14 := Lib.hid (HE13.out.trans hE); have hcb := HCB.out; clear hE))
            go_roundg (N - (k + 1))
            case measure => omega
            case rel => exact ⟨k + 1, by omega, by omega, by go_num, HE14⟩
        · obtain rfl : k = N := by omega
          go_wp2_with (go_at_call 10; refine (awake_any _).mono ?_; rintro e wz ⟨rfl, hE⟩; have HEZ := Lib.hid ((HE6.out.trans HK.out).trans hE); clear hE)
          go_ret
          exact ⟨rfl, HEZ.out⟩
     · obtain ⟨nv, hnv⟩ : ∃ nv, nv = (VarsV f).length := ⟨_, rfl⟩
       have hv9 : (8 : Int) < nv := by omega
       have b8 : decide ((8 : Int) < nv) = true := by rw [decide_eq_true_eq]; exact hv9
       have HNV := Lib.hid hnv
       clear hv8 hnv
       go_enter Tryz.func8, Tryz.ntmps8
       go_wp2_with (first
        | (go_at_call 9; refine HLG.out.mono ?_; rintro e w2 ⟨rfl, hE⟩; have HE2 := Lib.hid hE; clear hE)
        | (go_at_call 27; refine (HMC.out _ HE2.out).mono ?_; rintro e w3 ⟨rfl, hE⟩; have HE3 := Lib.hid (HE2.out.trans hE); clear hE)
        | (go_at_call 28; refine (HVS.out _ HE3.out).mono ?_; rintro e w4 ⟨v4, rfl, ho, hE⟩; obtain ⟨A4, c4, hv4, -⟩ := OwnI.reads ho; rw [← HNV.out] at hv4; subst hv4; have HE4 := Lib.hid (HE3.out.trans hE); clear ho hE)
        | (go_at_call 10; refine (awake_any _).mono ?_; rintro e w5 ⟨rfl, hE⟩; have HE5 := Lib.hid (HE4.out.trans hE); clear hE))
       go_ret
       exact ⟨rfl, HE5.out⟩
end Go.Proofs.YtjecjaihficcdaaGreat
namespace Go.Proofs.YtjecjaihficcdaaGreat
open Go.ChangeShapes Go.WideShapes Go.ChangeAt Go.RowKit
theorem ownK : ownKnob Tryz.prog.godebug = none := by kernel_rfl
theorem laidOutK : laidOutB Tryz.prog = true := by kernel_rfl
theorem cellsI : Tryz.prog.cellsOf 3 = 1 := by kernel_rfl
theorem cellsL : Tryz.prog.cellsOf 24 = 1 := by kernel_rfl
theorem bytesI : Tryz.prog.bytesOf 3 = 8 := by kernel_rfl
theorem I64_wf {n : Int} (h : (Lit.int .i64 n).wf = true) : I64 n := by
 have : -9223372036854775808 ≤ n ∧ n ≤ 9223372036854775807 := by simpa [Lit.wf, IntKind.min, IntKind.max, IntKind.bits, IntKind.signed] using h
 exact this
theorem weightsAll_mem {H : Type} {P : Program} {e : TypeId} : ∀ {l : List (DataW H)} {d : DataW H}, d ∈ l → ∀ n ∈ d.weights P e, n ∈ DataW.weightsAll P e l
 | d' :: r, d, hd, n, hn => by
   simp only [DataW.weightsAll, List.mem_append]
   rcases List.mem_cons.1 hd with rfl | h
   · exact Or.inl hn
   · exact Or.inr (weightsAll_mem h n hn)
theorem sized_inner {H : Type} {P : Program} {ts : List TypeId} {ds : List (DataW H)} (h : (DataW.weightsEach P ts ds).all (· ≤ reachBytes) = true) {j : Nat} {t e q : TypeId} {elems spare e' sp' : List (DataW H)}
 (ht : ts[j]? = some t) (hd : ds[j]? = some (.slice elems spare)) (hu : P.underlying t = some (.slice e)) (hu2 : P.underlying e = some (.slice q)) (hx : DataW.slice e' sp' ∈ elems) : (e'.length + sp'.length) * P.bytesOf q ≤ reachBytes := by
 refine of_decide_eq_true (List.all_eq_true.1 h _ (DataW.weights_mem_each ht hd _ ?_))
 simp only [DataW.weights, hu, List.mem_cons, List.mem_append]
 exact Or.inr (Or.inl (weightsAll_mem hx _ (by simp [DataW.weights, hu2])))
theorem open_RLL {H : Type} {enc : TypeId × Value → H} {W : World} {base : Nat} {held : Bool} {fuel : Nat} {a : Option Addr} {len cap : Nat} {x : DataW H × List MemPlace}
 (h : DataW.trod enc Tryz.prog W base (fun _ => true) held fuel 22 (Value.slice a len cap).cells.toList = some x) :
 ∃ f, RLL W (.slice a len cap) f ∧ All64L f ∧ f.length = len ∧ (a = none → cap = 0) ∧
  (f = [] ∨ ∃ e s, x.1 = .slice e s ∧ f.length ≤ e.length + s.length ∧ ∀ c ∈ f, c.length = 0 ∨ ∃ e' s', DataW.slice e' s' ∈ e ∧ c.length ≤ e'.length + s'.length) := by
 rcases Go.Deep.open_int_rows Tryz.underlying22 Tryz.underlying24 Tryz.underlying3 cellsL cellsI h with ⟨hcs, hx⟩ | ⟨a', len', cap', A, L, C, Z, hcs, _, hl, hm, hx, hr⟩
 · simp [Value.cells] at hcs
   obtain ⟨rfl, rfl, rfl⟩ := hcs
   exact ⟨[], RLL.none W, fun y hy => (by cases hy), rfl, fun _ => rfl, .inl rfl⟩
 · simp [Value.cells] at hcs
   obtain ⟨rfl, rfl, rfl⟩ := hcs
   unfold maxLen at hm hr
   let f : List (List Int) := List.ofFn fun r : Fin len => (Z r.1).take (L r.1)
   have hfl : f.length = len := by simp [f]
   have hfg : ∀ j (hj : j < f.length), f[j] = (Z j).take (L j) := fun j hj => by simp [f]
   have hfk : ∀ j (hj : j < f.length), f[j].length = L j := fun j hj => by
    rw [hfg j hj, List.length_take]
    have := hr j (by omega); omega
   let vs : List Value := List.ofFn fun r : Fin len => Value.slice (A r.1) (L r.1) (C r.1)
   have hvl : vs.length = len := by simp [vs]
   have hvg : ∀ j (hj : j < vs.length), vs[j] = Value.slice (A j) (L j) (C j) := fun j hj => by simp [vs]
   refine ⟨f, ⟨some a', cap, vs, by rw [hvl], by omega, by omega, fun j hj => ⟨a', rfl, ?_⟩, by omega, fun j hj hj' => ?_⟩, fun c hc => ?_, hfl, fun h => (by cases h), .inr ⟨_, _, by rw [hx], by simp; omega, fun c hc => ?_⟩⟩
   · rw [hvg j hj]; exact (hr j (by omega)).1
   · obtain ⟨h1, h2, h3, h4, h5, h6, h7⟩ := hr j (by omega)
     refine ⟨A j, C j, by rw [hvg j hj, hfk j hj'], by rw [hfk j hj']; exact h2, by rw [hfk j hj']; omega, fun i hi => ?_⟩
     rw [List.length_map, hfk j hj'] at hi
     cases hA : A j with
     | none => have := h6 hA; omega
     | some a'' =>
       refine ⟨a'', rfl, ?_⟩
       rw [(h7 a'' hA).2 i (by omega), List.getElem_map]
       have : f[j][i]'(by rw [hfk j hj']; exact hi) = (Z j).getD i 0 := by
        simp only [hfg j hj', List.getElem_take]
        simp [show i < (Z j).length by omega]
       rw [this]
   · obtain ⟨j, hj, rfl⟩ := List.mem_iff_getElem.1 hc
     intro y hy
     rw [hfg j hj] at hy
     exact I64_wf ((hr j (by omega)).2.2.2.2.1 y (List.mem_of_mem_take hy))
   · obtain ⟨j, hj, rfl⟩ := List.mem_iff_getElem.1 hc
     rw [hfk j hj]
     obtain ⟨h1, h2, h3, h4, h5, h6, h7⟩ := hr j (by omega)
     cases hA : A j with
     | none => left; have := h6 hA; omega
     | some a'' =>
       right
       refine ⟨_, _, List.mem_map.2 ⟨j, List.mem_range.2 (by omega), by rw [hA]; rfl⟩, by simp [lits]; omega⟩
theorem total_le {l : List (List Int)} {M : Nat} (h : ∀ c ∈ l, c.length ≤ M) : total l ≤ l.length * M := by
 unfold total lens
 rw [List.take_length]
 induction l with
 | nil => simp
 | cons c l ih =>
   have h1 := h c (by simp)
   have h2 := ih fun c hc => h c (by simp [hc])
   rw [List.map_cons, List.sum_cons, List.length_cons, Nat.add_mul]
   omega
set_option maxRecDepth 100000 in
theorem equivHolds_lifted (os : Os) (started : os.Started) (H : Type) (enc : TypeId × Value → H) :
 ReturnsInHanded {} Tryz.checked os 8 .any (Rows.equivHoldsSpec.pre6 enc Tryz.prog Tryz.f8 [] false) (Rows.equivHoldsSpec.post enc Tryz.prog Tryz.f8 false true false false) := by
 refine returnsInHanded_of_change_sized (C := Tryz.checked) ownK started (by kernel_rfl) Tryz.func8
  (ChangeSpec.witness6 (enc := enc) (C := Tryz.checked) false ⟨#[], #[.slice none 0 0], []⟩ 8 (by kernel_rfl) (by kernel_rfl) (by kernel_rfl) (by kernel_rfl)) ?_
 intro W base args ds gs before hval0 hW _ hsz0 _
 have hsz : (DataW.weightsEach Tryz.prog (Tryz.f8.params.toList ++ Rows.equivHoldsSpec.plain.varTypes Tryz.prog) (ds ++ gs)).all (· ≤ reachBytes) = true := hsz0
 clear hsz0
 have hval : ∀ (j : Nat) t v, Tryz.f8.params[j]? = some t → args[j]? = some v → Value.okWide Tryz.prog W .any base t v := hval0
 have hW' := hW
 obtain ⟨p, q, hA0, hV, rfl, hfz, hnd⟩ := hW
 have hA : DataW.TrodAll enc Tryz.prog W 0 (fun _ => true) true Tryz.f8.params.toList args.toList ds p := hA0
 rw [Tryz.params8] at hA hval hsz
 obtain ⟨v0, d0, rfl, rfl, h0⟩ := trodAll_one hA
 obtain ⟨rfl, rfl⟩ := trodVars_none hV
 obtain ⟨a0, len0, cap0, rfl⟩ := okWide_slice Tryz.underlying22 (hval 0 22 v0 rfl rfl)
 have h0k := h0
 obtain ⟨fuel0, hf0⟩ := h0
 obtain ⟨x0, r0, e0, l0, n0, hx0⟩ := open_RLL hf0
 clear hA0 hval0
 simp only [List.append_nil] at hW'
 have hlt : ∀ x ∈ p, x.block < W.heap.size := fun x hx => by simpa using hW'.lt x hx
 have hre : reachBytes = 140737488351232 := rfl
 have b0 : ∀ c ∈ x0, c.length ≤ 17592186043904 := by
  rcases hx0 with rfl | ⟨e, s, he, hle, hin⟩
  · exact fun c hc => by cases hc
  · have he' : d0 = .slice e s := he
    refine fun c hc => ?_
    rcases hin c hc with h | ⟨e', s', hm, h⟩
    · omega
    · have := sized_inner hsz (j := 0) (t := 22) rfl (by rw [he']; rfl) Tryz.underlying22 Tryz.underlying24 hm
      rw [bytesI, hre] at this
      omega
 have ht : x0.length ≤ 60 → total x0 ≤ 9223372036854775807 := fun h => by
  have h2 := total_le b0
  have h3 : x0.length * 17592186043904 ≤ 60 * 17592186043904 := Nat.mul_le_mul_right _ h
  omega
 refine (hold_law x0 (.slice a0 len0 cap0) W r0 e0 ht).mono fun e W' ⟨he, hE⟩ => ?_
 subst he
 have hargs : DataW.TrodAll enc Tryz.prog W' 0 (fun b => decide (b < W.heap.size)) true [22] [.slice a0 len0 cap0] [d0] p :=
  trodAll_mk1 (Below.trod laidOutK (by kernel_rfl) (of_decide_eq_true (by kernel_rfl)) h0k hE (fun x hx => hlt x hx))
 exact ⟨_, rfl, _, _, _, [], p, [], hW', trodAll_mk1 (shut_bool Tryz.underlying4 true), hargs, rfl, hE.frame _, fun h => by cases h⟩
theorem equivHolds_holds : Rows.EquivHoldsSaid :=
 OpenClaim.holds_of_wide 8 Tryz.f8 rfl rfl rfl rfl rfl rfl rfl ⟨rfl, rfl, rfl, rfl, rfl⟩ rfl rfl rfl rfl rfl (by kernel_rfl) Tryz.func8 (by kernel_rfl)
  (of_decide_eq_true (by kernel_rfl)) (by unfold Func.isWrapper; first | (rw [if_pos (by decide +kernel)]; kernel_rfl) | (rw [if_neg (by decide +kernel)]; exact ⟨rfl, rfl⟩))
  (fun os started H enc _ => by rw [OpenClaim.pre_of_none rfl]; exact equivHolds_lifted os started H enc)
#print axioms equivHolds_holds
end Go.Proofs.YtjecjaihficcdaaGreat
