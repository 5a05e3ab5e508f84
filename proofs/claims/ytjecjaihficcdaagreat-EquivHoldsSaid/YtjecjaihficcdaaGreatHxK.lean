/- Walks and plain laws that this claim uses. -/
import Derived.Test.YtjecjaihficcdaaGreatHxA
import Derived.Test.YtjecjaihficcdaaGreatHxJ
import Derived.Test.YtjecjaihficcdaaGreatHxI
import Derived.Deep.CutRange
import Derived.Test.YtjecjaihficcdaaGreatHxC
import Derived.Test.YtjecjaihficcdaaGreatHxPEquivNextx1
import Derived.Test.YtjecjaihficcdaaGreatHxPEquivNextx2
import Derived.Test.YtjecjaihficcdaaGreatHxPEquivNextx3
import Derived.Test.YtjecjaihficcdaaGreatHxPEquivNextx4
import Derived.Test.YtjecjaihficcdaaGreatHxPEquivNextx0
import Derived.Test.YtjecjaihficcdaaGreatHxB
import Derived.Deep.QuietTactic
import Derived.BigQuiet
import Derived.BigRegion
import Derived.Test.YtjecjaihficcdaaGreatHxPEquivNextx6
import Derived.Test.YtjecjaihficcdaaGreatHxPEquivNextx7
import Derived.Test.YtjecjaihficcdaaGreatHxPEquivNextx8
import Derived.Test.YtjecjaihficcdaaGreatHxPEquivNextx9
import Derived.Test.YtjecjaihficcdaaGreatHxPEquivNextx30
namespace Go.Proofs.YtjecjaihficcdaaGreat
open Go.RowKit
def PostIxH (xs : List Int) (y : Int) (w : World) (e : Ending) (w' : World) : Prop := ∃ r : Int, e = .returned (.int .i64 r) ∧ decide (0 ≤ r) = decide (y ∈ xs) ∧ w = w'
set_option maxHeartbeats 400000 in
theorem indexH_any (xs : List Int) (y : Int) (v : Value) (w : World) (hr : RI w v xs) : Calls Tryz.prog 128 #[v, .int .i64 y] w (PostIxH xs y w) := by
 obtain ⟨A, c, rfl, hc, hm, hcell⟩ := hr
 have HC := Lib.hid hcell
 clear hcell
 go_enter Tryz.func128, Tryz.ntmps128
 go_wp2
 go_loop [8] (fun i => ∃ k : Nat, k ≤ xs.length ∧ i = .int .i64 k ∧ Hid (∀ j (h : j < xs.length), j < k → xs[j] ≠ y)) (fun i => xs.length - (intOf i).toNat)
 case atStart => exact ⟨0, Nat.zero_le _, rfl, fun j _ h => absurd h (Nat.not_lt_zero j)⟩
 case round =>
  obtain ⟨k, hk, rfl, HN⟩ := hrel
  by_cases hlt : k < xs.length
  · obtain ⟨ad, rfl, hcell⟩ := HC.out.int k hlt
    obtain ⟨x, hx⟩ : ∃ x, x = xs[k] := ⟨_, rfl⟩
    rw [← hx] at hcell
    have HX := Lib.hid hx
    clear hx
    by_cases he : y = x
    · have heb : (y == x) = true := by simpa using he
      have HE := Lib.hid he
      clear he
      go_wp2
      go_ret
      refine ⟨(k : Int), rfl, ?_, rfl⟩
      rw [decide_eq_true (by omega : (0 : Int) ≤ k)]
      symm
      rw [decide_eq_true_eq, HE.out, HX.out]
      exact List.getElem_mem hlt
    · have heb : (y == x) = false := by simpa using he
      have HE := Lib.hid he
      clear he
      go_wp2
      go_round
      case rel => exact ⟨k + 1, by omega, by go_num, fun j h hj => if e : j = k then by subst e; rw [← HX.out]; exact fun q => HE.out q.symm else HN.out j h (by omega)⟩
      case measure => simp [intOf]; omega
  · obtain rfl : k = xs.length := by omega
    go_wp2
    go_ret
    refine ⟨-1, rfl, ?_, rfl⟩
    rw [decide_eq_false (by decide : ¬ (0 : Int) ≤ -1)]
    symm
    rw [decide_eq_false_iff_not]
    intro hm
    obtain ⟨j, hj, e⟩ := List.getElem_of_mem hm
    exact HN.out j hj hj e
set_option maxHeartbeats 400000 in
theorem contains_any (xs : List Int) (y : Int) (v : Value) (w : World) (hr : RI w v xs) : Calls Tryz.prog 86 #[v, .int .i64 y] w fun e w' => e = .returned (.bool (decide (y ∈ xs))) ∧ w = w' := by
 have H := Lib.hid (indexH_any xs y v w hr)
 clear hr
 go_enter Tryz.func86, Tryz.ntmps86
 go_wp2_with (go_at_call 128; refine H.out.mono ?_; rintro e w' ⟨r, rfl, hd, rfl⟩; have HD := Lib.hid hd; clear hd)
 go_ret
 exact ⟨ret_bool HD.out, rfl⟩
def PostOwn (w : World) (r : List Int) (e : Ending) (w' : World) : Prop := ∃ v', e = .returned v' ∧ OwnI w' w.heap.size v' r ∧ Ext w w'
set_option maxHeartbeats 2000000 in
theorem each_any (f : FuncId) (cap : Array Value) (hf : Fv Tryz.prog f) (g : Int → Int) (xs : List Int) (v : Value) (w : World) (h64 : All64 xs) (hr : RI w v xs)
 (hcl : mayB xs = true → ∀ x ∈ xs, ∀ w', Ext w w' → Calls Tryz.prog f (#[.int .i64 x] ++ cap) w' fun e w'' => e = .returned (.int .i64 (g x)) ∧ Ext w' w'') :
 Calls Tryz.prog 83 #[v, .func (.func f) #[] cap] w (PostOwn w (EachV g xs)) := by
 have HM := Lib.hid (may_any v xs w hr h64)
 have HR := Lib.hid hr
 obtain ⟨A, c, rfl, h1, h2, h3⟩ := hr
 clear h3
 unfold EachV
 cases hm : mayB xs
 · rw [hm] at HM
   rw [if_neg (by decide)]
   clear hcl hm
   go_enter Tryz.func83, Tryz.ntmps83
   go_wp2_with (go_at_call 76; refine HM.out.mono ?_; rintro e w' ⟨rfl, rfl⟩)
   go_ret
   exact ⟨_, rfl, OwnI.nil _ _, Ext.refl _⟩
 · rw [hm] at HM
   rw [if_pos rfl]
   have HCL := Lib.hid (hcl hm)
   have hlen := may_len hm
   clear hcl hm
   go_enter Tryz.func83, Tryz.ntmps83
   go_wp2_with (go_at_call 76; refine HM.out.mono ?_; rintro e w' ⟨rfl, rfl⟩)
   go_loopg [5, 14] xs.length (fun gn o i wr => ∃ k : Nat, k ≤ xs.length ∧ gn + k = xs.length ∧ i = .int .i64 k ∧ Hid (OwnI wr w.heap.size o (eachL g (xs.take k)) ∧ Ext w wr))
   case atStart => exact ⟨0, Nat.zero_le _, by omega, rfl, OwnI.nil _ _, Ext.refl _⟩
   case round =>
    obtain ⟨k, hk, hgk, rfl, HI⟩ := hrel
    obtain ⟨wk, rfl⟩ : ∃ wk : World, wk = wr := ⟨_, rfl⟩
    by_cases hlt : k < xs.length
    · obtain ⟨ad, rfl, hx0⟩ := (HR.out.ext HI.out.2).row.2.2.2.int k hlt
      have hsn := eachL_snoc g xs k hlt
      have hel := eachL_len g (xs.take k)
      rw [List.length_take] at hel
      have hol : (eachL g (xs.take k)).length ≤ 10000000 := by omega
      have HCX := Lib.hid (HCL.out xs[k] (List.getElem_mem hlt) wk HI.out.2)
      obtain ⟨x, hx⟩ : ∃ x, x = xs[k] := ⟨_, rfl⟩
      rw [← hx] at hx0 hsn HCX
      clear hx hel
      by_cases hg : g x = 0
      · rw [if_pos hg, List.append_nil] at hsn
        have HSN := Lib.hid hsn
        have HCG : Hid (Calls Tryz.prog f (#[.int .i64 x] ++ cap) wk fun e w'' => e = .returned (.int .i64 0) ∧ Ext wk w'') := Lib.hid (hg ▸ HCX.out)
        clear hsn hg
        go_wp2_with (refine wpList_callv (.tmp 18) #[.tmp 19] _ rfl rfl cap rfl hf (#[.int .i64 x] ++ cap) (by simp only [List.map_toArray, List.map_cons, List.map_nil]; rfl) ?_; refine HCG.out.mono ?_; rintro e w1 ⟨rfl, hE⟩; refine ⟨_, rfl, ?_⟩; have HE1 := Lib.hid hE; clear hE)
        go_roundg (xs.length - (k + 1))
        case measure => omega
        case rel => exact ⟨k + 1, by omega, by omega, by go_num, by rw [HSN.out]; exact own_ext HI.out.1 HE1.out, HI.out.2.trans HE1.out⟩
      · rw [if_neg hg] at hsn
        have HSN := Lib.hid hsn
        have hgb : (g x != 0) = true := by simpa using hg
        obtain ⟨y, hy⟩ : ∃ y, y = g x := ⟨_, rfl⟩
        rw [← hy] at HCX hgb HSN
        clear hsn hg hy
        go_wp2_with (first
         | (refine wpList_callv (.tmp 18) #[.tmp 19] _ rfl rfl cap rfl hf (#[.int .i64 x] ++ cap) (by simp only [List.map_toArray, List.map_cons, List.map_nil]; rfl) ?_
            refine HCX.out.mono ?_
            rintro e w1 ⟨rfl, hE⟩
            refine ⟨_, rfl, ?_⟩
            have HE1 := Lib.hid (HI.out.2.trans hE)
            have HO1 := Lib.hid (own_ext HI.out.1 hE)
            clear hE)
         | (at_builtin
            refine app_1 rfl (.tmp 23) (.tmp 25) rfl (base := w.heap.size) (xs := eachL g (xs.take k)) (y := y) rfl rfl HO1.out hol HE1.out.size ?_
            intro v' w3 hown hg
            have HOW := Lib.hid hown
            have HE4 := Lib.hid (hg.toExt HE1.out (fun i hi => (own_typed HO1.out hi.symm).1))
            clear hown hg))
        go_roundg (xs.length - (k + 1))
        case measure => omega
        case rel => exact ⟨k + 1, by omega, by omega, by go_num, by rw [HSN.out]; exact HOW.out, HE4.out⟩
    · obtain rfl : k = xs.length := by omega
      go_wp2
      go_ret
      refine ⟨_, rfl, ?_, HI.out.2⟩
      have := HI.out.1
      rw [List.take_length] at this
      exact this
set_option maxHeartbeats 400000 in
theorem only_any (x : Int) (b : Bool) (w : World) : Calls Tryz.prog 85 #[.int .i64 x, .bool b] w fun e w' => e = .returned (.int .i64 (if b = true then x else 0)) ∧ w' = w := by
 cases b
 · go_enter Tryz.func85, Tryz.ntmps85
   go_wp2
   go_ret
   exact ⟨rfl, rfl⟩
 · go_enter Tryz.func85, Tryz.ntmps85
   go_wp2
   go_ret
   exact ⟨rfl, rfl⟩
theorem contains_st (xs : List Int) (y : Int) (v : Value) (w : World) (hr : RI w v xs) : Calls Tryz.prog 86 #[v, .int .i64 y] w fun e w' => e = .returned (.bool (decide (y ∈ xs))) ∧ w' = w := (contains_any xs y v w hr).mono fun _ _ ⟨h1, h2⟩ => ⟨h1, h2.symm⟩
theorem only_y (x : Int) (w : World) : Calls Tryz.prog 85 #[.int .i64 x, .bool true] w fun e w' => e = .returned (.int .i64 x) ∧ w' = w := only_any x true w
theorem only_n (x : Int) (w : World) : Calls Tryz.prog 85 #[.int .i64 x, .bool false] w fun e w' => e = .returned (.int .i64 0) ∧ w' = w := only_any x false w
set_option maxHeartbeats 400000 in
theorem within1_fn (x : Int) (hx : I64 x) (vs : List Int) (u : Value) (g : Nat) (w : World) (hc : w.cell? ⟨g, 0, none⟩ = some u) (hu : RI w u vs) :
 Calls Tryz.prog 84 #[.int .i64 x, .pointer (some ⟨g, 0, none⟩)] w fun e w' => e = .returned (.int .i64 (if decide (varOf x ∈ vs) = true then x else 0)) ∧ Ext w w' := by
 have HU := fun n => Lib.hid (contains_st vs (varOf x) u (w.drewN n) (hu.ext (Ext.drewN w n)))
 obtain ⟨A, c, rfl, h1, h2, h3⟩ := hu
 clear h3
 obtain ⟨b, hb⟩ : ∃ b, b = decide (varOf x ∈ vs) := ⟨_, rfl⟩
 rw [← hb] at HU ⊢
 clear hb
 cases b
 · rw [if_neg (by decide)]
   go_enter Tryz.func84, Tryz.ntmps84
   go_wp2
   go_quiet ((first | (go_at_call 36; exact quiet_same (var_any x hx _)) | (go_at_call 86; exact Calls.quiet_of_same (HU _).out) | (go_at_call 85; exact Calls.quiet_of_same (only_n _ _))))
   go_wp2
   go_ret
   exact ⟨rfl, Ext.drewN _ _⟩
 · rw [if_pos rfl]
   go_enter Tryz.func84, Tryz.ntmps84
   go_wp2
   go_quiet ((first | (go_at_call 36; exact quiet_same (var_any x hx _)) | (go_at_call 86; exact Calls.quiet_of_same (HU _).out) | (go_at_call 85; exact Calls.quiet_of_same (only_y _ _))))
   go_wp2
   go_ret
   exact ⟨rfl, Ext.drewN _ _⟩
theorem fv_within1 : Fv Tryz.prog 84 := ⟨_, Tryz.func84, by kernel_rfl, by kernel_rfl⟩
theorem PostOwn.of {w w0 : World} {r : List Int} {e : Ending} {w' : World} (he : Ext w w0) (h : PostOwn w0 r e w') : PostOwn w r e w' := by
 obtain ⟨v', h1, h2, h3⟩ := h
 exact ⟨v', h1, own_lower h2 he.size, he.trans h3⟩
set_option maxHeartbeats 400000 in
theorem Within_any (xs vs : List Int) (v u : Value) (w : World) (h64 : All64 xs) (hr : RI w v xs) (kr : RI w u vs) : Calls Tryz.prog 33 #[v, u] w (PostOwn w (WithinV xs vs)) := by
 obtain ⟨A, c, rfl, -⟩ := id hr
 obtain ⟨B, d, rfl, -⟩ := id kr
 have H := Lib.hid (each_any 84 #[.pointer (some ⟨w.heap.size, 0, none⟩)] fv_within1 (fun x => if decide (varOf x ∈ vs) = true then x else 0) xs (.slice A xs.length c) (w.alloc (.cells #[.slice B vs.length d] 24)) h64 (hr.ext (Ext.alloc w _)) (fun _ x hx w' he => by
  exact within1_fn x (h64 x hx) vs (.slice B vs.length d) _ w' (he.cell (Var1.new w 24 (.slice B vs.length d)).cell) ((kr.ext (Ext.alloc w _)).ext he)))
 rw [each_within] at H
 have HE0 : Hid (Ext w (w.alloc (.cells #[.slice B vs.length d] 24))) := Lib.hid (Ext.alloc w _)
 clear hr kr
 go_enter Tryz.func33, Tryz.ntmps33
 go_wp2_with (go_at_call 83; refine H.out.mono ?_; intro e w' hq; obtain ⟨v', rfl, ho, hE⟩ := hq.of HE0.out; have HO := Lib.hid ho; have HE := Lib.hid hE; clear ho hE hq)
 go_ret
 exact ⟨_, rfl, HO.out, HE.out⟩
end Go.Proofs.YtjecjaihficcdaaGreat
namespace Go.Proofs.YtjecjaihficcdaaGreat
def ordB (x y : Int) : Int := if blt x y then -1 else if blt y x then 1 else 0
def cmpL : List Int → List Int → Int
 | [], [] => 0
 | [], _ :: _ => -1
 | _ :: _, [] => 1
 | x :: a, y :: b => if ordB x y = 0 then cmpL a b else ordB x y
def llt (a b : List Int) : Prop := cmpL a b < 0
instance (a b : List Int) : Decidable (llt a b) := by unfold llt; infer_instance
end Go.Proofs.YtjecjaihficcdaaGreat
namespace Go.Proofs.YtjecjaihficcdaaGreat.PEquivNext
open Go.RowKit Go.Proofs.YtjecjaihficcdaaGreatW.PrintWords
theorem size_f (x : Int) (h : I64 x) : skolemref01_size.f x = some ((x.natAbs : Nat) : Int) := by
 obtain ⟨h0, h1⟩ := h
 unfold skolemref01_size.f
 by_cases hx : x < 0
 · rw [if_pos hx, wrap64_id (x := x + 1) (by omega) (by omega), wrap64_id (by omega) (by omega), IntWalk.u64_in (-(x + 1)) ⟨by omega, by omega⟩, IntWalk.u64_in _ ⟨by omega, by omega⟩]
   congr 1; omega
 · rw [if_neg hx, IntWalk.u64_in _ ⟨by omega, by omega⟩]
   congr 1; omega
theorem literal_f (x : Int) (h : I64 x) : skolemref01_literal.f x = some (decide (varOf x ≠ 0)) := by
 unfold skolemref01_literal.f
 by_cases hx : x = 0
 · subst hx; rfl
 · rw [if_neg hx, size_f x h]
   show some _ = _
   congr 1
   rw [decide_eq_decide]
   unfold varOf
   split <;> omega
theorem Var_f (x : Int) (h : I64 x) : skolemref01_Var.f x = some (varOf x) := by
 unfold skolemref01_Var.f
 rw [literal_f x h]
 show (if decide (varOf x ≠ 0) = true then _ else _) = _
 by_cases hv : varOf x = 0
 · rw [if_neg (by simpa using hv), hv]
 · rw [if_pos (by simpa using hv), size_f x h]
   have := varOf_eq hv
   have := varOf_range x
   show some (wrap64 _) = _
   rw [wrap64_id (by omega) (by omega)]
   congr 1; omega
theorem May_l0 (xs : List Int) (h64 : All64 xs) (hb : xs.length ≤ 9223372036854775807) : ∀ n i, i + n = xs.length → Evn (fun k => skolemref01_May.l0 k xs (i : Int)) (mayFrom (if i = 0 then 0 else varOf (xs.getD (i - 1) 0)) (xs.drop i)) := by
 intro n
 induction n with
 | zero =>
   intro i hi
   refine Evn.succ (g' := fun _ => some true) (fun k => ?_) ((Evn.ret _).to ?_)
   · rw [skolemref01_May.l0, if_neg (by omega)]
   · rw [List.drop_eq_nil_of_le (by omega)]; rfl
 | succ n ih =>
   intro i hi
   have hil : i < xs.length := by omega
   have hm := h64 _ (List.getElem_mem hil)
   have hvr := varOf_range xs[i]
   refine Evn.succ (fun k => by rw [skolemref01_May.l0]) ?_
   refine Evn.pos (by omega) (Evn.pos (by omega) ?_)
   rw [rd_nat xs i hil, wrap64_nat (by omega), List.drop_eq_getElem_cons hil, mayFrom]
   refine Evn.bind (Evn.of_eq fun _ => literal_f _ hm) ?_
   have hnext := ih (i + 1) (by omega)
   rw [if_neg (by omega), show i + 1 - 1 = i by omega, show xs.getD i 0 = xs[i] by simp [hil]] at hnext
   by_cases hv : varOf xs[i] = 0
   · refine Evn.neg (by simpa using hv) ((Evn.ret _).to ?_)
     rw [if_pos]
     split
     · omega
     · have := varOf_range (xs.getD (i - 1) 0); omega
   · refine Evn.pos (by simpa using hv) ?_
     by_cases h0 : i = 0
     · subst h0
       refine Evn.neg (by omega) (hnext.to ?_)
       rw [if_neg (show ¬ varOf xs[0] ≤ (if (0 : Nat) = 0 then (0 : Int) else varOf (xs.getD (0 - 1) 0)) by rw [if_pos rfl]; omega)]
     · have hi1 : i - 1 < xs.length := by omega
       have e1 : wrap64 ((i : Int) - 1) = ((i - 1 : Nat) : Int) := by rw [wrap64_id (by omega) (by omega)]; omega
       have hm1 := h64 _ (List.getElem_mem hi1)
       rw [e1, rd_nat xs (i - 1) hi1, if_neg h0, show xs.getD (i - 1) 0 = xs[i - 1] by simp [hi1]]
       refine Evn.pos (by omega) (Evn.pos (by omega) (Evn.pos (by omega) ?_))
       refine Evn.bind (Evn.of_eq fun _ => Var_f _ hm1) (Evn.bind (Evn.of_eq fun _ => Var_f _ hm) ?_)
       by_cases hle : varOf xs[i] ≤ varOf xs[i - 1]
       · exact Evn.pos (by omega) ((Evn.ret _).to (by rw [if_pos hle]))
       · exact Evn.neg (by omega) (hnext.to (by rw [if_neg hle]))
theorem May_f (xs : List Int) (h64 : All64 xs) (hb : xs.length ≤ 9223372036854775807) : Evn (fun k => skolemref01_May.f k xs) (mayB xs) := by
 unfold skolemref01_May.f
 exact (May_l0 xs h64 hb xs.length 0 (by omega)).to (by rw [if_pos rfl]; rfl)
end Go.Proofs.YtjecjaihficcdaaGreat.PEquivNext
namespace Go.Proofs.YtjecjaihficcdaaGreat
open Go.RowKit Go.Proofs.YtjecjaihficcdaaGreatW.PrintWords
end Go.Proofs.YtjecjaihficcdaaGreat
namespace Go.Proofs.YtjecjaihficcdaaGreat.PEquivNext
open Go.RowKit Go.Proofs.YtjecjaihficcdaaGreatW.PrintWords
def mcR (f : List (List Int)) : Nat → Nat → Bool
 | 0, _ => true
 | r + 1, i => decide (i < 20000) && decide (lens f (i + 1) ≤ 200000) && mayB (f.getD i []) && mcR f r (i + 1)
theorem mcR_iff (f : List (List Int)) : ∀ r i, mcR f r i = true ↔ ∀ j, i ≤ j → j < i + r → j < 20000 ∧ lens f (j + 1) ≤ 200000 ∧ mayB (f.getD j []) = true
 | 0, i => by simp [mcR]; intro j h1 h2; omega
 | r + 1, i => by
   rw [mcR, Bool.and_eq_true, Bool.and_eq_true, Bool.and_eq_true, decide_eq_true_eq, decide_eq_true_eq, mcR_iff f r (i + 1)]
   constructor
   · rintro ⟨⟨⟨h1, h2⟩, h3⟩, h4⟩ j h5 h6
     rcases Nat.lt_or_eq_of_le h5 with h7 | h7
     · exact h4 j h7 (by omega)
     · subst h7; exact ⟨h1, h2, h3⟩
   · intro h
     have h0 := h i (Nat.le_refl _) (by omega)
     exact ⟨⟨⟨h0.1, h0.2.1⟩, h0.2.2⟩, fun j h1 h2 => h j (by omega) (by omega)⟩
theorem mcR_full (f : List (List Int)) : mcR f f.length 0 = mayCnfB f := by
 rw [Bool.eq_iff_iff, mcR_iff]
 unfold mayCnfB
 rw [Bool.and_eq_true, decide_eq_true_eq, List.all_eq_true]
 constructor
 · intro h
   refine ⟨?_, fun k hk => ?_⟩
   · rcases Nat.eq_zero_or_pos f.length with h0 | h0
     · omega
     · have := (h (f.length - 1) (by omega) (by omega)).1; omega
   · have hk' : k < f.length := by simpa using hk
     have := h k (by omega) (by omega)
     rw [Bool.and_eq_true, decide_eq_true_eq]
     exact ⟨this.2.1, this.2.2⟩
 · rintro ⟨h1, h2⟩ j _ h4
   have := h2 j (by simpa using h4)
   rw [Bool.and_eq_true, decide_eq_true_eq] at this
   exact ⟨by omega, this.1, this.2⟩
theorem MayCnf_l0 (f : List (List Int)) (h64 : All64L f) (hb : f.length ≤ 9223372036854775807) (ht : total f ≤ 9223372036854775807) :
 ∀ n i, i + n = f.length → Evn (fun k => skolemref01_MayCnf.l0 k f (lens f i : Int) (i : Int)) (mcR f n i) := by
 intro n
 induction n with
 | zero =>
   intro i hi
   exact Evn.succ (g' := fun _ => some true) (fun k => by rw [skolemref01_MayCnf.l0, if_neg (by omega)]) (Evn.ret _)
 | succ n ih =>
   intro i hi
   have hil : i < f.length := by omega
   have hls := lens_succ f i hil
   have hle := lens_le f (i + 1)
   have h1 : rd_L1 f (i : Int) = f[i] := by simp [rd_L1, hil]
   have hfl : f[i].length ≤ 9223372036854775807 := by omega
   refine Evn.succ (fun k => by rw [skolemref01_MayCnf.l0]) ?_
   refine Evn.pos (by omega) (Evn.pos (by omega) ?_)
   have hnext := ih (i + 1) (by omega)
   rw [h1, wrap64_nat (by omega), wrap64_id (by omega) (by omega), show ((lens f i : Nat) : Int) + (f[i].length : Int) = ((lens f (i + 1) : Nat) : Int) by omega, mcR, getD_of f i hil]
   by_cases c1 : i < 20000
   · rw [decide_eq_true c1, Bool.true_and]
     refine Evn.neg (by omega) ?_
     by_cases c2 : lens f (i + 1) ≤ 200000
     · rw [decide_eq_true c2, Bool.true_and]
       refine Evn.neg (by omega) (Evn.bind (May_f f[i] (h64 _ (List.getElem_mem hil)) hfl) ?_)
       by_cases c3 : mayB f[i] = true
       · rw [c3, Bool.true_and]; exact Evn.pos rfl hnext
       · exact Evn.neg c3 ((Evn.ret _).to (by rw [show mayB f[i] = false by simpa using c3]; rfl))
     · exact Evn.pos (by omega) ((Evn.ret _).to (by rw [decide_eq_false c2]; rfl))
   · exact Evn.pos (by omega) ((Evn.ret _).to (by rw [decide_eq_false c1]; rfl))
theorem MayCnf_f (f : List (List Int)) (h64 : All64L f) (hb : f.length ≤ 9223372036854775807) (ht : total f ≤ 9223372036854775807) : Evn (fun k => skolemref01_MayCnf.f k f) (mayCnfB f) := by
 unfold skolemref01_MayCnf.f
 exact (MayCnf_l0 f h64 hb ht f.length 0 (by omega)).to (mcR_full f)
end Go.Proofs.YtjecjaihficcdaaGreat.PEquivNext
namespace Go.Proofs.YtjecjaihficcdaaGreat
open Go.RowKit Go.Proofs.YtjecjaihficcdaaGreatW.PrintWords
theorem refMayCnf_any (f : List (List Int)) (u : Value) (w : World) (k64 : All64L f) (kr : RLL w u f) (ht : total f ≤ 9223372036854775807) : Calls Tryz.prog 27 #[u] w fun e w' => e = .returned (.bool (mayCnfB f)) ∧ Ext w w' := by
 obtain ⟨K, hK⟩ := PEquivNext.MayCnf_f f k64 kr.max.1 ht
 obtain ⟨B, d, rfl, k1, k2⟩ := kr.kd
 refine (PEquivNext.skolemref01_MayCnf.calls K B d f _ w k2 k1 (hK K (Nat.le_refl _))).mono ?_
 rintro e w' ⟨rfl, hd⟩
 exact ⟨rfl, drawn_ext hd⟩
end Go.Proofs.YtjecjaihficcdaaGreat
namespace Go.Proofs.YtjecjaihficcdaaGreat
open Go.RowKit
section
variable {P : Program} {ops : Array Oper} {a : Act} {w : World} {o : Oper} {R : World → Value → Prop} {V : Nat → World → Value → Prop}
theorem st_loadI {ty : TypeId} {k : IntKind} {s : Tmp} {ad : Addr} {v : Value} (hg : Region.wanted o (yielded ops a.tmps) = true) (ho : o.op = .load ty (.tmp s)) (hu : P.underlying ty = some (.int k)) (hs : a.tmps[s]? = some (.pointer (some ad))) (hc : w.cell? ad = some v) (hR : R w v) : OpOk P ops a o w R := by
 refine ok_val hg v w ?_ (Ext.refl w) hR
 unfold execOp
 simp [ho, hs, go_sem, hc, isAgg, run_underlying hu]
end
end Go.Proofs.YtjecjaihficcdaaGreat
