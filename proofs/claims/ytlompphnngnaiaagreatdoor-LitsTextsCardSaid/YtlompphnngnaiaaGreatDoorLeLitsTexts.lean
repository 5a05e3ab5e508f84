/- Words for the reference's functions as printed: what holds from some number on; how rows are read. What the functions of the reference, as printed, come to. number, Text and Read of the reference, as printed: what they come to. The walk of the law LitsTexts. -/
import Derived.Test.YtlompphnngnaiaaGreatDoorWWords
import Derived.Test.YtlompphnngnaiaaGreatDoorWLast
import Derived.Test.YtlompphnngnaiaaGreatDoorWTab
import Derived.Test.YtlompphnngnaiaaGreatDoorWFour
import Derived.Test.YtlompphnngnaiaaGreatDoorWQPut
import Derived.Test.YtlompphnngnaiaaGreatDoorWApart
import Derived.Test.YtlompphnngnaiaaGreatDoorWArr
import Derived.Test.YtlompphnngnaiaaGreatDoorWZeros
import Derived.Test.YtlompphnngnaiaaGreatDoorWFoot
import Derived.Test.YtlompphnngnaiaaGreatDoorWKept
import Derived.Test.YtlompphnngnaiaaGreatDoorWShare
import Derived.Test.YtlompphnngnaiaaGreatDoorWN
import Derived.Test.YtlompphnngnaiaaGreatDoorWFootNe
import Derived.Test.YtlompphnngnaiaaGreatDoorWAt
import Derived.Test.YtlompphnngnaiaaGreatDoorWEqStruct
import Derived.Test.YtlompphnngnaiaaGreatDoorWRepsOne
import Derived.Test.YtlompphnngnaiaaGreatDoorWInv
import Derived.Test.YtlompphnngnaiaaGreatDoorWInvWords
import Derived.Test.YtlompphnngnaiaaGreatDoorWGuard
import Derived.Test.YtlompphnngnaiaaGreatDoorWNEv
import Derived.Test.YtlompphnngnaiaaGreatDoorWMore
import Derived.IntWalk
import Derived.Test.YtlompphnngnaiaaGreatDoorLb
import Derived.Test.YtlompphnngnaiaaGreatDoorPLitsTextsx10
import Derived.Test.YtlompphnngnaiaaGreatDoorPLitsTextsx11
import Derived.Test.YtlompphnngnaiaaGreatDoorLc
import Derived.Test.YtlompphnngnaiaaGreatDoorLa
import Derived.Test.YtlompphnngnaiaaGreatDoorLd
namespace Go.Proofs.YtlompphnngnaiaaGreatDoor
open Go.RowKit Go.Proofs.YtlompphnngnaiaaGreatDoorW.PrintWords

/-- From some number on, a function of a number gives v. -/
def Evn {α : Type} (g : Nat → Option α) (v : α) : Prop := ∃ K, ∀ k, K ≤ k → g k = some v
section
variable {α β : Type}
theorem Evn.ret (v : α) : Evn (fun _ => some v) v := ⟨0, fun _ _ => rfl⟩
theorem Evn.of_eq {g : Nat → Option α} {v : α} (h : ∀ k, g k = some v) : Evn g v := ⟨0, fun k _ => h k⟩
theorem Evn.succ {g g' : Nat → Option α} {v : α} (h : ∀ k, g (k + 1) = g' k) (e : Evn g' v) : Evn g v := by
  obtain ⟨K, hK⟩ := e
  refine ⟨K + 1, fun k hk => ?_⟩
  obtain ⟨m, rfl⟩ : ∃ m, k = m + 1 := ⟨k - 1, by omega⟩
  rw [h, hK m (by omega)]
theorem Evn.bind {g : Nat → Option α} {h : Nat → α → Option β} {a : α} {b : β} (e : Evn g a) (e' : Evn (fun k => h k a) b) : Evn (fun k => (g k).bind (h k)) b := by
  obtain ⟨K, hK⟩ := e
  obtain ⟨L, hL⟩ := e'
  refine ⟨K + L, fun k hk => ?_⟩
  dsimp only
  rw [hK k (by omega)]
  exact hL k (by omega)
theorem Evn.pos {c : Prop} [Decidable c] {g h : Nat → Option α} {v : α} (hc : c) (e : Evn g v) : Evn (fun k => if c then g k else h k) v := by
  obtain ⟨K, hK⟩ := e
  exact ⟨K, fun k hk => by dsimp only; rw [if_pos hc]; exact hK k hk⟩
theorem Evn.neg {c : Prop} [Decidable c] {g h : Nat → Option α} {v : α} (hc : ¬ c) (e : Evn h v) : Evn (fun k => if c then g k else h k) v := by
  obtain ⟨K, hK⟩ := e
  exact ⟨K, fun k hk => by dsimp only; rw [if_neg hc]; exact hK k hk⟩
theorem Evn.to {g : Nat → Option α} {v w : α} (e : Evn g v) (h : v = w) : Evn g w := h ▸ e
end

theorem wrap64_nat {i : Nat} (h : (i : Int) + 1 ≤ 9223372036854775807) : wrap64 ((i : Int) + 1) = ((i + 1 : Nat) : Int) := by
  unfold wrap64; omega

theorem dec_cons {α : Type} [DecidableEq α] {x y : α} {xs ys : List α} (h : x = y) : decide (xs = ys) = decide (x :: xs = y :: ys) := by
  subst h
  rw [decide_eq_decide]
  exact ⟨fun h => by rw [h], fun h => by injection h⟩
theorem dec_cons_ne {α : Type} [DecidableEq α] {x y : α} {xs ys : List α} (h : ¬ x = y) : false = decide (x :: xs = y :: ys) := by
  symm
  rw [decide_eq_false_iff_not]
  intro e
  injection e with e _
  exact h e

theorem rd_nat (xs : List Int) (i : Nat) (hi : i < xs.length) : rd xs (i : Int) = xs[i] := by simp [rd, hi]

/-- A row of integers, as the printed words read it. -/
theorem RI.kd {w : World} {v : Value} {xs : List Int} (h : RI w v xs) : ∃ A c, v = .slice A xs.length c ∧ xs.length ≤ c ∧ Kd.C (Kd.int .i64) w A xs.length xs := by
  obtain ⟨A, c, rfl, h1, h2, h3⟩ := h
  refine ⟨A, c, rfl, h1, rfl, h2, fun h0 => ?_⟩
  obtain ⟨ad, rfl, -⟩ := h3.int 0 h0
  refine ⟨ad, rfl, fun j p hp => ?_⟩
  obtain ⟨hj, rfl⟩ := List.getElem?_eq_some_iff.1 hp
  obtain ⟨ad', had, hc⟩ := h3.int j hj
  cases had
  refine ⟨[.int .i64 xs[j]], rfl, rfl, fun i u hu => ?_⟩
  obtain ⟨hi, rfl⟩ := List.getElem?_eq_some_iff.1 hu
  have hi' : i < 1 := hi
  have : i = 0 := by omega
  subst this
  show w.cell? (ad.add (j * 1 + 0)) = _
  rw [Nat.mul_one, Nat.add_zero]; exact hc
theorem kd_RI {w : World} {A : Option Addr} {c : Nat} {xs : List Int} (h : Kd.C (Kd.int .i64) w A xs.length xs) (hc : xs.length ≤ c) : RI w (.slice A xs.length c) xs := by
  obtain ⟨-, h2, h3⟩ := h
  refine ⟨A, c, rfl, hc, h2, fun j hj => ?_⟩
  rw [List.length_map] at hj
  obtain ⟨ad, rfl, hh⟩ := h3 (by omega)
  obtain ⟨cs, h4, h5, h6⟩ := hh j xs[j] (List.getElem?_eq_getElem hj)
  have h5' : cs = [.int .i64 xs[j]] := h5
  have := h6 0 (.int .i64 xs[j]) (by rw [h5']; rfl)
  refine ⟨ad, rfl, ?_⟩
  rw [show (Kd.int .i64).sz = 1 from rfl, Nat.mul_one, Nat.add_zero] at this
  rw [List.getElem_map]; exact this
theorem RLL.kd {w : World} {v : Value} {f : List (List Int)} (h : RLL w v f) : ∃ A c, v = .slice A f.length c ∧ f.length ≤ c ∧ Kd.C (Kd.slice 3 (Kd.int .i64)) w A f.length f := by
  obtain ⟨A, c, vs, rfl, h1, h2, h3, h4, h5⟩ := h
  refine ⟨A, c, by rw [h4], by omega, rfl, by omega, fun h0 => ?_⟩
  obtain ⟨ad, rfl, -⟩ := h3 0 (by omega)
  refine ⟨ad, rfl, fun j p hp => ?_⟩
  obtain ⟨hj, rfl⟩ := List.getElem?_eq_some_iff.1 hp
  obtain ⟨ad', had, hc⟩ := h3 j (by omega)
  cases had
  obtain ⟨A', c', hv, hl, hC⟩ := (h5 j (by omega) hj).kd
  refine ⟨[vs[j]], rfl, ⟨A', c', by rw [hv], hl, hC⟩, fun i u hu => ?_⟩
  obtain ⟨hi, rfl⟩ := List.getElem?_eq_some_iff.1 hu
  have hi' : i < 1 := hi
  have : i = 0 := by omega
  subst this
  show w.cell? (ad.add (j * 1 + 0)) = _
  rw [Nat.mul_one, Nat.add_zero]; exact hc
theorem RI.max {w : World} {v : Value} {xs : List Int} (h : RI w v xs) : xs.length ≤ 9223372036854775807 := by obtain ⟨A, c, h1, h2, h3, h4⟩ := h; exact h3
theorem RLL.max {w : World} {v : Value} {f : List (List Int)} (h : RLL w v f) : f.length ≤ 9223372036854775807 ∧ ∀ j (hj : j < f.length), f[j].length ≤ 9223372036854775807 := by
  obtain ⟨A, c, vs, rfl, h1, h2, h3, h4, h5⟩ := h
  exact ⟨by omega, fun j hj => (h5 j (by omega) hj).max⟩
theorem drawn_ext {w w' : World} (h : Drawn0 w w') : Ext w w' := by
  obtain ⟨⟨n, rfl⟩⟩ := h
  exact Ext.drewN w n
theorem wrap64_id {x : Int} (h0 : -9223372036854775808 ≤ x) (h1 : x ≤ 9223372036854775807) : wrap64 x = x := by unfold wrap64; omega

/-- A row of rows of the reference's own reads. -/
theorem kdC_RLL {w : World} {v : Value} {f : List (List Int)} (h : ∃ A c, v = .slice A f.length c ∧ f.length ≤ c ∧ Kd.C (Kd.slice 3 (Kd.int .i64)) w A f.length f) : RLL w v f := by
  obtain ⟨A, c, rfl, h1, -, h2, h3⟩ := h
  rcases Nat.eq_zero_or_pos f.length with h0 | h0
  · have : f = [] := List.length_eq_zero_iff.1 h0
    subst this
    exact ⟨A, c, [], rfl, Nat.zero_le _, by simp, fun j hj => by simp at hj, rfl, fun j hj => by simp at hj⟩
  · obtain ⟨ad, rfl, hh⟩ := h3 h0
    have hex : ∀ j (hj : j < f.length), ∃ u, w.cell? (ad.add j) = some u ∧ RI w u f[j] := fun j hj => by
      obtain ⟨cs, h4, ⟨A', c', h5, h6, h7⟩, h8⟩ := hh j f[j] (List.getElem?_eq_getElem hj)
      have := h8 0 (.slice A' f[j].length c') (by rw [h5]; rfl)
      have h9 : w.cell? (ad.add (j * 1 + 0)) = some (.slice A' f[j].length c') := this
      rw [Nat.mul_one, Nat.add_zero] at h9
      exact ⟨_, h9, kd_RI h7 h6⟩
    let vs := List.ofFn fun j : Fin f.length => Classical.choose (hex j.1 j.2)
    have hvl : vs.length = f.length := by simp [vs]
    have hvg : ∀ j (hj : j < vs.length) (hj' : j < f.length), w.cell? (ad.add j) = some vs[j] ∧ RI w vs[j] f[j] := fun j hj hj' => by
      have := Classical.choose_spec (hex j hj')
      simp only [vs, List.getElem_ofFn]
      exact this
    refine ⟨some ad, c, vs, by rw [hvl], by omega, by omega, fun j hj => ⟨ad, rfl, (hvg j hj (by omega)).1⟩, hvl, fun j hj hj' => (hvg j hj hj').2⟩

theorem kd_RLL {w : World} {base : Nat} {ok : Nat → Prop} {v : Value} {f : List (List Int)} (h : Kd.S (Kd.slice 3 (Kd.int .i64)) 22 w base ok v f) : RLL w v f := kdC_RLL (Kd.S_reads h)
theorem kdN_RLL {w : World} {base : Nat} {ok : Nat → Prop} {v : Value} {f : List (List Int)} (h : Kd.N (Kd.slice 3 (Kd.int .i64)) 22 w base ok v f) : RLL w v f := kdC_RLL (Kd.N_reads h)
theorem kdR_RI {w : World} {base : Nat} {ok : Nat → Prop} {v : Value} {xs : List Int} (h : Kd.R (Kd.int .i64) 3 w base ok v xs) : RI w v xs := by
  obtain ⟨A, c, rfl, h1, h2⟩ := Kd.R_reads h
  exact kd_RI h2 h1
theorem kdV_RI {w : World} {base : Nat} {ok : Nat → Prop} {v : Value} {xs : List Int} (h : Kd.V (Kd.int .i64) 3 w base ok v xs) : RI w v xs := by
  obtain ⟨A, c, rfl⟩ := Kd.V_slice h
  obtain ⟨h1, h2, h3⟩ := Kd.V_reads' h
  exact kd_RI h3 h2
end Go.Proofs.YtlompphnngnaiaaGreatDoor
namespace Go.Proofs.YtlompphnngnaiaaGreatDoor.PLitsTexts
open Go.RowKit Go.Proofs.YtlompphnngnaiaaGreatDoorW.PrintWords

theorem size_f (x : Int) (h : I64 x) : skolemref01_size.f x = some ((x.natAbs : Nat) : Int) := by
  obtain ⟨h0, h1⟩ := h
  unfold skolemref01_size.f
  by_cases hx : x < 0
  · rw [if_pos hx, wrap64_id (x := x + 1) (by omega) (by omega), wrap64_id (by omega) (by omega), IntWalk.u64_in (-(x + 1)) ⟨by omega, by omega⟩, IntWalk.u64_in _ ⟨by omega, by omega⟩]
    congr 1; omega
  · rw [if_neg hx, IntWalk.u64_in _ ⟨by omega, by omega⟩]
    congr 1; omega
theorem literal_f (x : Int) (h : I64 x) : skolemref01_literal.f x = some (decide (varOf x ≠ 0)) := by
  unfold skolemref01_literal.f
  by_cases hx : x = 0
  · subst hx; rfl
  · rw [if_neg hx, size_f x h]
    show some _ = _
    congr 1
    rw [decide_eq_decide]
    unfold varOf
    split <;> omega
theorem Var_f (x : Int) (h : I64 x) : skolemref01_Var.f x = some (varOf x) := by
  unfold skolemref01_Var.f
  rw [literal_f x h]
  show (if decide (varOf x ≠ 0) = true then _ else _) = _
  by_cases hv : varOf x = 0
  · rw [if_neg (by simpa using hv), hv]
  · rw [if_pos (by simpa using hv), size_f x h]
    have := varOf_eq hv
    have := varOf_range x
    show some (wrap64 _) = _
    rw [wrap64_id (by omega) (by omega)]
    congr 1; omega

theorem May_l0 (xs : List Int) (h64 : All64 xs) (hb : xs.length ≤ 9223372036854775807) : ∀ n i, i + n = xs.length → Evn (fun k => skolemref01_May.l0 k xs (i : Int)) (mayFrom (if i = 0 then 0 else varOf (xs.getD (i - 1) 0)) (xs.drop i)) := by
  intro n
  induction n with
  | zero =>
    intro i hi
    refine Evn.succ (g' := fun _ => some true) (fun k => ?_) ((Evn.ret _).to ?_)
    · rw [skolemref01_May.l0, if_neg (by omega)]
    · rw [List.drop_eq_nil_of_le (by omega)]; rfl
  | succ n ih =>
    intro i hi
    have hil : i < xs.length := by omega
    have hm := h64 _ (List.getElem_mem hil)
    have hvr := varOf_range xs[i]
    refine Evn.succ (fun k => by rw [skolemref01_May.l0]) ?_
    refine Evn.pos (by omega) (Evn.pos (by omega) ?_)
    rw [rd_nat xs i hil, wrap64_nat (by omega), List.drop_eq_getElem_cons hil, mayFrom]
    refine Evn.bind (Evn.of_eq fun _ => literal_f _ hm) ?_
    have hnext := ih (i + 1) (by omega)
    rw [if_neg (by omega), show i + 1 - 1 = i by omega, show xs.getD i 0 = xs[i] by simp [hil]] at hnext
    by_cases hv : varOf xs[i] = 0
    · refine Evn.neg (by simpa using hv) ((Evn.ret _).to ?_)
      rw [if_pos]
      split
      · omega
      · have := varOf_range (xs.getD (i - 1) 0); omega
    · refine Evn.pos (by simpa using hv) ?_
      by_cases h0 : i = 0
      · subst h0
        refine Evn.neg (by omega) (hnext.to ?_)
        rw [if_neg (show ¬ varOf xs[0] ≤ (if (0 : Nat) = 0 then (0 : Int) else varOf (xs.getD (0 - 1) 0)) by rw [if_pos rfl]; omega)]
      · have hi1 : i - 1 < xs.length := by omega
        have e1 : wrap64 ((i : Int) - 1) = ((i - 1 : Nat) : Int) := by rw [wrap64_id (by omega) (by omega)]; omega
        have hm1 := h64 _ (List.getElem_mem hi1)
        rw [e1, rd_nat xs (i - 1) hi1, if_neg h0, show xs.getD (i - 1) 0 = xs[i - 1] by simp [hi1]]
        refine Evn.pos (by omega) (Evn.pos (by omega) (Evn.pos (by omega) ?_))
        refine Evn.bind (Evn.of_eq fun _ => Var_f _ hm1) (Evn.bind (Evn.of_eq fun _ => Var_f _ hm) ?_)
        by_cases hle : varOf xs[i] ≤ varOf xs[i - 1]
        · exact Evn.pos (by omega) ((Evn.ret _).to (by rw [if_pos hle]))
        · exact Evn.neg (by omega) (hnext.to (by rw [if_neg hle]))
theorem May_f (xs : List Int) (h64 : All64 xs) (hb : xs.length ≤ 9223372036854775807) : Evn (fun k => skolemref01_May.f k xs) (mayB xs) := by
  unfold skolemref01_May.f
  exact (May_l0 xs h64 hb xs.length 0 (by omega)).to (by rw [if_pos rfl]; rfl)
end Go.Proofs.YtlompphnngnaiaaGreatDoor.PLitsTexts
namespace Go.Proofs.YtlompphnngnaiaaGreatDoor
open Go.RowKit Go.Proofs.YtlompphnngnaiaaGreatDoorW.PrintWords
theorem refMay_any (xs : List Int) (v : Value) (w : World) (h64 : All64 xs) (hr : RI w v xs) : Calls Tryz.prog 16 #[v] w fun e w' => e = .returned (.bool (mayB xs)) ∧ Ext w w' := by
  obtain ⟨K, hK⟩ := PLitsTexts.May_f xs h64 hr.max
  obtain ⟨A, c, rfl, h1, h2⟩ := hr.kd
  refine (PLitsTexts.skolemref01_May.calls K A c xs _ w h2 h1 (hK K (Nat.le_refl _))).mono ?_
  rintro e w' ⟨rfl, hd⟩
  exact ⟨rfl, drawn_ext hd⟩

theorem ref_own {w : World} {base : Nat} {v : Value} {xs : List Int} (h : Kd.R (Kd.int .i64) 3 w base (fun _ => True) v xs) : RI w v xs := kdR_RI h
theorem refVar_any (x : Int) (w : World) (hx : I64 x) : Calls Tryz.prog 34 #[.int .i64 x] w fun e w' => e = .returned (.int .i64 (varOf x)) ∧ Ext w w' := by
  refine (PLitsTexts.skolemref01_Var.calls x _ w (PLitsTexts.Var_f x hx)).mono ?_
  rintro e w' ⟨rfl, hd⟩
  exact ⟨rfl, drawn_ext hd⟩
end Go.Proofs.YtlompphnngnaiaaGreatDoor
namespace Go.Proofs.YtlompphnngnaiaaGreatDoor.PLitsTexts
open Go.RowKit Go.Lib Go.Proofs.YtlompphnngnaiaaGreatDoorW.PrintWords

theorem bstr_app (l r : List UInt8) : bstr l ++ bstr r = bstr (l ++ r) := data_inj (by simp [bstr])
theorem bstr_size (l : List UInt8) : (bstr l).size = l.length := by simp [bstr, ByteArray.size]

theorem number_dec (u : Nat) (hu : u ≤ 65536) : Evn (fun k => skolemref01_number.f k (u : Int)) (bstr (decDigits u)) := by
  induction u using Nat.strongRecOn with
  | _ u ih =>
    refine Evn.succ (fun k => by rw [skolemref01_number.f]) (Evn.neg (by omega) ?_)
    by_cases h : u < 10
    · refine Evn.pos (by omega) ((Evn.ret _).to ?_)
      rw [dec_small h, wrap64_id (by omega) (by omega)]
      have e : ((48 + (u : Int)) % 256).toNat = 48 + u := by omega
      refine data_inj ?_
      rw [strOfNums_data]
      simp only [List.map_cons, List.map_nil, e]
      rfl
    · refine Evn.neg (by omega) ?_
      have e1 : wrap64 (Int.tdiv (u : Int) 10) = ((u / 10 : Nat) : Int) := by
        rw [show Int.tdiv (u : Int) 10 = ((u / 10 : Nat) : Int) from rfl, wrap64_id (by omega) (by omega)]
      have e2 : Int.tmod (u : Int) 10 = ((u % 10 : Nat) : Int) := rfl
      rw [e1, e2]
      refine Evn.bind (ih (u / 10) (by omega) (by omega)) (Evn.bind (ih (u % 10) (by omega) (by omega)) ?_)
      have l1 := dec_len (u / 10) (by omega)
      have l2 := dec_len (u % 10) (by omega)
      refine Evn.pos (by rw [bstr_size, bstr_size]; omega) ((Evn.ret _).to ?_)
      rw [bstr_app, dec_small (show u % 10 < 10 by omega), dec_big h]
theorem number_f (x : Int) (hx : x.natAbs ≤ 65536) : Evn (fun k => skolemref01_number.f k x) (bstr (itoa x)) := by
  rcases itoa_cases x with ⟨h0, e⟩ | ⟨h0, e⟩
  · rw [e]
    have e1 : wrap64 (-x) = ((x.natAbs : Nat) : Int) := by rw [wrap64_id (by omega) (by omega)]; omega
    refine Evn.succ (fun k => by rw [skolemref01_number.f]) (Evn.pos h0 ?_)
    rw [e1]
    have l1 := dec_len x.natAbs hx
    refine Evn.bind (number_dec _ hx) (Evn.pos (by rw [bstr_size]; omega) ((Evn.ret _).to ?_))
    rw [show (⟨#[45]⟩ : ByteArray) = bstr [45] from rfl, bstr_app]; rfl
  · rw [e]
    have e1 : x = ((x.natAbs : Nat) : Int) := by omega
    have := number_dec x.natAbs hx
    rwa [← e1] at this

theorem textB_one (x : Int) : textB [x] = itoa x := by unfold textB; rw [List.map_cons, List.map_nil, join_one]
theorem textB_two (x y : Int) (r : List Int) : textB (x :: y :: r) = itoa x ++ 32 :: textB (y :: r) := by unfold textB; rw [List.map_cons, List.map_cons, join_two]
theorem textB_snoc (x : Int) : ∀ ys : List Int, ys ≠ [] → textB (ys ++ [x]) = textB ys ++ 32 :: itoa x
  | [], h => absurd rfl h
  | [y], _ => by rw [List.singleton_append, textB_two, textB_one, textB_one]
  | y :: z :: r, _ => by
    have ih := textB_snoc x (z :: r) (by simp)
    rw [List.cons_append, List.cons_append, textB_two, ← List.cons_append, ih, textB_two, List.append_assoc, List.cons_append]

theorem Text_l0 (xs : List Int) (hs : ∀ x ∈ xs, x.natAbs ≤ 65536) (hb : xs.length ≤ 1000000) : ∀ n i, i + n = xs.length → Evn (fun k => skolemref01_Text.l0 k xs (bstr (textB (xs.take i))) (i : Int)) (bstr (textB xs), 0) := by
  intro n
  induction n with
  | zero =>
    intro i hi
    exact Evn.succ (g' := fun _ => some (bstr (textB xs), 0)) (fun k => by rw [skolemref01_Text.l0, if_neg (by omega), List.take_of_length_le (by omega)]) (Evn.ret _)
  | succ n ih =>
    intro i hi
    have hil : i < xs.length := by omega
    have hx := hs _ (List.getElem_mem hil)
    have hl := textB_len (xs := xs.take i) (fun y hy => hs y (List.mem_of_mem_take hy))
    rw [List.length_take] at hl
    have hl2 := itoa_len hx
    have hnext := ih (i + 1) (by omega)
    refine Evn.succ (fun k => by rw [skolemref01_Text.l0]) (Evn.pos (by omega) ?_)
    rw [List.take_succ_eq_append_getElem hil] at hnext
    by_cases h0 : i = 0
    · subst h0
      refine Evn.neg (by omega) (Evn.pos (by omega) ?_)
      rw [rd_nat xs 0 hil, wrap64_nat (by omega)]
      refine Evn.bind (number_f _ hx) (Evn.pos (by rw [bstr_size, bstr_size]; omega) ?_)
      rw [bstr_app, show textB (xs.take 0) ++ itoa xs[0] = textB (xs.take 0 ++ [xs[0]]) by rw [List.take_zero, List.nil_append, textB_one]; rfl]
      exact hnext
    · refine Evn.pos (by omega) (Evn.pos (by rw [bstr_size]; omega) (Evn.pos (by omega) ?_))
      rw [rd_nat xs i hil, wrap64_nat (by omega)]
      have hne : xs.take i ≠ [] := fun e => by
        have := congrArg List.length e
        rw [List.length_take, List.length_nil] at this
        omega
      have e32 : bstr (textB (xs.take i)) ++ (⟨#[32]⟩ : ByteArray) = bstr (textB (xs.take i) ++ [32]) := bstr_app _ [32]
      rw [e32]
      refine Evn.bind (number_f _ hx) (Evn.pos (by rw [bstr_size, bstr_size, List.length_append, List.length_singleton]; omega) ?_)
      rw [bstr_app, show textB (xs.take i) ++ [32] ++ itoa xs[i] = textB (xs.take i ++ [xs[i]]) by rw [textB_snoc _ _ hne, List.append_assoc]; rfl]
      exact hnext
theorem Text_f (xs : List Int) (h64 : All64 xs) (hb : xs.length ≤ 9223372036854775807) : Evn (fun k => skolemref01_Text.f k xs) (bstr (TextV xs).1, (TextV xs).2) := by
  unfold skolemref01_Text.f TextV
  refine Evn.bind (May_f xs h64 hb) ?_
  by_cases hm : mayB xs = true
  · rw [if_pos hm]
    have h1 := may_len hm
    exact Evn.pos hm (Text_l0 xs (fun x hx => lit_small (((mayB_iff xs).1 hm).2 x hx)) (by omega) xs.length 0 (by omega))
  · rw [if_neg hm]
    exact Evn.neg hm (Evn.ret _)

def Good (s : ByteArray) (R : List Int × Int) : Prop := R = ([], 5) ∨ ∃ l, R = (l, 0) ∧ mayB l = true ∧ textB l = s.data.toList

theorem Read_end (s : ByteArray) (acc : List Int) (i : Nat) (hi : s.size ≤ i) (a64 : All64 acc) (hb : acc.length ≤ 2000000) : ∃ R, Evn (fun k => skolemref01_Read.l0 k s acc (i : Int)) R ∧ Good s R ∧ (mayB acc = true → textB acc = s.data.toList → R = (acc, 0)) := by
  have ht := Text_f acc a64 (by omega)
  by_cases hm : mayB acc = true
  · have e : TextV acc = (textB acc, 0) := by unfold TextV; rw [if_pos hm]
    rw [e] at ht
    by_cases hs : textB acc = s.data.toList
    · refine ⟨(acc, 0), Evn.succ (fun k => by rw [skolemref01_Read.l0]) (Evn.neg (by omega) (Evn.bind ht (Evn.pos rfl (Evn.pos ?_ (Evn.ret _))))), .inr ⟨acc, rfl, hm, hs⟩, fun _ _ => rfl⟩
      rw [ByteArray.toList_eq, ByteArray.toList_eq]
      exact hs
    · refine ⟨([], 5), Evn.succ (fun k => by rw [skolemref01_Read.l0]) (Evn.neg (by omega) (Evn.bind ht (Evn.pos rfl (Evn.neg ?_ (Evn.ret _))))), .inl rfl, fun _ h => absurd h hs⟩
      rw [ByteArray.toList_eq, ByteArray.toList_eq]
      exact hs
  · have e : TextV acc = ([], 2) := by unfold TextV; rw [if_neg hm]
    rw [e] at ht
    refine ⟨([], 5), Evn.succ (fun k => by rw [skolemref01_Read.l0]) (Evn.neg (by omega) (Evn.bind ht (Evn.neg ?_ (Evn.ret _)))), .inl rfl, fun h => absurd h hm⟩
    show ¬ (2 : Int) = 0
    decide

theorem Read_l1 (s : ByteArray) (hs : s.size ≤ 1000000) (acc : List Int) (i : Nat) (hal : acc.length ≤ i) (sg : Int) (hsg : sg = 1 ∨ sg = -1)
    (HN : ∀ (i' : Nat) (y : Int), i < i' → i' ≤ s.size + 1 → I64 y → ∃ R, Evn (fun k => skolemref01_Read.l0 k s (acc ++ [y]) (i' : Int)) R ∧ Good s R) :
    ∀ (m j : Nat) (n : Int), j + m = s.size → i ≤ j → 0 ≤ n → n ≤ 655370 → ∃ R, Evn (fun k => skolemref01_Read.l1 k s acc (j : Int) sg n) R ∧ Good s R := by
  intro m
  induction m with
  | zero =>
    intro j n hj hij h0 h1
    have hy : I64 (wrap64 (sg * n)) := by
      rw [wrap64_id (by rcases hsg with rfl | rfl <;> omega) (by rcases hsg with rfl | rfl <;> omega)]
      unfold I64
      rcases hsg with rfl | rfl <;> omega
    obtain ⟨R, hR, hg⟩ := HN (j + 1) _ (by omega) (by omega) hy
    refine ⟨R, Evn.succ (fun k => by rw [skolemref01_Read.l1]) (Evn.neg (by omega) (Evn.pos (by omega) ?_)), hg⟩
    rw [wrap64_nat (by omega)]
    exact hR
  | succ m ih =>
    intro j n hj hij h0 h1
    have hy : I64 (wrap64 (sg * n)) := by
      rw [wrap64_id (by rcases hsg with rfl | rfl <;> omega) (by rcases hsg with rfl | rfl <;> omega)]
      unfold I64
      rcases hsg with rfl | rfl <;> omega
    have tail : ∃ R, Evn (fun k => if acc.length < 17592186044416 then (if (bt s (j : Int)) = 32 then (skolemref01_Read.l0 k s (acc ++ [wrap64 (sg * n)]) (wrap64 ((j : Int) + 1))) else (some (([] : List Int), (5 : Int)))) else (none)) R ∧ Good s R := by
      by_cases h32 : bt s (j : Int) = 32
      · obtain ⟨R, hR, hg⟩ := HN (j + 1) _ (by omega) (by omega) hy
        refine ⟨R, Evn.pos (by omega) (Evn.pos h32 ?_), hg⟩
        rw [wrap64_nat (by omega)]
        exact hR
      · exact ⟨([], 5), Evn.pos (by omega) (Evn.neg h32 (Evn.ret _)), .inl rfl⟩
    obtain ⟨R0, hR0, hg0⟩ := tail
    by_cases c1 : bt s (j : Int) ≥ 48
    · by_cases c2 : bt s (j : Int) ≤ 57
      · by_cases c3 : n ≤ 65536
        · obtain ⟨R, hR, hg⟩ := ih (j + 1) (10 * n + (bt s (j : Int) - 48)) (by omega) (by omega) (by omega) (by omega)
          refine ⟨R, Evn.succ (fun k => by rw [skolemref01_Read.l1]) (Evn.pos (by omega) (Evn.pos (by omega) (Evn.pos c1 (Evn.pos c2 (Evn.pos c3 ?_))))), hg⟩
          rw [wrap64_nat (by omega), show (bt s (j : Int) - 48) % 256 = bt s (j : Int) - 48 by omega, wrap64_id (x := 10 * n) (by omega) (by omega), wrap64_id (by omega) (by omega)]
          exact hR
        · exact ⟨R0, Evn.succ (fun k => by rw [skolemref01_Read.l1]) (Evn.pos (by omega) (Evn.pos (by omega) (Evn.pos c1 (Evn.pos c2 (Evn.neg c3 hR0))))), hg0⟩
      · exact ⟨R0, Evn.succ (fun k => by rw [skolemref01_Read.l1]) (Evn.pos (by omega) (Evn.pos (by omega) (Evn.pos c1 (Evn.neg c2 hR0)))), hg0⟩
    · exact ⟨R0, Evn.succ (fun k => by rw [skolemref01_Read.l1]) (Evn.pos (by omega) (Evn.pos (by omega) (Evn.neg c1 hR0))), hg0⟩
theorem Read_all (s : ByteArray) (hs : s.size ≤ 1000000) : ∀ (n i : Nat) (acc : List Int), s.size + 1 - i ≤ n → i ≤ s.size + 1 → All64 acc → acc.length ≤ i → ∃ R, Evn (fun k => skolemref01_Read.l0 k s acc (i : Int)) R ∧ Good s R := by
  intro n
  induction n with
  | zero =>
    intro i acc hn hi ha hl
    obtain ⟨R, h1, h2, -⟩ := Read_end s acc i (by omega) ha (by omega)
    exact ⟨R, h1, h2⟩
  | succ n ih =>
    intro i acc hn hi ha hl
    by_cases hlt : i < s.size
    · have HN : ∀ (i' : Nat) (y : Int), i < i' → i' ≤ s.size + 1 → I64 y → ∃ R, Evn (fun k => skolemref01_Read.l0 k s (acc ++ [y]) (i' : Int)) R ∧ Good s R := fun i' y h1 h2 hy =>
        ih i' (acc ++ [y]) (by omega) h2 (fun z hz => (List.mem_append.1 hz).elim (ha z) (fun h => by rw [List.mem_singleton.1 h]; exact hy)) (by simp; omega)
      by_cases h45 : bt s (i : Int) = 45
      · obtain ⟨R, hR, hg⟩ := Read_l1 s hs acc i hl (-1) (.inr rfl) HN (s.size - (i + 1)) (i + 1) 0 (by omega) (by omega) (by omega) (by omega)
        refine ⟨R, Evn.succ (fun k => by rw [skolemref01_Read.l0]) (Evn.pos (by omega) (Evn.pos (by omega) (Evn.pos h45 ?_))), hg⟩
        rw [wrap64_nat (by omega)]
        exact Evn.succ (fun k => by rw [skolemref01_Read.j1]) hR
      · obtain ⟨R, hR, hg⟩ := Read_l1 s hs acc i hl 1 (.inl rfl) HN (s.size - i) i 0 (by omega) (by omega) (by omega) (by omega)
        exact ⟨R, Evn.succ (fun k => by rw [skolemref01_Read.l0]) (Evn.pos (by omega) (Evn.pos (by omega) (Evn.neg h45 (Evn.succ (fun k => by rw [skolemref01_Read.j1]) hR)))), hg⟩
    · obtain ⟨R, h1, h2, -⟩ := Read_end s acc i (by omega) ha (by omega)
      exact ⟨R, h1, h2⟩

theorem bt_at (s : ByteArray) (j : Nat) (hj : j < s.size) : bt s (j : Int) = ((s.data.toList[j]'(by simpa using hj)).toNat : Int) := by
  unfold bt
  rw [dif_pos (by simpa using hj)]
  simp
  rfl
theorem bt_drop {s : ByteArray} {j : Nat} {c : UInt8} {r : List UInt8} (h : s.data.toList.drop j = c :: r) : j < s.size ∧ bt s (j : Int) = (c.toNat : Int) ∧ s.data.toList.drop (j + 1) = r := by
  have hj : j < s.data.toList.length := by
    rcases Nat.lt_or_ge j s.data.toList.length with h1 | h1
    · exact h1
    · rw [List.drop_eq_nil_of_le h1] at h; cases h
  have hj' : j < s.size := by simpa using hj
  rw [List.drop_eq_getElem_cons hj] at h
  injection h with h1 h2
  exact ⟨hj', by rw [bt_at s j hj', h1], h2⟩

def valD (v : Nat) (ds : List UInt8) : Nat := ds.foldl (fun v c => 10 * v + (c.toNat - 48)) v
theorem valD_mono : ∀ (ds : List UInt8) (v : Nat), v ≤ valD v ds
  | [], _ => Nat.le_refl _
  | c :: ds, v => by
    have := valD_mono ds (10 * v + (c.toNat - 48))
    show v ≤ valD (10 * v + (c.toNat - 48)) ds
    omega
theorem valD_dec (u : Nat) : valD 0 (decDigits u) = u := by
  induction u using Nat.strongRecOn with
  | _ u ih =>
    by_cases h : u < 10
    · rw [dec_small h]
      show 10 * 0 + ((UInt8.ofNat (48 + u)).toNat - 48) = u
      rw [ofNat_dgt u h]; omega
    · have := ih (u / 10) (by omega)
      unfold valD at *
      rw [dec_big h, List.foldl_append, this]
      show 10 * (u / 10) + ((UInt8.ofNat (48 + u % 10)).toNat - 48) = u
      rw [ofNat_dgt _ (by omega)]; omega

theorem Read_dig (s : ByteArray) (hs : s.size ≤ 1000000) (acc : List Int) (hal : acc.length ≤ 2000000) (sg : Int) (hsg : sg = 1 ∨ sg = -1) (tail : List UInt8) (ht : tail = [] ∨ ∃ t, tail = 32 :: t) (R : List Int × Int) :
    ∀ (ds : List UInt8) (j v : Nat), (∀ c ∈ ds, dgt c) → j ≤ s.size → s.data.toList.drop j = ds ++ tail → valD v ds ≤ 65536 → Evn (fun k => skolemref01_Read.l0 k s (acc ++ [sg * (valD v ds : Int)]) ((j + ds.length + 1 : Nat) : Int)) R → Evn (fun k => skolemref01_Read.l1 k s acc (j : Int) sg (v : Int)) R := by
  intro ds
  induction ds with
  | nil =>
    intro j v _ hjs hd hv hR
    have hv' : v ≤ 65536 := hv
    have hR' : Evn (fun k => skolemref01_Read.l0 k s (acc ++ [wrap64 (sg * (v : Int))]) (wrap64 ((j : Int) + 1))) R := by
      rw [wrap64_nat (by omega), wrap64_id (x := sg * (v : Int)) (by rcases hsg with rfl | rfl <;> omega) (by rcases hsg with rfl | rfl <;> omega)]
      exact hR
    rw [List.nil_append] at hd
    rcases ht with rfl | ⟨t, rfl⟩
    · have hj : s.size ≤ j := by
        have := congrArg List.length hd
        simp at this
        omega
      exact Evn.succ (fun k => by rw [skolemref01_Read.l1]) (Evn.neg (by omega) (Evn.pos (by omega) hR'))
    · obtain ⟨hj, hb, -⟩ := bt_drop hd
      have hb' : bt s (j : Int) = 32 := hb
      exact Evn.succ (fun k => by rw [skolemref01_Read.l1]) (Evn.pos (by omega) (Evn.pos (by omega) (Evn.neg (by omega) (Evn.pos (by omega) (Evn.pos hb' hR')))))
  | cons c ds ih =>
    intro j v hdg hjs hd hv hR
    rw [List.cons_append] at hd
    obtain ⟨hj, hb, hd'⟩ := bt_drop hd
    have hc : 48 ≤ c.toNat ∧ c.toNat ≤ 57 := hdg c (by simp)
    have hmv : v ≤ 65536 := Nat.le_trans (valD_mono (c :: ds) v) hv
    have hnext := ih (j + 1) (10 * v + (c.toNat - 48)) (fun z hz => hdg z (by simp [hz])) (by omega) hd' hv (by
      rw [show j + 1 + ds.length + 1 = j + (c :: ds).length + 1 by simp; omega]
      exact hR)
    refine Evn.succ (fun k => by rw [skolemref01_Read.l1]) (Evn.pos (by omega) (Evn.pos (by omega) (Evn.pos (by omega) (Evn.pos (by omega) (Evn.pos (by omega) ?_)))))
    rw [wrap64_nat (by omega), hb, show ((c.toNat : Int) - 48) % 256 = (c.toNat : Int) - 48 by omega, wrap64_id (x := 10 * (v : Int)) (by omega) (by omega), wrap64_id (by omega) (by omega), show 10 * (v : Int) + ((c.toNat : Int) - 48) = ((10 * v + (c.toNat - 48) : Nat) : Int) by omega]
    exact hnext

theorem Read_word (s : ByteArray) (hs : s.size ≤ 1000000) (acc : List Int) (hal : acc.length ≤ 1000000) (x : Int) (hx : x.natAbs ≤ 65536) (tail : List UInt8) (ht : tail = [] ∨ ∃ t, tail = 32 :: t) (R : List Int × Int) (i : Nat) (hd : s.data.toList.drop i = itoa x ++ tail)
    (hR : Evn (fun k => skolemref01_Read.l0 k s (acc ++ [x]) ((i + (itoa x).length + 1 : Nat) : Int)) R) : Evn (fun k => skolemref01_Read.l0 k s acc (i : Int)) R := by
  have hvd := valD_dec x.natAbs
  have hdg := decDigits_dgt x.natAbs
  rcases itoa_cases x with ⟨h0, e⟩ | ⟨h0, e⟩
  · rw [e] at hd hR
    rw [List.cons_append] at hd
    obtain ⟨hi, hb, hd'⟩ := bt_drop hd
    have hb' : bt s (i : Int) = 45 := hb
    refine Evn.succ (fun k => by rw [skolemref01_Read.l0]) (Evn.pos (by omega) (Evn.pos (by omega) (Evn.pos hb' ?_)))
    rw [wrap64_nat (by omega)]
    refine Evn.succ (fun k => by rw [skolemref01_Read.j1]) ?_
    refine Read_dig s hs acc (by omega) (-1) (.inr rfl) tail ht R (decDigits x.natAbs) (i + 1) 0 hdg (by omega) hd' (by rw [hvd]; exact hx) ?_
    rw [hvd, show (-1 : Int) * (x.natAbs : Int) = x by omega, show i + 1 + (decDigits x.natAbs).length + 1 = i + (45 :: decDigits x.natAbs).length + 1 by simp; omega]
    exact hR
  · rw [e] at hd hR
    obtain ⟨c, r, hc⟩ : ∃ c r, decDigits x.natAbs = c :: r := by
      cases hdd : decDigits x.natAbs with
      | nil => exact absurd hdd (decDigits_ne _)
      | cons c r => exact ⟨c, r, rfl⟩
    have hcd : 48 ≤ c.toNat ∧ c.toNat ≤ 57 := hdg c (by rw [hc]; simp)
    have hd0 := hd
    rw [hc, List.cons_append] at hd0
    obtain ⟨hi, hb, -⟩ := bt_drop hd0
    refine Evn.succ (fun k => by rw [skolemref01_Read.l0]) (Evn.pos (by omega) (Evn.pos (by omega) (Evn.neg (by omega) ?_)))
    refine Evn.succ (fun k => by rw [skolemref01_Read.j1]) ?_
    refine Read_dig s hs acc (by omega) 1 (.inl rfl) tail ht R (decDigits x.natAbs) i 0 hdg (by omega) hd (by rw [hvd]; exact hx) ?_
    rw [hvd, show (1 : Int) * (x.natAbs : Int) = x by omega]
    exact hR
theorem Read_list (s : ByteArray) (hs : s.size ≤ 1000000) (R : List Int × Int) : ∀ (xs acc : List Int) (i : Nat), xs ≠ [] → (∀ x ∈ xs, x.natAbs ≤ 65536) → s.data.toList.drop i = textB xs → acc.length + xs.length ≤ 1000000 →
    Evn (fun k => skolemref01_Read.l0 k s (acc ++ xs) ((s.size + 1 : Nat) : Int)) R → Evn (fun k => skolemref01_Read.l0 k s acc (i : Int)) R
  | [], _, _, h, _, _, _, _ => absurd rfl h
  | [x], acc, i, _, hx, hd, hl, hR => by
    rw [textB_one] at hd
    refine Read_word s hs acc (by simp at hl; omega) x (hx x (by simp)) [] (.inl rfl) R i (by rw [hd]; simp) ?_
    have hlen : i + (itoa x).length = s.size := by
      have h1 := congrArg List.length hd
      have h2 := itoa_ne x
      have h3 : (itoa x).length ≠ 0 := fun h => h2 (List.length_eq_zero_iff.1 h)
      simp at h1
      omega
    rw [hlen]
    exact hR
  | x :: y :: r, acc, i, _, hx, hd, hl, hR => by
    rw [textB_two] at hd
    refine Read_word s hs acc (by simp at hl; omega) x (hx x (by simp)) (32 :: textB (y :: r)) (.inr ⟨_, rfl⟩) R i hd ?_
    refine Read_list s hs R (y :: r) (acc ++ [x]) (i + (itoa x).length + 1) (by simp) (fun z hz => hx z (by simp at hz ⊢; exact .inr hz)) ?_ (by simp at hl ⊢; omega) (by rw [List.append_assoc]; exact hR)
    rw [show i + (itoa x).length + 1 = i + ((itoa x).length + 1) by omega, ← List.drop_drop, hd, ← List.drop_drop, List.drop_left]
    rfl

theorem Read_f (s : ByteArray) (hs : s.size ≤ 1000000) : Evn (fun k => skolemref01_Read.f k s) (ReadV s.data.toList) := by
  unfold skolemref01_Read.f
  by_cases h : ∃ l, mayB l = true ∧ textB l = s.data.toList
  · obtain ⟨l, hm, he⟩ := h
    rw [read_by hm he]
    have hsm : ∀ x ∈ l, x.natAbs ≤ 65536 := fun x hx => lit_small (((mayB_iff l).1 hm).2 x hx)
    have h64 : All64 l := fun x hx => by have := hsm x hx; unfold I64; omega
    have hml := may_len hm
    by_cases hne : l = []
    · subst hne
      have h0 : s.size = 0 := by
        have := congrArg List.length he
        simp at this
        rw [← this]; rfl
      obtain ⟨R, h1, -, h3⟩ := Read_end s [] 0 (by omega) h64 (by simp)
      rw [h3 hm he] at h1
      exact h1
    · obtain ⟨R, h1, -, h3⟩ := Read_end s l (s.size + 1) (by omega) h64 (by omega)
      rw [h3 hm he] at h1
      exact Read_list s hs (l, 0) l [] 0 hne hsm (by rw [List.drop_zero]; exact he.symm) (by simp; omega) (by rw [List.nil_append]; exact h1)
  · obtain ⟨R, h1, h2⟩ := Read_all s hs (s.size + 1) 0 [] (by omega) (by omega) (fun _ h => by cases h) (by simp)
    rcases h2 with rfl | ⟨l, -, hm, he⟩
    · rw [read_none fun l hm he => h ⟨l, hm, he⟩]
      exact h1
    · exact absurd ⟨l, hm, he⟩ h
end Go.Proofs.YtlompphnngnaiaaGreatDoor.PLitsTexts
namespace Go.Proofs.YtlompphnngnaiaaGreatDoor
open Go.RowKit Go.Proofs.YtlompphnngnaiaaGreatDoorW.PrintWords
theorem refText_any (xs : List Int) (v : Value) (w : World) (h64 : All64 xs) (hr : RI w v xs) : Calls Tryz.prog 13 #[v] w fun e w' => e = .returned (.tuple #[.string (bstr (TextV xs).1), .int .i64 (TextV xs).2]) ∧ Ext w w' := by
  obtain ⟨K, hK⟩ := PLitsTexts.Text_f xs h64 hr.max
  obtain ⟨A, c, rfl, h1, h2⟩ := hr.kd
  refine (PLitsTexts.skolemref01_Text.calls K A c xs _ _ w h2 h1 (hK K (Nat.le_refl _))).mono ?_
  rintro e w' ⟨rfl, hd⟩
  exact ⟨rfl, hd⟩
theorem refRead_any (s : ByteArray) (hs : s.size ≤ 1000000) (w : World) : Calls Tryz.prog 15 #[.string s] w fun e w' => ∃ v, e = .returned (.tuple #[v, .int .i64 (ReadV s.data.toList).2]) ∧ RI w' v (ReadV s.data.toList).1 ∧ Ext w w' := by
  obtain ⟨K, hK⟩ := PLitsTexts.Read_f s hs
  refine (PLitsTexts.skolemref01_Read.calls K s _ _ w (hK K (Nat.le_refl _))).mono ?_
  rintro e w' ⟨v', rfl, hs, hE⟩
  exact ⟨v', rfl, kdR_RI hs, hE⟩
end Go.Proofs.YtlompphnngnaiaaGreatDoor
namespace Go.Proofs.YtlompphnngnaiaaGreatDoor
open Go.RowKit

set_option maxRecDepth 100000 in
set_option maxHeartbeats 20000000 in
theorem texts_law (l : List Int) (s : ByteArray) (v : Value) (w : World) (l64 : All64 l) (lr : RI w v l) (hL : LW w) :
    Calls Tryz.prog 3 #[v, .string s] w fun e w' => e = .returned (.bool true) ∧ Ext w w' := by
  have HR := Lib.hid lr
  have HL := Lib.hid hL
  have HT := Lib.hid (Text_any l v w l64 lr hL)
  have HU := Lib.hid (fun (w' : World) (he : Ext w w') => refText_any l v w' l64 (HR.out.ext he))
  obtain ⟨A, c, rfl, h1, h2, h3⟩ := lr
  clear h3 hL
  generalize TextV l = T at HT HU
  obtain ⟨T1, T2⟩ := T
  simp only at HT HU
  generalize bstr T1 = T at HT HU
  have hc1 : ∀ a : Int, (a == a) = true := fun a => by simp
  by_cases hbig : l.length > 1000 ∨ s.size > 5000
  · go_enter Tryz.func3, Tryz.ntmps3
    go_wp2_with ((go_at_call 11; refine (awake_any _ HL.out).mono ?_; rintro e w1 ⟨rfl, hE⟩))
    all_goals first
      | (exfalso; omega)
      | (go_ret; exact ⟨rfl, hE⟩)
  · obtain ⟨hs1, hs2⟩ := not_or.1 hbig
    clear hbig
    have HRS := Lib.hid (fun (w' : World) (he : Ext w w') => Read_any s (by omega) w' (HL.out.ext he))
    have HRR := Lib.hid (fun (w' : World) => refRead_any s (by omega) w')
    generalize ReadV s.data.toList = R at HRS HRR
    obtain ⟨R1, R2⟩ := R
    simp only at HRS HRR
    have cg : ∀ w', Ext w w' → w'.cell? ⟨0, 0, Option.none⟩ = some (.func (.func 86) #[] #[]) := fun w' he => HL.out.same.ext he
    have CG := Lib.hid cg
    clear cg
    go_enter Tryz.func3, Tryz.ntmps3
    go_upto_region 7 with (first
      | (go_at_call 12; refine HT.out.mono ?_; rintro e w1 ⟨rfl, hE⟩; have HE1 := Lib.hid hE; clear hE HT)
      | (go_at_call 13; refine (HU.out _ HE1.out).mono ?_; rintro e w2 ⟨rfl, hE⟩; have HE2 := Lib.hid (HE1.out.trans hE); clear hE)
      | (go_at_call 14; refine (HRS.out _ HE2.out).mono ?_; rintro e w3 ⟨v3, rfl, ho, hE⟩; have HE3 := Lib.hid (HE2.out.trans hE); have HO3 := Lib.hid ho.reads; clear hE ho)
      | (go_at_call 15; refine (HRR.out _).mono ?_; rintro e w4 ⟨v4, rfl, ho, hE⟩; have HE4 := Lib.hid (HE3.out.trans hE); have HO4 := Lib.hid ho; have HO34 := Lib.hid (HO3.out.ext hE); clear hE ho))
    have cg4 := CG.out _ HE4.out
    go_wp2_with (first
      | (refine wpList_callv (.tmp 51) #[.tmp 52, .tmp 53] _ rfl (by rfl) #[] rfl fv_same #[v3, v4] (by simp only [List.map_toArray, List.map_cons, List.map_nil, List.append_toArray, List.cons_append, List.nil_append]; rfl) ?_
         refine (Same_refl R1 _ _ _ HO34.out HO4.out).mono ?_
         rintro e w5 ⟨rfl, hE⟩
         refine ⟨_, rfl, ?_⟩
         simp only [Act.put, List.setIfInBounds_toArray, List.set_cons_zero, List.set_cons_succ]
         have HE5 := Lib.hid (HE4.out.trans hE)
         clear hE cg4)
      | (go_at_call 11; refine (awake_any _ (HL.out.ext HE5.out)).mono ?_; rintro e w6 ⟨rfl, hE⟩; have HE6 := Lib.hid (HE5.out.trans hE); clear hE))
    go_ret
    exact ⟨rfl, HE6.out⟩
end Go.Proofs.YtlompphnngnaiaaGreatDoor
