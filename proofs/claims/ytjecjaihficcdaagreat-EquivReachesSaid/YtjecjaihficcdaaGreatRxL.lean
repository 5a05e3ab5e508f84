/- The law EquivReaches returns true for every input, and its arguments read behind the call as before: no condition on the input. -/
import Derived.Test.YtjecjaihficcdaaGreatRxPEquivNextx32
import Derived.Test.YtjecjaihficcdaaGreatRxPEquivNextx33
import Derived.Test.YtjecjaihficcdaaGreatRxPEquivNextx34
import Derived.Test.YtjecjaihficcdaaGreatRxPEquivNextx35
import Derived.Test.YtjecjaihficcdaaGreatRxJ
import Derived.Test.YtjecjaihficcdaaGreatRxI
import Derived.Test.YtjecjaihficcdaaGreatRxD
import Derived.Deep.Cut
import Derived.Test.YtjecjaihficcdaaGreatRows
import Derived.ProofKit
import Derived.LaidMore
import Derived.Stop.Joined
import Derived.Deep.Matrix
import Derived.SizedLaws
import Derived.RowKitVeiled
import Derived.JoinedAt
namespace Go.Proofs.YtjecjaihficcdaaGreat
theorem addAll_append (l a b : List Int) : addAll l (a ++ b) = addAll (addAll l a) b := List.foldl_append
theorem addAll_le (ys l : List Int) : (addAll l ys).length ≤ l.length + ys.length := by
 induction ys generalizing l with
 | nil => simp [addAll]
 | cons y ys ih =>
   rw [addAll_cons]
   have h1 := ih (addN l y)
   have h2 : (addN l y).length ≤ l.length + 1 := by unfold addN; split <;> simp
   rw [List.length_cons]; omega
theorem addAll_getD (l ys : List Int) (i : Nat) (hi : i < l.length) : (addAll l ys).getD i 0 = l.getD i 0 := by
 obtain ⟨r, hr⟩ := addAll_pre ys l
 rw [hr, List.getD_eq_getElem?_getD, List.getD_eq_getElem?_getD, List.getElem?_append_left hi]
def nbJ (y : Int) (c : List Int) (j : Nat) : List Int := if c.length = 2 then (if j = 0 then nbC y c else if j = 1 then (if -(c.getD 1 0) = y then [c.getD 0 0] else []) else []) else []
theorem nbJ_zero (y : Int) (c : List Int) : nbJ y c 0 = nbC y c := by
 unfold nbJ
 split
 · rfl
 · rename_i h
   match c, h with
   | [], _ => rfl
   | [_], _ => rfl
   | [_, _], h => exact absurd rfl h
   | _ :: _ :: _ :: _, _ => rfl
theorem nbJ_two (y : Int) (c : List Int) : nbJ y c 2 = [] := by unfold nbJ; split <;> rfl
theorem nbJ_ne (y : Int) (c : List Int) (j : Nat) (h : c.length ≠ 2) : nbJ y c j = [] := by unfold nbJ; rw [if_neg h]
theorem nbJ_step (y : Int) (c : List Int) (j : Nat) (h : c.length = 2) (hj : j < 2) : nbJ y c j = (if -(c.getD j 0) = y then [c.getD (1 - j) 0] else []) ++ nbJ y c (j + 1) := by
 match c, h with
 | [a, b], _ =>
   match j, hj with
   | 0, _ => rfl
   | 1, _ => show (if -b = y then [a] else []) = (if -b = y then [a] else []) ++ []; rw [List.append_nil]
def litP (l : List Int) (x : Int) : List Int := if x ∈ l then l else l ++ [x, -x]
theorem litP_mem : ∀ (xs l : List Int), (∀ z ∈ l, -z ∈ l) → (∀ z, z ∈ xs.foldl litP l ↔ z ∈ l ∨ z ∈ xs ∨ -z ∈ xs)
 | [], l, _, z => by simp
 | x :: xs, l, h, z => by
   have hc : ∀ z ∈ litP l x, -z ∈ litP l x := fun z hz => by
    unfold litP at hz ⊢
    split at hz
    · rename_i hx; rw [if_pos hx]; exact h z hz
    · rename_i hx
      rw [if_neg hx]
      simp only [List.mem_append, List.mem_cons, List.not_mem_nil, or_false] at hz ⊢
      rcases hz with hz | rfl | rfl
      · exact .inl (h z hz)
      · exact .inr (.inr rfl)
      · exact .inr (.inl (Int.neg_neg x))
   have hm : z ∈ litP l x ↔ z ∈ l ∨ z = x ∨ -z = x := by
    unfold litP
    split
    · rename_i hx
      constructor
      · exact .inl
      · rintro (hz | rfl | hz)
        · exact hz
        · exact hx
        · have := h x hx; rw [← hz, Int.neg_neg] at this; exact this
    · simp only [List.mem_append, List.mem_cons, List.not_mem_nil, or_false]
      constructor
      · rintro (hz | rfl | rfl)
        · exact .inl hz
        · exact .inr (.inl rfl)
        · exact .inr (.inr (Int.neg_neg x))
      · rintro (hz | rfl | hz)
        · exact .inl hz
        · exact .inr (.inl rfl)
        · exact .inr (.inr (by rw [← hz, Int.neg_neg]))
   rw [List.foldl_cons, litP_mem xs _ hc, hm]
   simp only [List.mem_cons]
   constructor
   · rintro ((h | h | h) | h | h)
     · exact .inl h
     · exact .inr (.inl (.inl h))
     · exact .inr (.inr (.inl h))
     · exact .inr (.inl (.inr h))
     · exact .inr (.inr (.inr h))
   · rintro (h | (h | h) | (h | h))
     · exact .inl (.inl h)
     · exact .inl (.inr (.inl h))
     · exact .inr (.inl h)
     · exact .inl (.inr (.inr h))
     · exact .inr (.inr h)
theorem litP_len (xs l : List Int) : (xs.foldl litP l).length ≤ l.length + 2 * xs.length := by
 induction xs generalizing l with
 | nil => simp
 | cons x xs ih =>
   rw [List.foldl_cons]
   have h1 := ih (litP l x)
   have h2 : (litP l x).length ≤ l.length + 2 := by unfold litP; split <;> simp
   rw [List.length_cons]; omega
theorem lits_set (f : List (List Int)) : setL [] ((lits2 f).foldl litP []) = graphLits f := by
 refine sorted_ext blt_asym (setL_sorted _ List.Pairwise.nil) (setL_sorted _ List.Pairwise.nil) fun x => ?_
 rw [mem_graphLits, mem_setL, litP_mem _ _ (fun z hz => by cases hz)]
 simp
end Go.Proofs.YtjecjaihficcdaaGreat
namespace Go.Proofs.YtjecjaihficcdaaGreat.PEquivNext
open Go.RowKit Go.Proofs.YtjecjaihficcdaaGreatW.PrintWords
theorem rd_atC (xs : List Int) (j : Nat) (h : j < xs.length) : rd xs (j : Int) = xs.getD j 0 := by
 rw [rd_nat xs j h]; simp [List.getD_eq_getElem?_getD, List.getElem?_eq_getElem h]
theorem len_le_totC {f : List (List Int)} {l : List Int} (h : l ∈ f) : l.length ≤ total f := by
 unfold total lens
 rw [List.take_length]
 induction f with
 | nil => cases h
 | cons c f ih =>
   rw [List.map_cons, List.sum_cons]
   rcases List.mem_cons.1 h with rfl | h
   · omega
   · have := ih h; omega
theorem row_lits {f : List (List Int)} (k : Nat) (hk : k < f.length) (h2 : f[k].length = 2) : ∀ x ∈ f[k], x ∈ lits2 f := fun x hx => by
 unfold lits2
 exact List.mem_flatMap.2 ⟨f[k], List.getElem_mem hk, by rw [if_pos h2]; exact hx⟩
theorem sml {x : Int} (h : varOf x ≠ 0) : -65536 ≤ x ∧ x ≤ 65536 ∧ x ≠ 0 := by
 have h1 := varOf_eq h
 have h2 := varOf_range x
 omega
section
variable (f : List (List Int)) (hm : mayCnfB f = true) (hb : f.length ≤ 20000) (hcb : ∀ c ∈ f, c.length ≤ 9223372036854775807)
include hm hb hcb
theorem Re_l2 (k i : Nat) (hk : k < f.length) (y : Int) (hy : varOf y ≠ 0) (V : List Int) :
 ∀ (m j : Nat) (l : List Int), j + m = 2 → i < l.length → l.getD i 0 = y → l.length + m ≤ 1000000000 →
  Evn (fun q => skolemref16_Reaches.l1 q f (addAll l (nbJ y f[k] j)) (i : Int) ((k + 1 : Nat) : Int)) V → Evn (fun q => skolemref16_Reaches.l2 q f l (i : Int) (k : Int) (j : Int)) V := by
 have _ := hm
 have hcl := hcb _ (List.getElem_mem hk)
 have hrd : rd_L1 f (k : Int) = f[k] := by simp [rd_L1, hk]
 have hys := sml hy
 have hno : ∀ (j : Nat) (l : List Int), nbJ y f[k] j = [] → Evn (fun q => skolemref16_Reaches.l1 q f (addAll l (nbJ y f[k] j)) (i : Int) ((k + 1 : Nat) : Int)) V → Evn (fun q => skolemref16_Reaches.j4 q f l (i : Int) (k : Int) (j : Int) false) V := fun j l h0 hn => by
  rw [h0] at hn
  exact Evn.succ (fun q => by rw [skolemref16_Reaches.j4]) (Evn.neg (by simp) (by rw [wrap64_nat (i := k) (by omega)]; exact hn))
 intro m
 induction m with
 | zero =>
   intro j l hj hi hl hlen hn
   obtain rfl : j = 2 := by omega
   refine Evn.succ (fun q => by rw [skolemref16_Reaches.l2]) (Evn.pos (by omega) (Evn.pos (by omega) ?_))
   rw [hrd]
   by_cases h2 : f[k].length = 2
   · exact Evn.neg (by rw [h2]; decide) (hno 2 l (nbJ_two _ _) hn)
   · by_cases h3 : ((2 : Nat) : Int) < (f[k].length : Int)
     · refine Evn.pos h3 ?_
       rw [show ((f[k].length : Int) == 2) = false by simpa using (by omega : ¬ (f[k].length : Int) = 2)]
       exact hno 2 l (nbJ_two _ _) hn
     · exact Evn.neg h3 (hno 2 l (nbJ_two _ _) hn)
 | succ m ih =>
   intro j l hj hi hl hlen hn
   refine Evn.succ (fun q => by rw [skolemref16_Reaches.l2]) (Evn.pos (by omega) (Evn.pos (by omega) ?_))
   rw [hrd]
   by_cases h2 : f[k].length = 2
   · refine Evn.pos (by rw [h2]; omega) ?_
     rw [show ((f[k].length : Int) == 2) = true by simpa using (by omega : (f[k].length : Int) = 2)]
     have hj2 : j < f[k].length := by omega
     have hj3 : 1 - j < f[k].length := by omega
     have hw1 : wrap64 (1 - (j : Int)) = ((1 - j : Nat) : Int) := by rw [wrap64_id (by omega) (by omega)]; omega
     have hst := nbJ_step y f[k] j h2 (by omega)
     refine Evn.succ (fun q => by rw [skolemref16_Reaches.j4]) (Evn.pos rfl (Evn.pos (by omega) (Evn.pos (by omega) (Evn.pos (by omega) ?_))))
     rw [hrd]
     refine Evn.pos (by omega) (Evn.pos (by omega) (Evn.pos (by omega) ?_))
     rw [rd_atC _ j hj2, rd_atC l i hi, hl, wrap64_id (x := -y) (by omega) (by omega), wrap64_nat (i := j) (by omega)]
     by_cases he : f[k].getD j 0 = -y
     · refine Evn.pos he (Evn.pos (by rw [hw1]; omega) (Evn.pos (by rw [hw1]; omega) ?_))
       rw [hw1, rd_atC _ (1 - j) hj3]
       rw [if_pos (by rw [he, Int.neg_neg])] at hst
       refine Evn.bind (Has_f l _ (by omega)) ?_
       rw [hst, List.singleton_append, addAll_cons] at hn
       unfold addN at hn
       by_cases hin : f[k].getD (1 - j) 0 ∈ l
       · rw [if_pos hin] at hn
         exact Evn.pos (decide_eq_true hin) (ih (j + 1) l (by omega) hi hl (by omega) hn)
       · rw [if_neg hin] at hn
         refine Evn.neg (by simpa using hin) (Evn.pos (by omega) ?_)
         refine ih (j + 1) _ (by omega) (by rw [List.length_append]; omega) ?_ (by rw [List.length_append, List.length_singleton]; omega) hn
         rw [List.getD_eq_getElem?_getD, List.getElem?_append_left hi, ← List.getD_eq_getElem?_getD, hl]
     · refine Evn.neg he ?_
       rw [if_neg (fun h => he (by rw [← h, Int.neg_neg])), List.nil_append] at hst
       rw [hst] at hn
       exact ih (j + 1) l (by omega) hi hl (by omega) hn
   · have h0 := nbJ_ne y f[k] j h2
     by_cases h3 : (j : Int) < (f[k].length : Int)
     · refine Evn.pos h3 ?_
       rw [show ((f[k].length : Int) == 2) = false by simpa using (by omega : ¬ (f[k].length : Int) = 2)]
       exact hno j l h0 hn
     · exact Evn.neg h3 (hno j l h0 hn)
theorem Re_l1 (i : Nat) (y : Int) (hy : varOf y ≠ 0) (V : List Int) :
 ∀ (m k : Nat) (l : List Int), k + m = f.length → i < l.length → l.getD i 0 = y → l.length + 2 * m ≤ 900000000 →
  Evn (fun q => skolemref16_Reaches.l0 q f (addAll l ((f.drop k).flatMap (nbC y))) ((i + 1 : Nat) : Int)) V → Evn (fun q => skolemref16_Reaches.l1 q f l (i : Int) (k : Int)) V := by
 intro m
 induction m with
 | zero =>
   intro k l hk hi hl hlen hn
   rw [List.drop_eq_nil_of_le (by omega)] at hn
   refine Evn.succ (fun q => by rw [skolemref16_Reaches.l1]) (Evn.neg (by omega) ?_)
   rw [wrap64_nat (i := i) (by omega)]
   exact hn
 | succ m ih =>
   intro k l hk hi hl hlen hn
   have hkl : k < f.length := by omega
   refine Evn.succ (fun q => by rw [skolemref16_Reaches.l1]) (Evn.pos (by omega) ?_)
   refine Re_l2 f hm hb hcb k i hkl y hy V 2 0 l rfl hi hl (by omega) ?_
   rw [nbJ_zero]
   have h1 := addAll_le (nbC y f[k]) l
   have h2 := nbC_len y f[k]
   have h3 := addAll_len l (nbC y f[k])
   refine ih (k + 1) _ (by omega) (by omega) (by rw [addAll_getD l _ i hi, hl]) (by omega) ?_
   rw [List.drop_eq_getElem_cons hkl, List.flatMap_cons, addAll_append] at hn
   exact hn
theorem Re_l0 (x : Int) (hx : varOf x ≠ 0) : ∀ (n i : Nat) (l : List Int), l.Nodup → (∀ z ∈ l, z ∈ x :: lits2 f) → i ≤ l.length → 2 * f.length + 2 ≤ n + i →
 Evn (fun q => skolemref16_Reaches.l0 q f l (i : Int)) (setL [] (bfs (nbL f) n i l)) := by
 have hv : ∀ z ∈ x :: lits2 f, varOf z ≠ 0 := fun z hz => by
  rcases List.mem_cons.1 hz with rfl | hz
  · exact hx
  · exact lits2_var hm z hz
 have hll := lits2_len f
 intro n
 induction n with
 | zero =>
   intro i l hnd hs hi hn
   have := nodup_len l _ hnd hs
   rw [List.length_cons] at this
   omega
 | succ n ih =>
   intro i l hnd hs hi hn
   have hlen := nodup_len l _ hnd hs
   rw [List.length_cons] at hlen
   by_cases hil : i < l.length
   · refine Evn.succ (fun q => by rw [skolemref16_Reaches.l0]) (Evn.pos (by omega) ?_)
     have hbf : bfs (nbL f) (n + 1) i l = bfs (nbL f) n (i + 1) (addAll l (nbL f l[i])) := by rw [bfs, dif_pos hil]
     rw [hbf]
     refine Re_l1 f hm hb hcb i l[i] (hv _ (hs _ (List.getElem_mem hil))) _ f.length 0 l (by omega) hil (by simp [List.getD_eq_getElem?_getD, List.getElem?_eq_getElem hil]) (by omega) ?_
     rw [List.drop_zero]
     refine ih (i + 1) _ (addAll_nodup _ hnd) (fun z hz => ?_) (Nat.le_trans hil (addAll_len l (nbL f l[i]))) (by omega)
     rcases (addAll_mem _ _ _).1 hz with h | h
     · exact hs z h
     · exact List.mem_cons_of_mem _ (nbL_mem h).1
   · have hbf : bfs (nbL f) (n + 1) i l = l := by rw [bfs, dif_neg hil]
     rw [hbf]
     refine Evn.succ (fun q => by rw [skolemref16_Reaches.l0]) (Evn.neg (by omega) (Evn.bind (sorted_f l (fun z hz => ?_) (by omega)) (Evn.ret _)))
     have := sml (hv z (hs z hz))
     unfold I64; omega
end
theorem Reaches_f (f : List (List Int)) (x : Int) (h64 : All64L f) (hx : I64 x) (hb : f.length ≤ 9223372036854775807) (ht : total f ≤ 9223372036854775807) : Evn (fun k => skolemref16_Reaches.f k f x) (ReachV f x) := by
 unfold skolemref16_Reaches.f ReachV
 refine Evn.bind (MayCnf_f f h64 hb ht) ?_
 have hj : Evn (fun k => skolemref16_Reaches.j0 k f x true) [] := Evn.succ (fun k => by rw [skolemref16_Reaches.j0]) (Evn.pos rfl (Evn.ret _))
 cases hm : mayCnfB f
 · refine Evn.neg (by simp) ?_
   rw [if_pos (.inr rfl)]
   exact hj
 · refine Evn.pos rfl (Evn.bind (Evn.of_eq fun _ => Var_f x hx) ?_)
   by_cases hv : varOf x = 0
   · rw [if_pos (.inl hv), hv]
     exact hj
   · rw [if_neg (by simp [hv]), show (varOf x == 0) = false by simpa using hv]
     have hcl := mayCnfB_len hm
     refine Evn.succ (fun k => by rw [skolemref16_Reaches.j0]) (Evn.neg (by simp) ?_)
     exact Re_l0 f hm hcl (fun c hc => by have := len_le_totC hc; omega) x hv (2 * f.length + 2) 0 [x] (by simp) (fun z hz => by rw [List.mem_singleton.1 hz]; simp) (by omega) (by omega)
section
variable (f : List (List Int)) (hm : mayCnfB f = true) (hb : f.length ≤ 20000) (hcb : ∀ c ∈ f, c.length ≤ 9223372036854775807)
include hm hb hcb
theorem Li_l1 (k : Nat) (hk : k < f.length) (V : List Int) :
 ∀ (m j : Nat) (l : List Int), (f[k].length = 2 → j + m = 2) → (f[k].length ≠ 2 → m = 0) → l.length + 2 * m ≤ 1000000000 →
  Evn (fun q => skolemref16_literals.l0 q f ((if f[k].length = 2 then f[k].drop j else []).foldl litP l) ((k + 1 : Nat) : Int)) V → Evn (fun q => skolemref16_literals.l1 q f l (k : Int) (j : Int)) V := by
 have hcl := hcb _ (List.getElem_mem hk)
 have hrd : rd_L1 f (k : Int) = f[k] := by simp [rd_L1, hk]
 have hno : ∀ (j : Nat) (l : List Int), (if f[k].length = 2 then f[k].drop j else []) = [] → Evn (fun q => skolemref16_literals.l0 q f ((if f[k].length = 2 then f[k].drop j else []).foldl litP l) ((k + 1 : Nat) : Int)) V → Evn (fun q => skolemref16_literals.j2 q f l (k : Int) (j : Int) false) V := fun j l h0 hn => by
  rw [h0] at hn
  exact Evn.succ (fun q => by rw [skolemref16_literals.j2]) (Evn.neg (by simp) (by rw [wrap64_nat (i := k) (by omega)]; exact hn))
 intro m
 induction m with
 | zero =>
   intro j l hj h0 hlen hn
   refine Evn.succ (fun q => by rw [skolemref16_literals.l1]) (Evn.pos (by omega) (Evn.pos (by omega) ?_))
   rw [hrd]
   by_cases h2 : f[k].length = 2
   · have hj2 := hj h2
     have hd : (if f[k].length = 2 then f[k].drop j else []) = [] := by rw [if_pos h2, List.drop_eq_nil_of_le (by omega)]
     exact Evn.neg (by omega) (hno j l hd hn)
   · have hd : (if f[k].length = 2 then f[k].drop j else []) = [] := by rw [if_neg h2]
     by_cases h3 : (j : Int) < (f[k].length : Int)
     · refine Evn.pos h3 ?_
       rw [show ((f[k].length : Int) == 2) = false by simpa using (by omega : ¬ (f[k].length : Int) = 2)]
       exact hno j l hd hn
     · exact Evn.neg h3 (hno j l hd hn)
 | succ m ih =>
   intro j l hj h0 hlen hn
   have h2 : f[k].length = 2 := by
    rcases Nat.lt_trichotomy f[k].length 2 with h | h | h
    · exact absurd (h0 (by omega)) (by omega)
    · exact h
    · exact absurd (h0 (by omega)) (by omega)
   have hj2 := hj h2
   have hjl : j < f[k].length := by omega
   refine Evn.succ (fun q => by rw [skolemref16_literals.l1]) (Evn.pos (by omega) (Evn.pos (by omega) ?_))
   rw [hrd]
   refine Evn.pos (by omega) ?_
   rw [show ((f[k].length : Int) == 2) = true by simpa using (by omega : (f[k].length : Int) = 2)]
   refine Evn.succ (fun q => by rw [skolemref16_literals.j2]) (Evn.pos rfl (Evn.pos (by omega) (Evn.pos (by omega) (Evn.pos (by omega) ?_))))
   rw [hrd]
   refine Evn.pos (by omega) ?_
   have hx := sml (lits2_var hm _ (row_lits k hk h2 _ (List.getElem_mem hjl)))
   rw [rd_nat _ j hjl, wrap64_id (x := -f[k][j]) (by omega) (by omega), wrap64_nat (i := j) (by omega)]
   rw [if_pos h2, List.drop_eq_getElem_cons hjl, List.foldl_cons] at hn
   have hn2 : Evn (fun q => skolemref16_literals.l0 q f ((if f[k].length = 2 then f[k].drop (j + 1) else []).foldl litP (litP l f[k][j])) ((k + 1 : Nat) : Int)) V := by rw [if_pos h2]; exact hn
   refine Evn.bind (Has_f l _ (by omega)) ?_
   by_cases hin : f[k][j] ∈ l
   · have e : litP l f[k][j] = l := by unfold litP; rw [if_pos hin]
     rw [e] at hn2
     exact Evn.pos (decide_eq_true hin) (ih (j + 1) l (fun _ => by omega) (fun h => absurd h2 h) (by omega) hn2)
   · have e : litP l f[k][j] = l ++ [f[k][j], -f[k][j]] := by unfold litP; rw [if_neg hin]
     rw [e] at hn2
     refine Evn.neg (by simpa using hin) (Evn.bind (Evn.ret _) (Evn.pos (by simp; omega) ?_))
     exact ih (j + 1) _ (fun _ => by omega) (fun h => absurd h2 h) (by simp; omega) hn2
theorem Li_l0 : ∀ (m k : Nat) (l : List Int), k + m = f.length → All64 l → l.length + 4 * m ≤ 900000 → Evn (fun q => skolemref16_literals.l0 q f l (k : Int)) (setL [] ((lits2 (f.drop k)).foldl litP l)) := by
 intro m
 induction m with
 | zero =>
   intro k l hk h64 hlen
   rw [List.drop_eq_nil_of_le (by omega)]
   exact Evn.succ (fun q => by rw [skolemref16_literals.l0]) (Evn.neg (by omega) (Evn.bind (sorted_f l h64 (by omega)) (Evn.ret _)))
 | succ m ih =>
   intro k l hk h64 hlen
   have hkl : k < f.length := by omega
   refine Evn.succ (fun q => by rw [skolemref16_literals.l0]) (Evn.pos (by omega) ?_)
   have hd : lits2 (f.drop k) = (if f[k].length = 2 then f[k] else []) ++ lits2 (f.drop (k + 1)) := by rw [List.drop_eq_getElem_cons hkl]; rfl
   have hsub : (if f[k].length = 2 then f[k].drop 0 else []) = (if f[k].length = 2 then f[k] else []) := by rw [List.drop_zero]
   have hl2 : (if f[k].length = 2 then f[k] else []).length ≤ 2 := by
    split
    · omega
    · exact Nat.zero_le _
   have hlp := litP_len (if f[k].length = 2 then f[k] else []) l
   have h64' : All64 ((if f[k].length = 2 then f[k] else []).foldl litP l) := by
    have key : ∀ (xs l : List Int), All64 l → (∀ x ∈ xs, varOf x ≠ 0) → All64 (xs.foldl litP l) := by
     intro xs
     induction xs with
     | nil => intro l h _; exact h
     | cons x xs ihx =>
       intro l h hv
       rw [List.foldl_cons]
       refine ihx _ (fun z hz => ?_) (fun z hz => hv z (List.mem_cons_of_mem _ hz))
       have := sml (hv x (by simp))
       unfold litP at hz
       split at hz
       · exact h z hz
       · simp only [List.mem_append, List.mem_cons, List.not_mem_nil, or_false] at hz
         rcases hz with hz | rfl | rfl
         · exact h z hz
         · unfold I64; omega
         · unfold I64; omega
    refine key _ _ h64 fun x hx => ?_
    split at hx
    · rename_i h2; exact lits2_var hm _ (row_lits k hkl h2 _ hx)
    · cases hx
   rw [hd, List.foldl_append]
   by_cases h2 : f[k].length = 2
   · refine Li_l1 f hm hb hcb k hkl _ 2 0 l (fun _ => rfl) (fun h => absurd h2 h) (by omega) ?_
     rw [hsub]
     exact ih (k + 1) _ (by omega) h64' (by omega)
   · refine Li_l1 f hm hb hcb k hkl _ 0 0 l (fun h => absurd h h2) (fun _ => rfl) (by omega) ?_
     rw [hsub]
     exact ih (k + 1) _ (by omega) h64' (by omega)
theorem literals_f : Evn (fun k => skolemref16_literals.f k f) (graphLits f) := by
 unfold skolemref16_literals.f
 have := Li_l0 f hm hb hcb f.length 0 [] (by omega) (fun x hx => by cases hx) (by simp; omega)
 rw [List.drop_zero, lits_set] at this
 exact this
end
section
variable (f : List (List Int)) (hm : mayCnfB f = true) (h64 : All64L f) (ht : total f ≤ 9223372036854775807)
include hm h64 ht
theorem Rea_of (x : Int) (hv : varOf x ≠ 0) : Evn (fun k => skolemref16_Reaches.f k f x) (setL [] (reachL f x)) := by
 have hcl := mayCnfB_len hm
 have hs := sml hv
 have := Reaches_f f x h64 (by unfold I64; omega) (by omega) ht
 unfold ReachV at this
 rw [if_neg (by simp [hv, hm])] at this
 exact this
theorem Rea_len (x : Int) : (setL [] (reachL f x)).length ≤ 50000 := by
 have _ := h64
 have _ := ht
 have hcl := mayCnfB_len hm
 have h1 := setL_len (reachL f x) []
 have h2 := reachL_len f x
 simp at h1
 omega
theorem Fa_l0 (L : List Int) (hL : ∀ x ∈ L, varOf x ≠ 0) (hl : L.length ≤ 1000000) : ∀ (m i : Nat) (acc : List Int), i + m = L.length → acc.length + m ≤ 2000000 →
 Evn (fun q => skolemref16_Failed.l0 q f L acc (i : Int)) (acc ++ (L.drop i).filter fun x => decide (-x ∈ reachL f x)) := by
 intro m
 induction m with
 | zero =>
   intro i acc hi ha
   refine Evn.succ (fun q => by rw [skolemref16_Failed.l0]) (Evn.neg (by omega) ((Evn.ret _).to ?_))
   rw [List.drop_eq_nil_of_le (by omega)]; simp
 | succ m ih =>
   intro i acc hi ha
   have hil : i < L.length := by omega
   have hx := hL _ (List.getElem_mem hil)
   have hs := sml hx
   refine Evn.succ (fun q => by rw [skolemref16_Failed.l0]) (Evn.pos (by omega) (Evn.pos (by omega) ?_))
   rw [rd_nat L i hil, wrap64_id (x := -L[i]) (by omega) (by omega), wrap64_nat (i := i) (by omega)]
   refine Evn.bind (Rea_of f hm h64 ht L[i] hx) (Evn.bind (Has_f _ _ (by have := Rea_len f hm h64 ht L[i]; omega)) ?_)
   have hmem : (-L[i] ∈ setL [] (reachL f L[i])) ↔ -L[i] ∈ reachL f L[i] := by rw [mem_setL]; simp
   rw [List.drop_eq_getElem_cons hil, List.filter_cons]
   by_cases hin : -L[i] ∈ reachL f L[i]
   · refine Evn.pos (decide_eq_true (hmem.2 hin)) (Evn.pos (by omega) ((ih (i + 1) _ (by omega) (by simp; omega)).to ?_))
     rw [if_pos (decide_eq_true hin)]; simp
   · refine Evn.neg (by simpa using fun h => hin (hmem.1 h)) ((ih (i + 1) _ (by omega) (by omega)).to ?_)
     rw [if_neg (by simpa using hin)]
end
theorem graph_len {f : List (List Int)} (hm : mayCnfB f = true) : (graphLits f).length ≤ 1000000 := by
 have := graphLits_len f
 have hcl := mayCnfB_len hm
 omega
theorem Failed_f (f : List (List Int)) (h64 : All64L f) (hb : f.length ≤ 9223372036854775807) (ht : total f ≤ 9223372036854775807) : Evn (fun k => skolemref16_Failed.f k f) (FailV f) := by
 unfold skolemref16_Failed.f FailV
 refine Evn.bind (MayCnf_f f h64 hb ht) ?_
 cases hm : mayCnfB f
 · exact Evn.neg (by simp) ((Evn.ret _).to (by rw [if_pos rfl]))
 · rw [if_neg (by simp)]
   have hcl := mayCnfB_len hm
   refine Evn.pos rfl (Evn.bind (literals_f f hm hcl (fun c hc => by have := len_le_totC hc; omega)) ?_)
   have := Fa_l0 f hm h64 ht (graphLits f) (graphLits_var hm) (graph_len hm) (graphLits f).length 0 [] (by omega) (by have := graph_len hm; simp; omega)
   rw [List.drop_zero, List.nil_append] at this
   exact this
def clTake (x : Int) (C : List Int) : List (List Int) := if 1 < C.length ∧ hdI C = x ∧ (0 < x ∨ -x ∈ C) then [C] else []
section
variable (f : List (List Int)) (hm : mayCnfB f = true) (h64 : All64L f) (ht : total f ≤ 9223372036854775807)
include hm h64 ht
theorem Cl_l1 (L : List Int) (hl : L.length ≤ 1000000) (i : Nat) (hi : i < L.length) (hx : varOf L[i] ≠ 0) (T : List Int) (hT : ∀ y ∈ T, varOf y ≠ 0) (htl : T.length ≤ 1000000) (out : List (List Int)) (ho : out.length ≤ 2000000) (V : List (List Int)) :
 ∀ (m j : Nat) (acc : List Int), j + m = T.length → acc.length + m ≤ 2000000 → Evn (fun q => skolemref16_Classes.l0 q f L (out ++ clTake L[i] (acc ++ (T.drop j).filter fun y => decide (L[i] ∈ reachL f y))) ((i + 1 : Nat) : Int)) V →
  Evn (fun q => skolemref16_Classes.l1 q f L out (i : Int) acc T (j : Int)) V := by
 have hs := sml hx
 intro m
 induction m with
 | zero =>
   intro j acc hj ha hn
   rw [List.drop_eq_nil_of_le (by omega)] at hn
   simp only [List.filter_nil, List.append_nil] at hn
   have hnone : clTake L[i] acc = [] → Evn (fun q => skolemref16_Classes.l0 q f L out (wrap64 ((i : Int) + 1))) V := fun h => by
    rw [h, List.append_nil] at hn
    rw [wrap64_nat (i := i) (by omega)]
    exact hn
   have hsome : clTake L[i] acc = [acc] → Evn (fun q => skolemref16_Classes.l0 q f L (out ++ [acc]) (wrap64 ((i : Int) + 1))) V := fun h => by
    rw [h] at hn
    rw [wrap64_nat (i := i) (by omega)]
    exact hn
   refine Evn.succ (fun q => by rw [skolemref16_Classes.l1]) (Evn.neg (by omega) ?_)
   by_cases h1 : 1 < acc.length
   · refine Evn.pos (by omega) (Evn.pos (by omega) (Evn.pos (by omega) (Evn.pos (by omega) ?_)))
     rw [rd_nat L i hi, wrap64_id (x := -L[i]) (by omega) (by omega)]
     have hh : rd acc 0 = hdI acc := by
      match acc, h1 with
      | a :: r, _ => rfl
     rw [hh]
     by_cases h2 : hdI acc = L[i]
     · refine Evn.pos h2 ?_
       by_cases h3 : 0 < L[i]
       · exact Evn.pos h3 (Evn.pos (by omega) (hsome (by unfold clTake; rw [if_pos ⟨h1, h2, .inl h3⟩])))
       · refine Evn.neg h3 (Evn.bind (Has_f acc _ (by omega)) ?_)
         by_cases h4 : -L[i] ∈ acc
         · exact Evn.pos (decide_eq_true h4) (Evn.pos (by omega) (hsome (by unfold clTake; rw [if_pos ⟨h1, h2, .inr h4⟩])))
         · exact Evn.neg (by simpa using h4) (hnone (by unfold clTake; rw [if_neg (fun h => h.2.2.elim h3 h4)]))
     · exact Evn.neg h2 (hnone (by unfold clTake; rw [if_neg (fun h => h2 h.2.1)]))
   · exact Evn.neg (by omega) (hnone (by unfold clTake; rw [if_neg (fun h => h1 h.1)]))
 | succ m ih =>
   intro j acc hj ha hn
   have hjl : j < T.length := by omega
   have hy := hT _ (List.getElem_mem hjl)
   refine Evn.succ (fun q => by rw [skolemref16_Classes.l1]) (Evn.pos (by omega) (Evn.pos (by omega) ?_))
   rw [rd_nat T j hjl, wrap64_nat (i := j) (by omega)]
   refine Evn.bind (Rea_of f hm h64 ht T[j] hy) (Evn.pos (by omega) (Evn.pos (by omega) ?_))
   rw [rd_nat L i hi]
   refine Evn.bind (Has_f _ _ (by have := Rea_len f hm h64 ht T[j]; omega)) ?_
   have hmem : (L[i] ∈ setL [] (reachL f T[j])) ↔ L[i] ∈ reachL f T[j] := by rw [mem_setL]; simp
   rw [List.drop_eq_getElem_cons hjl, List.filter_cons] at hn
   by_cases hin : L[i] ∈ reachL f T[j]
   · rw [if_pos (decide_eq_true hin)] at hn
     refine Evn.pos (decide_eq_true (hmem.2 hin)) (Evn.pos (by omega) (ih (j + 1) _ (by omega) (by simp; omega) ?_))
     rw [List.append_assoc, List.singleton_append]
     exact hn
   · rw [if_neg (by simpa using hin)] at hn
     exact Evn.neg (by simpa using fun h => hin (hmem.1 h)) (ih (j + 1) acc (by omega) (by omega) hn)
theorem Cl_l0 (L : List Int) (hL : ∀ x ∈ L, varOf x ≠ 0) (hl : L.length ≤ 1000000) : ∀ (m i : Nat) (out : List (List Int)), i + m = L.length → out.length + m ≤ 2000000 →
 Evn (fun q => skolemref16_Classes.l0 q f L out (i : Int)) (out ++ (L.drop i).filterMap (refTake f)) := by
 intro m
 induction m with
 | zero =>
   intro i out hi ho
   refine Evn.succ (fun q => by rw [skolemref16_Classes.l0]) (Evn.neg (by omega) ((Evn.ret _).to ?_))
   rw [List.drop_eq_nil_of_le (by omega)]; simp
 | succ m ih =>
   intro i out hi ho
   have hil : i < L.length := by omega
   have hx := hL _ (List.getElem_mem hil)
   refine Evn.succ (fun q => by rw [skolemref16_Classes.l0]) (Evn.pos (by omega) (Evn.pos (by omega) ?_))
   rw [rd_nat L i hil]
   refine Evn.bind (Rea_of f hm h64 ht L[i] hx) ?_
   refine Cl_l1 f hm h64 ht L hl i hil hx (setL [] (reachL f L[i])) (fun y hy => ?_) (by have := Rea_len f hm h64 ht L[i]; omega) out (by omega) _ (setL [] (reachL f L[i])).length 0 [] (by omega) (by have := Rea_len f hm h64 ht L[i]; simp; omega) ?_
   · rw [mem_setL] at hy
     rcases hy with hy | hy
     · cases hy
     · exact reachL_var hm hx y hy
   · rw [List.drop_zero, List.nil_append]
     have e : clTake L[i] ((setL [] (reachL f L[i])).filter fun y => decide (L[i] ∈ reachL f y)) = (refTake f L[i]).toList := by
      unfold clTake refTake refCl
      split <;> rfl
     rw [e]
     have hl1 : (refTake f L[i]).toList.length ≤ 1 := by unfold refTake; split <;> simp
     refine (ih (i + 1) _ (by omega) (by rw [List.length_append]; omega)).to ?_
     rw [List.drop_eq_getElem_cons hil, List.filterMap_cons, List.append_assoc]
     cases refTake f L[i] <;> rfl
end
theorem Classes_f (f : List (List Int)) (h64 : All64L f) (hb : f.length ≤ 9223372036854775807) (ht : total f ≤ 9223372036854775807) : Evn (fun k => skolemref16_Classes.f k f) (if mayCnfB f = true then RefClasses f else []) := by
 unfold skolemref16_Classes.f
 refine Evn.bind (MayCnf_f f h64 hb ht) ?_
 cases hm : mayCnfB f
 · exact Evn.neg (by simp) ((Evn.ret _).to (by rw [if_neg (by simp)]))
 · rw [if_pos rfl]
   have hcl := mayCnfB_len hm
   refine Evn.pos rfl (Evn.bind (literals_f f hm hcl (fun c hc => by have := len_le_totC hc; omega)) ?_)
   have := Cl_l0 f hm h64 ht (graphLits f) (graphLits_var hm) (graph_len hm) (graphLits f).length 0 [] (by omega) (by have := graph_len hm; simp; omega)
   rw [List.drop_zero, List.nil_append] at this
   exact this
end Go.Proofs.YtjecjaihficcdaaGreat.PEquivNext
namespace Go.Proofs.YtjecjaihficcdaaGreat
open Go.RowKit Go.Proofs.YtjecjaihficcdaaGreatW.PrintWords
section
variable (f : List (List Int)) (u : Value) (w : World) (h64 : All64L f) (kr : RLL w u f) (ht : total f ≤ 9223372036854775807)
include h64 kr ht
theorem refReaches_any (x : Int) (hx : I64 x) : Calls Tryz.prog 13 #[u, .int .i64 x] w fun e w' => ∃ v, e = .returned v ∧ RI w' v (ReachV f x) ∧ Ext w w' := by
 obtain ⟨K, hK⟩ := PEquivNext.Reaches_f f x h64 hx kr.max.1 ht
 obtain ⟨A, c, rfl, h1, h2⟩ := kr.kd
 refine (PEquivNext.skolemref16_Reaches.calls K A c f x _ w h2 h1 (hK K (Nat.le_refl _))).mono ?_
 rintro e w' ⟨v', rfl, hs, hE⟩
 exact ⟨v', rfl, kdR_RI hs, hE⟩
theorem refFailed_any : Calls Tryz.prog 15 #[u] w fun e w' => ∃ v, e = .returned v ∧ RI w' v (FailV f) ∧ Ext w w' := by
 obtain ⟨K, hK⟩ := PEquivNext.Failed_f f h64 kr.max.1 ht
 obtain ⟨A, c, rfl, h1, h2⟩ := kr.kd
 refine (PEquivNext.skolemref16_Failed.calls K A c f _ w h2 h1 (hK K (Nat.le_refl _))).mono ?_
 rintro e w' ⟨v', rfl, hs, hE⟩
 exact ⟨v', rfl, kdR_RI hs, hE⟩
theorem refClasses_any : Calls Tryz.prog 18 #[u] w fun e w' => ∃ v, e = .returned v ∧ RLL w' v (if mayCnfB f = true then RefClasses f else []) ∧ Ext w w' := by
 obtain ⟨K, hK⟩ := PEquivNext.Classes_f f h64 kr.max.1 ht
 obtain ⟨A, c, rfl, h1, h2⟩ := kr.kd
 refine (PEquivNext.skolemref16_Classes.calls K A c f _ w h2 h1 (hK K (Nat.le_refl _))).mono ?_
 rintro e w' ⟨v', rfl, hs, hE⟩
 exact ⟨v', rfl, kd_RLL hs, hE⟩
end
theorem progClasses_any (f : List (List Int)) (u : Value) (w : World) (h64 : All64L f) (kr : RLL w u f) (ht : f.length ≤ 20000 → total f ≤ 9223372036854775807) :
 Calls Tryz.prog 17 #[u] w fun e w' => ∃ v, e = .returned v ∧ RLL w' v (if mayCnfB f = true then RefClasses f else []) ∧ Ext w w' := by
 refine (classes_any f u w kr h64 ht).mono ?_
 rintro e w' ⟨v, L, rfl, hr, hE, h0, h1⟩
 refine ⟨v, rfl, ?_, hE⟩
 cases hm : mayCnfB f
 · rw [h0 hm] at hr; rw [if_neg (by simp)]; exact hr
 · rw [classes_ref hm (h1 hm)] at hr; rw [if_pos rfl]; exact hr
end Go.Proofs.YtjecjaihficcdaaGreat
namespace Go.Proofs.YtjecjaihficcdaaGreat
open Go.RowKit
def sumX (X : List (Int × List Int)) (k : Nat) : Nat := ((X.take k).map fun x => 1 + x.2.length).sum
def sizeD (d : DqV) : Nat := d.univ.length + total d.clauses + sumX d.exist d.exist.length
def largeD (d : DqV) : Bool := decide (60 < d.clauses.length) || decide (300 < sizeD d)
theorem sumX_succ (X : List (Int × List Int)) (k : Nat) (hk : k < X.length) : sumX X (k + 1) = sumX X k + (1 + X[k].2.length) := by
 unfold sumX
 rw [List.take_succ_eq_append_getElem hk, List.map_append, List.sum_append]
 simp
theorem lens_succ' (f : List (List Int)) (k : Nat) (hk : k < f.length) : lens f (k + 1) = lens f k + f[k].length := by
 unfold lens
 rw [List.take_succ_eq_append_getElem hk, List.map_append, List.sum_append]
 simp
theorem wrap64_add (a b : Int) : wrap64 (wrap64 a + b) = wrap64 (a + b) := by unfold wrap64; omega
theorem wrap64_add' (a b : Int) : wrap64 (wrap64 a + wrap64 b) = wrap64 (a + b) := by unfold wrap64; omega
theorem wrap64_in {a : Int} (h : -9223372036854775808 ≤ a ∧ a ≤ 9223372036854775807) : wrap64 a = a := by unfold wrap64; omega
set_option maxHeartbeats 4000000 in
theorem large_any (d : DqV) (vu vx vc : Value) (w : World) (hd : RD w vu vx vc d) (ht : d.clauses.length ≤ 60 → sizeD d ≤ 9223372036854775807) :
 Calls Tryz.prog 9 #[.agg #[vu, vx, vc]] w fun e w' => e = .returned (.bool (largeD d)) ∧ Ext w w' := by
 have HT := Lib.hid ht
 have HD := Lib.hid hd
 obtain ⟨⟨UA, uc, hue, hu1, hu2, -⟩, ⟨XA, xc, ons, hxe, hx1, hx2, hx3, hx4⟩, ⟨CA, cc, us, hce, hc1, hc2, hc3, hc4, hc5⟩⟩ := hd
 subst hue hxe hce
 have e1 := Ext.alloc w (.cells #[.slice UA d.univ.length uc, .slice XA d.exist.length xc, .slice CA us.length cc] 27)
 have B1 := Blk.new w 27 [.slice UA d.univ.length uc, .slice XA d.exist.length xc, .slice CA us.length cc]
 have HB := Lib.hid B1
 have HE := Lib.hid e1
 have HC3 := Lib.hid hc3
 have HC4 := Lib.hid hc4
 have HC5 := Lib.hid hc5
 have HX4 := Lib.hid hx4
 have HX3 := Lib.hid hx3
 have h0 : Hid (wrap64 (d.univ.length : Int) = (d.univ.length : Int)) := Lib.hid (wrap64_in (by omega))
 have cb0 := B1.cell 0
 have cb2 := B1.cell 2
 simp only [List.getElem?_cons_zero, List.getElem?_cons_succ] at cb0 cb2
 clear B1 e1 hc3 hc4 hc5 hx4 ht hx3
 generalize hb : w.heap.size = b at HB cb0 cb2
 generalize hW : w.alloc _ = w1 at HB HE cb0 cb2
 obtain ⟨n, hn⟩ : ∃ n, n = us.length := ⟨_, rfl⟩
 have HN := Lib.hid hn
 go_enter Tryz.func9, Tryz.ntmps9
 go_wp2
 clear cb0 cb2
 have HS0 : Hid (Value.int .i64 (d.univ.length : Int) = .int .i64 (wrap64 ((d.univ.length + lens d.clauses 0 : Nat) : Int))) := Lib.hid (by rw [show d.univ.length + lens d.clauses 0 = d.univ.length by simp [lens], h0.out])
 go_loopg [3, 14] n (fun gn s i wr => ∃ k : Nat, k ≤ n ∧ gn + k = n ∧ i = .int .i64 (k : Int) ∧ s = .int .i64 (wrap64 ((d.univ.length + lens d.clauses k : Nat) : Int)) ∧ Hid (Ext w1 wr))
 case atStart => exact ⟨0, Nat.zero_le _, by omega, rfl, HS0.out, Lib.hid (Ext.refl _)⟩
 case round =>
  obtain ⟨k, hk, hgk, rfl, rfl, HE2⟩ := hrel
  obtain ⟨w2, rfl⟩ : ∃ w2 : World, w2 = wr := ⟨_, rfl⟩
  by_cases hlt : k < n
  · have hku : k < us.length := by rw [← HN.out]; exact hlt
    have hkc : k < d.clauses.length := by rw [← HC4.out]; exact hku
    obtain ⟨ad, rfl, hcell⟩ := (HC3.out.ext (HE.out.trans HE2.out)) k hku
    obtain ⟨Ak, ck, hve, hv1, hv2, -⟩ := HC5.out k hku hkc
    have HL := Lib.hid (lens_succ' d.clauses k hkc)
    obtain ⟨L, hL⟩ : ∃ L, L = d.clauses[k].length := ⟨_, rfl⟩
    rw [← hL] at hve hv1 hv2 HL
    rw [hve] at hcell
    obtain ⟨S, hS⟩ : ∃ S : Int, S = wrap64 ((d.univ.length + lens d.clauses k : Nat) : Int) := ⟨_, rfl⟩
    have HSS := Lib.hid hS
    rw [← hS]
    clear hve hS hL
    go_wp2
    go_roundg (n - (k + 1))
    case measure => omega
    case rel => exact ⟨k + 1, by omega, by omega, by go_num, by rw [HSS.out, wrap64_add, HL.out]; congr 2; omega, HE2⟩
  · obtain rfl : k = n := by omega
    have b2 := (HE2.out.chg (fun _ => False)).blk HB.out id
    have cb1 := b2.cell 1
    simp only [List.getElem?_cons_zero, List.getElem?_cons_succ] at cb1
    have HTOT : Hid (lens d.clauses k = total d.clauses) := Lib.hid (by unfold total; rw [HN.out, HC4.out])
    obtain ⟨S, hS⟩ : ∃ S : Int, S = wrap64 ((d.univ.length + lens d.clauses k : Nat) : Int) := ⟨_, rfl⟩
    have HS1 : Hid (Value.int .i64 S = .int .i64 (wrap64 ((d.univ.length + total d.clauses + sumX d.exist 0 : Nat) : Int))) := Lib.hid (by rw [hS, HTOT.out]; simp [sumX])
    rw [← hS]
    clear b2 hS
    go_wp2
    clear cb1
    go_loopg [3, 26] d.exist.length (fun gn s i wr => ∃ k : Nat, k ≤ d.exist.length ∧ gn + k = d.exist.length ∧ i = .int .i64 (k : Int) ∧ s = .int .i64 (wrap64 ((d.univ.length + total d.clauses + sumX d.exist k : Nat) : Int)) ∧ Hid (Ext w1 wr))
    case atStart => exact ⟨0, Nat.zero_le _, by omega, rfl, HS1.out, HE2⟩
    case round =>
     obtain ⟨k, hk, hgk, rfl, rfl, HE3⟩ := hrel
     obtain ⟨w3, rfl⟩ : ∃ w3 : World, w3 = wr := ⟨_, rfl⟩
     by_cases hlt : k < d.exist.length
     · obtain ⟨ad, rfl, c1, c2, hr⟩ := HX4.out k hlt (by rw [HX3.out]; exact hlt)
       have c1' := (HE.out.trans HE3.out).cell c1
       have c2' := (HE.out.trans HE3.out).cell c2
       have HL := Lib.hid (sumX_succ d.exist k hlt)
       obtain ⟨V, hV⟩ : ∃ V, V = ons[k]'(by rw [HX3.out]; exact hlt) := ⟨_, rfl⟩
       obtain ⟨x, hx⟩ : ∃ x, x = d.exist[k] := ⟨_, rfl⟩
       rw [← hx] at c1' hr HL
       rw [← hV] at hr c2'
       clear c1 c2 hx hV
       obtain ⟨OA, oc, rfl, o1, o2, -⟩ := hr
       obtain ⟨y, ys⟩ := x
       dsimp only at c1' c2' o1 o2 HL
       obtain ⟨S, hS⟩ : ∃ S : Int, S = wrap64 ((d.univ.length + total d.clauses + sumX d.exist k : Nat) : Int) := ⟨_, rfl⟩
       have HSS := Lib.hid hS
       rw [← hS]
       clear hS
       go_wp2
       go_roundg (d.exist.length - (k + 1))
       case measure => omega
       case rel => exact ⟨k + 1, by omega, by omega, by go_num, (by rw [HSS.out, HL.out]; (first | rw [wrap64_add'] | rw [wrap64_add]); congr 2; omega), Lib.hid (HE3.out.trans (Ext.alloc _ _))⟩
     · obtain rfl : k = d.exist.length := by omega
       have b3 := (HE3.out.chg (fun _ => False)).blk HB.out id
       have cb2 := b3.cell 2
       simp only [List.getElem?_cons_zero, List.getElem?_cons_succ] at cb2
       clear b3
       have HW : Hid (Ext w w3) := Lib.hid (HE.out.trans HE3.out)
       obtain ⟨S, hS⟩ : ∃ S : Int, S = wrap64 ((d.univ.length + total d.clauses + sumX d.exist d.exist.length : Nat) : Int) := ⟨_, rfl⟩
       have HSS := Lib.hid hS
       rw [← hS]
       clear hS
       by_cases h60 : (60 : Int) < (us.length : Int)
       · have HR : Hid (largeD d = true) := Lib.hid (by unfold largeD; rw [decide_eq_true (by rw [← HC4.out]; omega)]; rfl)
         go_wp2
         go_ret
         exact ⟨(congrArg (fun b : Bool => Ending.returned (Value.bool b)) HR.out).symm, HW.out⟩
       · have hsz := HT.out (by rw [← HC4.out]; omega)
         have HSE : Hid (S = (sizeD d : Int)) := Lib.hid (by rw [HSS.out]; exact wrap64_in (by unfold sizeD at hsz; omega))
         have HR : Hid (largeD d = decide ((300 : Int) < S)) := Lib.hid (by
          unfold largeD
          rw [decide_eq_false (by rw [← HC4.out]; omega), Bool.false_or, HSE.out, decide_eq_decide]
          omega)
         have h60b : decide ((60 : Int) < (us.length : Int)) = false := decide_eq_false h60
         clear hsz
         go_wp2
         go_ret
         exact ⟨(congrArg (fun b : Bool => Ending.returned (Value.bool b)) HR.out).symm, HW.out⟩
theorem sumX_get {X : List (Int × List Int)} {x : Int × List Int} (h : x ∈ X) : 1 + x.2.length ≤ sumX X X.length := by
 unfold sumX
 rw [List.take_length]
 induction X with
 | nil => cases h
 | cons c f ih =>
   rw [List.map_cons, List.sum_cons]
   rcases List.mem_cons.1 h with rfl | h
   · omega
   · have := ih h; omega
theorem sumX_len (X : List (Int × List Int)) : X.length ≤ sumX X X.length := by
 unfold sumX
 rw [List.take_length]
 induction X with
 | nil => simp
 | cons c f ih => rw [List.map_cons, List.sum_cons, List.length_cons]; omega
structure D64 (d : DqV) : Prop where
 u64 : All64 d.univ
 x64 : ∀ x ∈ d.exist, I64 x.1 ∧ All64 x.2
 c64 : All64L d.clauses
theorem D64.ok {d : DqV} (h : D64 d) (hl : largeD d = false) : DOk d := by
 unfold largeD at hl
 rw [Bool.or_eq_false_iff, decide_eq_false_iff_not, decide_eq_false_iff_not] at hl
 have h1 := hl.1
 have h2 := hl.2
 unfold sizeD at h2
 have h3 := sumX_len d.exist
 exact ⟨h.u64, h.x64, h.c64, by omega, by omega, fun x hx => by have := sumX_get hx; omega, by omega, by omega⟩
end Go.Proofs.YtjecjaihficcdaaGreat
namespace Go.Proofs.YtjecjaihficcdaaGreat
open Go.RowKit
set_option maxRecDepth 100000 in
set_option maxHeartbeats 8000000 in
theorem reach_law (f : List (List Int)) (lit : Int) (u : Value) (w : World) (kr : RLL w u f) (h64 : All64L f) (hlit : I64 lit) (ht : f.length ≤ 60 → total f ≤ 9223372036854775807) :
 Calls Tryz.prog 3 #[u, .int .i64 lit] w fun e w' => e = .returned (.bool true) ∧ Ext w w' := by
 have hsz : sizeD ⟨[], [], f⟩ = total f := by simp [sizeD, sumX]
 have HLG := Lib.hid (large_any ⟨[], [], f⟩ (.slice none 0 0) (.slice none 0 0) u w ⟨RI.none _, ⟨none, 0, [], rfl, Nat.le_refl _, by simp, rfl, fun j h => absurd h (Nat.not_lt_zero j)⟩, kr⟩ (fun h => by rw [hsz]; exact ht h))
 have hlg : largeD ⟨[], [], f⟩ = (decide (60 < f.length) || decide (300 < total f)) := by unfold largeD; rw [hsz]
 rw [hlg] at HLG
 have KR := Lib.hid kr
 obtain ⟨A, c, us, hue, -⟩ := kr
 obtain ⟨n, hn⟩ : ∃ n, n = us.length := ⟨_, rfl⟩
 rw [← hn] at hue
 subst hue
 clear hn hsz hlg ht
 cases hl : (decide (60 < f.length) || decide (300 < total f)) with
 | true =>
   rw [hl] at HLG
   clear hl
   go_enter Tryz.func3, Tryz.ntmps3
   go_wp2_with (go_at_call 9; refine HLG.out.mono ?_; rintro e w2 ⟨rfl, hE⟩; have HE2 := Lib.hid hE; clear hE)
   go_wp2_with (go_at_call 10; refine (awake_any _).mono ?_; rintro e w3 ⟨rfl, hE⟩; have HE3 := Lib.hid (HE2.out.trans hE); clear hE)
   go_ret
   exact ⟨rfl, HE3.out⟩
 | false =>
   rw [hl] at HLG
   rw [Bool.or_eq_false_iff, decide_eq_false_iff_not, decide_eq_false_iff_not] at hl
   have htt : total f ≤ 9223372036854775807 := by omega
   have HR := Lib.hid (fun w' (h : Ext w w') => Reaches_any f lit _ w' hlit h64 (RLL.ext' KR.out h) (fun _ => htt))
   have HRR := Lib.hid (fun w' (h : Ext w w') => refReaches_any f _ w' h64 (RLL.ext' KR.out h) htt lit hlit)
   have HF := Lib.hid (fun w' (h : Ext w w') => Failed_any f _ w' h64 (RLL.ext' KR.out h) (fun _ => htt))
   have HRF := Lib.hid (fun w' (h : Ext w w') => refFailed_any f _ w' h64 (RLL.ext' KR.out h) htt)
   have HC := Lib.hid (fun w' (h : Ext w w') => progClasses_any f _ w' h64 (RLL.ext' KR.out h) (fun _ => htt))
   have HRC := Lib.hid (fun w' (h : Ext w w') => refClasses_any f _ w' h64 (RLL.ext' KR.out h) htt)
   generalize ReachV f lit = R at HR HRR
   generalize FailV f = F at HF HRF
   generalize (if mayCnfB f = true then RefClasses f else []) = C at HC HRC
   clear hl htt h64 hlit
   go_enter Tryz.func3, Tryz.ntmps3
   go_upto_region 3 with (go_at_call 9; refine HLG.out.mono ?_; rintro e w2 ⟨rfl, hE⟩; have HE2 := Lib.hid hE; clear hE)
   go_upto_region 4 with (go_at_call 12; refine (HR.out _ HE2.out).mono ?_; rintro e w3 ⟨v3, rfl, ho, hE⟩; have HO3 := Lib.hid ho.reads; have HE3 := Lib.hid (HE2.out.trans hE); clear ho hE)
   go_upto_region 4 with (go_at_call 13; refine (HRR.out _ HE3.out).mono ?_; rintro e w4 ⟨v4, rfl, ho, hE⟩; have HO4 := Lib.hid ho; have HO34 := Lib.hid (HO3.out.ext hE); have HE4 := Lib.hid (HE3.out.trans hE); clear ho hE)
   go_upto_region 4 with (go_at_call 11; refine (Same_refl R _ _ _ HO34.out HO4.out).mono ?_; rintro e w5 ⟨rfl, hE⟩; have HE5 := Lib.hid (HE4.out.trans hE); clear hE)
   go_upto_region 4 with (go_at_call 14; refine (HF.out _ HE5.out).mono ?_; rintro e w6 ⟨v6, rfl, ho, hE⟩; have HO6 := Lib.hid ho.reads; have HE6 := Lib.hid (HE5.out.trans hE); clear ho hE)
   go_upto_region 4 with (go_at_call 15; refine (HRF.out _ HE6.out).mono ?_; rintro e w7 ⟨v7, rfl, ho, hE⟩; have HO7 := Lib.hid ho; have HO67 := Lib.hid (HO6.out.ext hE); have HE7 := Lib.hid (HE6.out.trans hE); clear ho hE)
   go_upto_region 4 with (go_at_call 11; refine (Same_refl F _ _ _ HO67.out HO7.out).mono ?_; rintro e w8 ⟨rfl, hE⟩; have HE8 := Lib.hid (HE7.out.trans hE); clear hE)
   go_wp2_with (go_at_call 17; refine (HC.out _ HE8.out).mono ?_; rintro e w9 ⟨v9, rfl, ho, hE⟩; have HO9 := Lib.hid ho; have HE9 := Lib.hid (HE8.out.trans hE); clear ho hE)
   go_wp2_with (go_at_call 18; refine (HRC.out _ HE9.out).mono ?_; rintro e wa ⟨va, rfl, ho, hE⟩; have HOa := Lib.hid ho; have HO9a := Lib.hid (RLL.ext' HO9.out hE); have HEa := Lib.hid (HE9.out.trans hE); clear ho hE)
   go_wp2_with (go_at_call 16; refine (SameAll_refl C _ _ _ HO9a.out HOa.out).mono ?_; rintro e wb ⟨rfl, hE⟩; have HEb := Lib.hid (HEa.out.trans hE); clear hE)
   go_wp2_with (go_at_call 10; refine (awake_any _).mono ?_; rintro e wc ⟨rfl, hE⟩; have HEc := Lib.hid (HEb.out.trans hE); clear hE)
   go_ret
   exact ⟨rfl, HEc.out⟩
end Go.Proofs.YtjecjaihficcdaaGreat
namespace Go.Proofs.YtjecjaihficcdaaGreat
open Go.ChangeShapes Go.WideShapes Go.ChangeAt Go.RowKit
theorem ownK : ownKnob Tryz.prog.godebug = none := by kernel_rfl
theorem laidOutK : laidOutB Tryz.prog = true := by kernel_rfl
theorem cellsI : Tryz.prog.cellsOf 3 = 1 := by kernel_rfl
theorem cellsL : Tryz.prog.cellsOf 24 = 1 := by kernel_rfl
theorem bytesI : Tryz.prog.bytesOf 3 = 8 := by kernel_rfl
theorem I64_wf {n : Int} (h : (Lit.int .i64 n).wf = true) : I64 n := by
 have : -9223372036854775808 ≤ n ∧ n ≤ 9223372036854775807 := by simpa [Lit.wf, IntKind.min, IntKind.max, IntKind.bits, IntKind.signed] using h
 exact this
theorem weightsAll_mem {H : Type} {P : Program} {e : TypeId} : ∀ {l : List (DataW H)} {d : DataW H}, d ∈ l → ∀ n ∈ d.weights P e, n ∈ DataW.weightsAll P e l
 | d' :: r, d, hd, n, hn => by
   simp only [DataW.weightsAll, List.mem_append]
   rcases List.mem_cons.1 hd with rfl | h
   · exact Or.inl hn
   · exact Or.inr (weightsAll_mem h n hn)
theorem sized_inner {H : Type} {P : Program} {ts : List TypeId} {ds : List (DataW H)} (h : (DataW.weightsEach P ts ds).all (· ≤ reachBytes) = true) {j : Nat} {t e q : TypeId} {elems spare e' sp' : List (DataW H)}
 (ht : ts[j]? = some t) (hd : ds[j]? = some (.slice elems spare)) (hu : P.underlying t = some (.slice e)) (hu2 : P.underlying e = some (.slice q)) (hx : DataW.slice e' sp' ∈ elems) : (e'.length + sp'.length) * P.bytesOf q ≤ reachBytes := by
 refine of_decide_eq_true (List.all_eq_true.1 h _ (DataW.weights_mem_each ht hd _ ?_))
 simp only [DataW.weights, hu, List.mem_cons, List.mem_append]
 exact Or.inr (Or.inl (weightsAll_mem hx _ (by simp [DataW.weights, hu2])))
theorem open_RLL {H : Type} {enc : TypeId × Value → H} {W : World} {base : Nat} {held : Bool} {fuel : Nat} {a : Option Addr} {len cap : Nat} {x : DataW H × List MemPlace}
 (h : DataW.trod enc Tryz.prog W base (fun _ => true) held fuel 22 (Value.slice a len cap).cells.toList = some x) :
 ∃ f, RLL W (.slice a len cap) f ∧ All64L f ∧ f.length = len ∧ (a = none → cap = 0) ∧
  (f = [] ∨ ∃ e s, x.1 = .slice e s ∧ f.length ≤ e.length + s.length ∧ ∀ c ∈ f, c.length = 0 ∨ ∃ e' s', DataW.slice e' s' ∈ e ∧ c.length ≤ e'.length + s'.length) := by
 rcases Go.Deep.open_int_rows Tryz.underlying22 Tryz.underlying24 Tryz.underlying3 cellsL cellsI h with ⟨hcs, hx⟩ | ⟨a', len', cap', A, L, C, Z, hcs, _, hl, hm, hx, hr⟩
 · simp [Value.cells] at hcs
   obtain ⟨rfl, rfl, rfl⟩ := hcs
   exact ⟨[], RLL.none W, fun y hy => (by cases hy), rfl, fun _ => rfl, .inl rfl⟩
 · simp [Value.cells] at hcs
   obtain ⟨rfl, rfl, rfl⟩ := hcs
   unfold maxLen at hm hr
   let f : List (List Int) := List.ofFn fun r : Fin len => (Z r.1).take (L r.1)
   have hfl : f.length = len := by simp [f]
   have hfg : ∀ j (hj : j < f.length), f[j] = (Z j).take (L j) := fun j hj => by simp [f]
   have hfk : ∀ j (hj : j < f.length), f[j].length = L j := fun j hj => by
    rw [hfg j hj, List.length_take]
    have := hr j (by omega); omega
   let vs : List Value := List.ofFn fun r : Fin len => Value.slice (A r.1) (L r.1) (C r.1)
   have hvl : vs.length = len := by simp [vs]
   have hvg : ∀ j (hj : j < vs.length), vs[j] = Value.slice (A j) (L j) (C j) := fun j hj => by simp [vs]
   refine ⟨f, ⟨some a', cap, vs, by rw [hvl], by omega, by omega, fun j hj => ⟨a', rfl, ?_⟩, by omega, fun j hj hj' => ?_⟩, fun c hc => ?_, hfl, fun h => (by cases h), .inr ⟨_, _, by rw [hx], by simp; omega, fun c hc => ?_⟩⟩
   · rw [hvg j hj]; exact (hr j (by omega)).1
   · obtain ⟨h1, h2, h3, h4, h5, h6, h7⟩ := hr j (by omega)
     refine ⟨A j, C j, by rw [hvg j hj, hfk j hj'], by rw [hfk j hj']; exact h2, by rw [hfk j hj']; omega, fun i hi => ?_⟩
     rw [List.length_map, hfk j hj'] at hi
     cases hA : A j with
     | none => have := h6 hA; omega
     | some a'' =>
       refine ⟨a'', rfl, ?_⟩
       rw [(h7 a'' hA).2 i (by omega), List.getElem_map]
       have : f[j][i]'(by rw [hfk j hj']; exact hi) = (Z j).getD i 0 := by
        simp only [hfg j hj', List.getElem_take]
        simp [show i < (Z j).length by omega]
       rw [this]
   · obtain ⟨j, hj, rfl⟩ := List.mem_iff_getElem.1 hc
     intro y hy
     rw [hfg j hj] at hy
     exact I64_wf ((hr j (by omega)).2.2.2.2.1 y (List.mem_of_mem_take hy))
   · obtain ⟨j, hj, rfl⟩ := List.mem_iff_getElem.1 hc
     rw [hfk j hj]
     obtain ⟨h1, h2, h3, h4, h5, h6, h7⟩ := hr j (by omega)
     cases hA : A j with
     | none => left; have := h6 hA; omega
     | some a'' =>
       right
       refine ⟨_, _, List.mem_map.2 ⟨j, List.mem_range.2 (by omega), by rw [hA]; rfl⟩, by simp [lits]; omega⟩
theorem total_le {l : List (List Int)} {M : Nat} (h : ∀ c ∈ l, c.length ≤ M) : total l ≤ l.length * M := by
 unfold total lens
 rw [List.take_length]
 induction l with
 | nil => simp
 | cons c l ih =>
   have h1 := h c (by simp)
   have h2 := ih fun c hc => h c (by simp [hc])
   rw [List.map_cons, List.sum_cons, List.length_cons, Nat.add_mul]
   omega
set_option maxRecDepth 100000 in
theorem equivReaches_lifted (os : Os) (started : os.Started) (H : Type) (enc : TypeId × Value → H) :
 ReturnsInHanded {} Tryz.checked os 3 .any (Rows.equivReachesSpec.pre6 enc Tryz.prog Tryz.f3 [] false) (Rows.equivReachesSpec.post enc Tryz.prog Tryz.f3 false true false false) := by
 refine returnsInHanded_of_change_sized (C := Tryz.checked) ownK started (by kernel_rfl) Tryz.func3
  (ChangeSpec.witness6 (enc := enc) (C := Tryz.checked) false ⟨#[], #[.slice none 0 0, .int .i64 0], []⟩ 8 (by kernel_rfl) (by kernel_rfl) (by kernel_rfl) (by kernel_rfl)) ?_
 intro W base args ds gs before hval0 hW _ hsz0 _
 have hsz : (DataW.weightsEach Tryz.prog (Tryz.f3.params.toList ++ Rows.equivReachesSpec.plain.varTypes Tryz.prog) (ds ++ gs)).all (· ≤ reachBytes) = true := hsz0
 clear hsz0
 have hval : ∀ (j : Nat) t v, Tryz.f3.params[j]? = some t → args[j]? = some v → Value.okWide Tryz.prog W .any base t v := hval0
 have hW' := hW
 obtain ⟨p, q, hA0, hV, rfl, hfz, hnd⟩ := hW
 have hA : DataW.TrodAll enc Tryz.prog W 0 (fun _ => true) true Tryz.f3.params.toList args.toList ds p := hA0
 rw [Tryz.params3] at hA hval hsz
 obtain ⟨v0, v1, d0, d1, p0, p1, rfl, rfl, rfl, h0, h1⟩ := trodAll_two hA
 obtain ⟨rfl, rfl⟩ := trodVars_none hV
 obtain ⟨a0, len0, cap0, rfl⟩ := okWide_slice Tryz.underlying22 (hval 0 22 v0 rfl rfl)
 have h0k := h0
 obtain ⟨fuel0, hf0⟩ := h0
 obtain ⟨x0, r0, e0, l0, n0, hx0⟩ := open_RLL hf0
 have h1k := h1
 obtain ⟨x1, rfl, -, -, w1⟩ := open_int Tryz.underlying3 (hval 1 3 v1 rfl rfl) h1
 have b1 : -9223372036854775808 ≤ x1 ∧ x1 ≤ 9223372036854775807 := by
  have : IntKind.i64.min ≤ x1 ∧ x1 ≤ IntKind.i64.max := by simpa [Lit.wf] using w1
  simp [IntKind.min, IntKind.max, IntKind.bits, IntKind.signed] at this
  omega
 clear hA0 hval0
 simp only [List.append_nil] at hW'
 have hlt : ∀ x ∈ p0 ++ p1, x.block < W.heap.size := fun x hx => by simpa using hW'.lt x hx
 have hre : reachBytes = 140737488351232 := rfl
 have b0 : ∀ c ∈ x0, c.length ≤ 17592186043904 := by
  rcases hx0 with rfl | ⟨e, s, he, hle, hin⟩
  · exact fun c hc => by cases hc
  · have he' : d0 = .slice e s := he
    refine fun c hc => ?_
    rcases hin c hc with h | ⟨e', s', hm, h⟩
    · omega
    · have := sized_inner hsz (j := 0) (t := 22) rfl (by rw [he']; rfl) Tryz.underlying22 Tryz.underlying24 hm
      rw [bytesI, hre] at this
      omega
 have ht : x0.length ≤ 60 → total x0 ≤ 9223372036854775807 := fun h => by
  have h2 := total_le b0
  have h3 : x0.length * 17592186043904 ≤ 60 * 17592186043904 := Nat.mul_le_mul_right _ h
  omega
 refine (reach_law x0 x1 (.slice a0 len0 cap0) W r0 e0 b1 ht).mono fun e W' ⟨he, hE⟩ => ?_
 subst he
 have hargs : DataW.TrodAll enc Tryz.prog W' 0 (fun b => decide (b < W.heap.size)) true [22, 3] [.slice a0 len0 cap0, .int .i64 x1] [d0, d1] (p0 ++ p1) :=
  trodAll_mk2 (Below.trod laidOutK (by kernel_rfl) (of_decide_eq_true (by kernel_rfl)) h0k hE (fun x hx => hlt x (List.mem_append_left _ hx))) (Below.trod laidOutK (by kernel_rfl) (of_decide_eq_true (by kernel_rfl)) h1k hE (fun x hx => hlt x (List.mem_append_right _ hx)))
 exact ⟨_, rfl, _, _, _, [], p0 ++ p1, [], hW', trodAll_mk1 (shut_bool Tryz.underlying4 true), hargs, rfl, hE.frame _, fun h => by cases h⟩
theorem equivReaches_holds : Rows.EquivReachesSaid :=
 OpenClaim.holds_of_wide 3 Tryz.f3 rfl rfl rfl rfl rfl rfl rfl ⟨rfl, rfl, rfl, rfl, rfl⟩ rfl rfl rfl rfl rfl (by kernel_rfl) Tryz.func3 (by kernel_rfl)
  (of_decide_eq_true (by kernel_rfl)) (by unfold Func.isWrapper; first | (rw [if_pos (by decide +kernel)]; kernel_rfl) | (rw [if_neg (by decide +kernel)]; exact ⟨rfl, rfl⟩))
  (fun os started H enc _ => by rw [OpenClaim.pre_of_none rfl]; exact equivReaches_lifted os started H enc)
#print axioms equivReaches_holds
end Go.Proofs.YtjecjaihficcdaaGreat
