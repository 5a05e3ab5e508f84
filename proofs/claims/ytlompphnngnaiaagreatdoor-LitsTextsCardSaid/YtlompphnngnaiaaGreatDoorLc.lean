/- Walks of cmp.Compare, lits.merge, lits.Join, asg.Agree. Walks of lits.order and lits.by: the order of literals as a comparison for the library's sort. Sorting and compacting rows of the call's own; walk of lits.Vars. Walk of lits.Norm: the library's sort by the order of literals, and the striking of equal neighbours. Walks of slices.Index and slices.Contains over integers. Walk of lits.Resolve. Walk of lits.Strike. Walks of slices.CompareFunc and lits.Compare. Walk of slices.Equal over integers. Walks of skolemref01.Same and SameAll. Walk of lits.Sub: whether a normal list is within another. Walks of lits.Join and asg.Agree. Walks of lits.each and of Neg, Without, Within. -/
import Derived.Test.YtlompphnngnaiaaGreatDoorLb
import Derived.Test.YtlompphnngnaiaaGreatDoorLa
import Derived.Deep.CutRange
import Derived.Test.YtlompphnngnaiaaGreatDoorShelf
import Derived.Sort.OwnSortedInts
import Derived.Lib.RowBridge
import Derived.Test.YtlompphnngnaiaaGreatDoorShelfF
import Derived.Shelf.SlSortCmp.NoneTotal
import Derived.Deep.LoopGhost
import Derived.Sort.Grow
import Derived.BigQuiet
import Derived.Deep.Cut
namespace Go.Proofs.YtlompphnngnaiaaGreatDoor
open Go.RowKit

def cmpI (a b : Int) : Int := if a < b then -1 else if b < a then 1 else 0

set_option maxHeartbeats 400000 in
theorem isNaN_any (a : Int) (w : World) : Calls Tryz.prog 114 #[.int .i64 a] w fun e w' => e = .returned (.bool false) ∧ w = w' := by
  go_enter Tryz.func114, Tryz.ntmps114
  go_wp2
  go_ret
  exact ⟨by simp, rfl⟩

set_option maxHeartbeats 400000 in
theorem cmp_any (a b : Int) (w : World) : Calls Tryz.prog 95 #[.int .i64 a, .int .i64 b] w fun e w' => e = .returned (.int .i64 (cmpI a b)) ∧ w = w' := by
  by_cases h1 : a < b
  · go_enter Tryz.func95, Tryz.ntmps95
    go_wp2_with (go_at_call 114; refine (isNaN_any _ _).mono ?_; rintro e w' ⟨rfl, rfl⟩)
    go_ret
    exact ⟨ret_int (by unfold cmpI; rw [if_pos h1]), rfl⟩
  · by_cases h2 : b < a
    · go_enter Tryz.func95, Tryz.ntmps95
      go_wp2_with (go_at_call 114; refine (isNaN_any _ _).mono ?_; rintro e w' ⟨rfl, rfl⟩)
      go_ret
      exact ⟨ret_int (by unfold cmpI; rw [if_neg (by omega), if_pos h2]), rfl⟩
    · go_enter Tryz.func95, Tryz.ntmps95
      go_wp2_with (go_at_call 114; refine (isNaN_any _ _).mono ?_; rintro e w' ⟨rfl, rfl⟩)
      go_ret
      exact ⟨ret_int (by unfold cmpI; rw [if_neg (by omega), if_neg (by omega)]), rfl⟩

set_option maxHeartbeats 400000 in
theorem join1_fn (x y : Int) (w : World) : Calls Tryz.prog 65 #[.int .i64 x, .int .i64 y] w fun e w' => e = .returned (.bool (x == y)) ∧ w = w' := by
  go_enter Tryz.func65, Tryz.ntmps65
  go_wp2
  go_ret
  exact ⟨rfl, rfl⟩

/-- xs[1:] -/
theorem slice_1 (A : Option Addr) (l c : Nat) : ∀ W : World, (Instr.slice 22 (.slice A (l + 1) c) (some (.int .i64 1)) none none).run Tryz.prog W = .ok (.slice (if c = 1 then A else A.map (·.add 1)) l (c - 1)) W := by
  intro W
  have h := slice_from (P := Tryz.prog) Tryz.underlying22 info_int A (l + 1) c 1 (by omega) W
  simpa using h

theorem fv_join1 : Fv Tryz.prog 65 := ⟨_, Tryz.func65, by kernel_rfl, by kernel_rfl⟩

theorem cmp_lt {a b : Int} (h : a < b) (w : World) : Calls Tryz.prog 95 #[.int .i64 a, .int .i64 b] w fun e w' => e = .returned (.int .i64 (-1)) ∧ w = w' := by
  have := cmp_any a b w
  unfold cmpI at this
  rwa [if_pos h] at this
theorem cmp_gt {a b : Int} (h : b < a) (w : World) : Calls Tryz.prog 95 #[.int .i64 a, .int .i64 b] w fun e w' => e = .returned (.int .i64 1) ∧ w = w' := by
  have := cmp_any a b w
  unfold cmpI at this
  rwa [if_neg (by omega), if_pos h] at this
theorem cmp_eq {a b : Int} (h : a = b) (w : World) : Calls Tryz.prog 95 #[.int .i64 a, .int .i64 b] w fun e w' => e = .returned (.int .i64 0) ∧ w = w' := by
  have := cmp_any a b w
  unfold cmpI at this
  rwa [if_neg (by omega), if_neg (by omega)] at this

/-- The state of a merge. -/
structure MS (p : Int → Int → Bool) (w wr : World) (xs ys : List Int) (va vb vo : Value) (la lb lo : List Int) : Prop where
  ra : RI w va la
  rb : RI w vb lb
  ro : OwnI wr w.heap.size vo lo
  ext : Ext w wr
  eq : (mergeL p la lb).map (lo ++ ·) = mergeL p xs ys
  len : lo.length + la.length + lb.length ≤ xs.length + ys.length
  a64 : All64 la
  b64 : All64 lb

theorem All64.tail {x : Int} {xs : List Int} (h : All64 (x :: xs)) : All64 xs := fun y hy => h y (by simp [hy])

section
variable {p : Int → Int → Bool} {w wr w2 : World} {xs ys la lb lo : List Int} {vb vo vo' : Value} {A B : Option Addr} {c d : Nat} {x y : Int} {na nb : Nat}
theorem MS.left {A' : Option Addr} (h : MS p w wr xs ys (.slice A (na + 1) c) vb vo (x :: la) (y :: lb) lo) (hA : A' = if c = 1 then A else A.map (·.add 1)) (hna : na = la.length) (hlt : varOf x < varOf y) (ho : OwnI w2 w.heap.size vo' (lo ++ [x])) (he : Ext w w2) :
    MS p w w2 xs ys (.slice A' na (c - 1)) vb vo' la (y :: lb) (lo ++ [x]) := by
  subst hna hA
  have h1 := h.eq
  rw [mergeL, if_pos hlt, Option.map_map] at h1
  refine ⟨h.ra.tail, h.rb, ho, he, ?_, by have := h.len; simp only [List.length_cons, List.length_append, List.length_nil] at *; omega, h.a64.tail, h.b64⟩
  rw [← h1]
  congr 1
  funext l
  simp
theorem MS.right {va : Value} {B' : Option Addr} (h : MS p w wr xs ys va (.slice B (nb + 1) d) vo (x :: la) (y :: lb) lo) (hB : B' = if d = 1 then B else B.map (·.add 1)) (hnb : nb = lb.length) (hlt : varOf y < varOf x) (ho : OwnI w2 w.heap.size vo' (lo ++ [y])) (he : Ext w w2) :
    MS p w w2 xs ys va (.slice B' nb (d - 1)) vo' (x :: la) lb (lo ++ [y]) := by
  subst hnb hB
  have h1 := h.eq
  rw [mergeL, if_neg (by omega), if_pos hlt, Option.map_map] at h1
  refine ⟨h.ra, h.rb.tail, ho, he, ?_, by have := h.len; simp only [List.length_cons, List.length_append, List.length_nil] at *; omega, h.a64, h.b64.tail⟩
  rw [← h1]
  congr 1
  funext l
  simp
theorem MS.both {A' B' : Option Addr} (h : MS p w wr xs ys (.slice A (na + 1) c) (.slice B (nb + 1) d) vo (x :: la) (x :: lb) lo) (hA : A' = if c = 1 then A else A.map (·.add 1)) (hB : B' = if d = 1 then B else B.map (·.add 1)) (hna : na = la.length) (hnb : nb = lb.length) (hp : p x x = true) (ho : OwnI w2 w.heap.size vo' (lo ++ [x])) (he : Ext w w2) :
    MS p w w2 xs ys (.slice A' na (c - 1)) (.slice B' nb (d - 1)) vo' la lb (lo ++ [x]) := by
  subst hna hnb hA hB
  have h1 := h.eq
  rw [mergeL, if_neg (by omega), if_neg (by omega), if_neg (by rw [hp]; decide), if_pos rfl, Option.map_map] at h1
  refine ⟨h.ra.tail, h.rb.tail, ho, he, ?_, by have := h.len; simp only [List.length_cons, List.length_append, List.length_nil] at *; omega, h.a64.tail, h.b64.tail⟩
  rw [← h1]
  congr 1
  funext l
  simp
theorem MS.drop {A' B' : Option Addr} (h : MS p w wr xs ys (.slice A (na + 1) c) (.slice B (nb + 1) d) vo (x :: la) (y :: lb) lo) (hA : A' = if c = 1 then A else A.map (·.add 1)) (hB : B' = if d = 1 then B else B.map (·.add 1)) (hna : na = la.length) (hnb : nb = lb.length) (hv : varOf x = varOf y) (hne : x ≠ y) (hp : p x y = true) (he : Ext wr w2) :
    MS p w w2 xs ys (.slice A' na (c - 1)) (.slice B' nb (d - 1)) vo la lb lo := by
  subst hna hnb hA hB
  have h1 := h.eq
  rw [mergeL, if_neg (by omega), if_neg (by omega), if_neg (by rw [hp]; decide), if_neg hne] at h1
  exact ⟨h.ra.tail, h.rb.tail, own_ext h.ro he, h.ext.trans he, h1, by have := h.len; simp only [List.length_cons] at *; omega, h.a64.tail, h.b64.tail⟩
theorem MS.stop {va : Value} (h : MS p w wr xs ys va vb vo (x :: la) (y :: lb) lo) (hv : varOf x = varOf y) (hp : p x y = false) : mergeL p xs ys = none := by
  rw [← h.eq, mergeL, if_neg (by omega), if_neg (by omega), if_pos hp]; rfl
end

def PostMerge (w : World) (r : Option (List Int)) (e : Ending) (w' : World) : Prop := ∃ v, e = .returned (.tuple #[v, .bool r.isSome]) ∧ OwnI w' w.heap.size v (r.getD []) ∧ Ext w w'

theorem wpQuiet_callc {P : Program} {ops : Array Oper} {W : World} {Q : Act → Prop} {rest : List Oper} {o : Oper} {a : Act} (x : Operand) (ys : Array Operand) (ts : Array TypeId)
    (ho : o.op = .call { callee := .value x, args := ys, argTypes := ts }) (hw : Region.wanted o (yielded ops a.tmps) = true) {f : FuncId} (cap : Array Value) (hv : a.eval x = .func (.func f) #[] cap) (hf : Fv P f)
    (vals : Array Value) (ha : ys.map a.eval = vals) (v : Value) (h : ∀ n, Calls P f (vals ++ cap) (W.drewN n) fun e w' => e = .returned v ∧ ∃ m, w' = W.drewN m)
    (hk : wpQuiet P ops (fun w' => ∃ n, w' = W.drewN n) Q rest (a.put o.dst v)) : wpQuiet P ops (fun w' => ∃ n, w' = W.drewN n) Q (o :: rest) a :=
  wpQuiet_callv x ys ts ho hw cap hv hf (vals ++ cap) (by rw [ha]) v h hk

set_option maxRecDepth 100000 in
set_option maxHeartbeats 4000000 in
theorem merge_any (f : FuncId) (cap : Array Value) (hf : Fv Tryz.prog f) (p : Int → Int → Bool) (hpp : ∀ x, p x x = true) (xs ys : List Int) (v u : Value) (w : World) (h64 : All64 xs) (k64 : All64 ys) (hr : RI w v xs) (kr : RI w u ys) (hl : xs.length + ys.length ≤ 1000000)
    (hcl : ∀ x y, I64 x → I64 y → ∀ w', Ext w w' → ∀ n, Calls Tryz.prog f (#[.int .i64 x, .int .i64 y] ++ cap) (w'.drewN n) fun e w'' => e = .returned (.bool (p x y)) ∧ ∃ m, w'' = w'.drewN m) :
    Calls Tryz.prog 59 #[v, u, .func (.func f) #[] cap] w (PostMerge w (mergeL p xs ys)) := by
  have HM0 : Hid (MS p w w xs ys v u (.slice none 0 0) xs ys []) := Lib.hid ⟨hr, kr, OwnI.nil _ _, Ext.refl _, by cases mergeL p xs ys <;> simp, by simp, h64, k64⟩
  obtain ⟨A0, c0, rfl, -⟩ := hr
  obtain ⟨B0, d0, rfl, -⟩ := kr
  have HCL := Lib.hid hcl
  have HPP := Lib.hid hpp
  clear h64 k64 hcl hpp
  go_enter Tryz.func59, Tryz.ntmps59
  go_wp2
  go_loopg [0, 1, 8] (xs.length + ys.length) (fun gn a b o wr => ∃ (la lb lo : List Int) (A B : Option Addr) (c d : Nat), gn = la.length + lb.length ∧ a = .slice A la.length c ∧ b = .slice B lb.length d ∧ Hid (MS p w wr xs ys a b o la lb lo))
  case atStart => exact ⟨xs, ys, [], A0, B0, c0, d0, rfl, rfl, rfl, HM0⟩
  case round =>
    obtain ⟨la, lb, lo, A, B, c, d, hgn, rfl, rfl, HM⟩ := hrel
    cases la with
    | nil =>
      have hlo := HM.out.len
      have heq := HM.out.eq
      rw [mergeL] at heq
      have HEQ := Lib.hid heq
      have HRA := Lib.hid (HM.out.ra.ext HM.out.ext)
      have HRB := Lib.hid (HM.out.rb.ext HM.out.ext)
      have HGN := Lib.hid hgn
      clear heq hgn
      simp only [List.length_nil] at hlo HM ⊢ HRA
      obtain ⟨nb, hnb⟩ : ∃ n, n = lb.length := ⟨_, rfl⟩
      rw [← hnb] at hlo HRB HM ⊢
      have HNB := Lib.hid hnb
      clear hnb
      go_wp2_with (at_builtin
                   with_reducible refine at_dst 78 rfl ?_
                   refine app_I rfl (.tmp 76) (.tmp 77) rfl (base := w.heap.size) (v := u8) (xs := lo) rfl rfl HM.out.ro HRA.out (by simp only [List.length_nil]; omega) HM.out.ext.size ?_
                   intro v1 w1 hown hg
                   have HOW := Lib.hid hown
                   have HEW := Lib.hid (grow_ext HM.out.ext HM.out.ro hg)
                   have HRB1 := Lib.hid (HM.out.rb.ext HEW.out)
                   clear hown hg
                   go_wp2_with (at_builtin
                                with_reducible refine at_dst 80 rfl ?_
                                refine app_I rfl (.tmp 78) (.tmp 79) rfl (base := w.heap.size) (v := v1) (xs := lo ++ []) (ys := lb) rfl rfl HOW.out HRB1.out (by rw [← HNB.out]; simp only [List.length_append, List.length_nil]; omega) HEW.out.size ?_
                                intro v2 w2 hown hg
                                have HOW2 := Lib.hid hown
                                have HEW2 := Lib.hid (grow_ext HEW.out HOW.out hg)
                                clear hown hg))
      go_ret2
      have e1 : mergeL p xs ys = some (lo ++ lb) := by rw [← HEQ.out]; rfl
      refine ⟨v2, by rw [e1]; rfl, ?_, HEW2.out⟩
      rw [e1]
      have := HOW2.out
      rw [List.append_nil] at this
      exact this
    | cons x la =>
      cases lb with
      | nil =>
        have hlo := HM.out.len
        have heq := HM.out.eq
        rw [mergeL] at heq
        have HEQ := Lib.hid heq
        have HRA := Lib.hid (HM.out.ra.ext HM.out.ext)
        have HRB := Lib.hid (HM.out.rb.ext HM.out.ext)
        have HGN := Lib.hid hgn
        clear heq hgn
        simp only [List.length_nil] at hlo HM HRB ⊢
        obtain ⟨la', hla⟩ : ∃ l, l = x :: la := ⟨_, rfl⟩
        rw [← hla] at hlo HRA HM HEQ ⊢
        clear hla
        obtain ⟨na, hna⟩ : ∃ n, n = la'.length := ⟨_, rfl⟩
        rw [← hna] at hlo HRA HM ⊢
        have hna0 : 0 < na ∨ na = 0 := by omega
        have HNA := Lib.hid hna
        clear hna
        go_wp2_with (at_builtin
                     with_reducible refine at_dst 78 rfl ?_
                     refine app_I rfl (.tmp 76) (.tmp 77) rfl (base := w.heap.size) (v := u8) (xs := lo) rfl rfl HM.out.ro HRA.out (by rw [← HNA.out]; omega) HM.out.ext.size ?_
                     intro v1 w1 hown hg
                     have HOW := Lib.hid hown
                     have HEW := Lib.hid (grow_ext HM.out.ext HM.out.ro hg)
                     have HRB1 := Lib.hid (HM.out.rb.ext HEW.out)
                     clear hown hg
                     go_wp2_with (at_builtin
                                  with_reducible refine at_dst 80 rfl ?_
                                  refine app_I rfl (.tmp 78) (.tmp 79) rfl (base := w.heap.size) (v := v1) (xs := lo ++ la') (ys := []) rfl rfl HOW.out HRB1.out (by rw [List.length_append, ← HNA.out]; simp only [List.length_nil]; omega) HEW.out.size ?_
                                  intro v2 w2 hown hg
                                  have HOW2 := Lib.hid hown
                                  have HEW2 := Lib.hid (grow_ext HEW.out HOW.out hg)
                                  clear hown hg))
        all_goals
          go_ret2
          have e1 : mergeL p xs ys = some (lo ++ la') := by rw [← HEQ.out]; rfl
          refine ⟨v2, by rw [e1]; rfl, ?_, HEW2.out⟩
          rw [e1]
          have := HOW2.out
          rw [List.append_nil] at this
          exact this
      | cons y lb =>
        obtain ⟨-, a1, a2, ad, rfl, a0, -⟩ := HM.out.ra.head
        obtain ⟨-, b1, b2, bd, rfl, b0, -⟩ := HM.out.rb.head
        have a3 := HM.out.ext.cell a0
        have b3 := HM.out.ext.cell b0
        have A0 := Lib.hid a0
        have B0 := Lib.hid b0
        clear a0 b0
        have hx := HM.out.a64 x (by simp)
        have hy := HM.out.b64 y (by simp)
        have hsa := slice_1 (some ad) la.length c
        have hsb := slice_1 (some bd) lb.length d
        obtain ⟨A', hA⟩ : ∃ A', A' = (if c = 1 then some ad else (some ad).map (·.add 1)) := ⟨_, rfl⟩
        obtain ⟨B', hB⟩ : ∃ B', B' = (if d = 1 then some bd else (some bd).map (·.add 1)) := ⟨_, rfl⟩
        rw [← hA] at hsa
        rw [← hB] at hsb
        have HA := Lib.hid hA
        have HB := Lib.hid hB
        clear hA hB
        have HGN := Lib.hid hgn
        clear hgn
        simp only [List.length_cons] at HM ⊢
        obtain ⟨na, hna⟩ : ∃ n, n = la.length := ⟨_, rfl⟩
        obtain ⟨nb, hnb⟩ : ∃ n, n = lb.length := ⟨_, rfl⟩
        rw [← hna] at hsa a1 a2 HM ⊢
        rw [← hnb] at hsb b1 b2 HM ⊢
        have HNA := Lib.hid hna
        have HNB := Lib.hid hnb
        clear hna hnb
        have hll := HM.out.len
        simp only [List.length_cons] at hll
        have hlo : lo.length ≤ 10000000 := by omega
        clear hll
        rcases Int.lt_trichotomy (varOf x) (varOf y) with hc | hc | hc
        · have HC := Lib.hid hc
          clear hc
          go_upto_region 8 with ((go_quiet ((first | (go_at_call_of 33 (Value.int .i64 x); exact quiet_same (var_any x hx _)) | (go_at_call_of 33 (Value.int .i64 y); exact quiet_same (var_any y hy _)) | (go_at_call 95; exact quiet_same (cmp_lt HC.out _))))))
          generalize hW : wr.drewN _ = W1
          have HE : Hid (Ext w W1) := Lib.hid (hW ▸ HM.out.ext.trans (Ext.drewN _ _))
          have HO : Hid (OwnI W1 w.heap.size u8 lo) := Lib.hid (hW ▸ own_ext HM.out.ro (Ext.drewN _ _))
          have a5 : W1.cell? ad = some (.int .i64 x) := HE.out.cell A0.out
          have a6 : (W1.alloc (.cells #[.int .i64 x] 3)).drew.cell? ad = some (.int .i64 x) := ((Ext.alloc W1 _).trans (Ext.drew _)).cell a5
          clear hW a3 b3
          go_region_held3 (fun w' => w'.cell? ad = some (.int .i64 x)) (first | exact a5 | exact a6 | exact a7 | go_keep) (first | (
            refine step_app_1 (v := u8) rfl (.tmp 47) (.tmp 51) rfl (base := w.heap.size) (xs := lo) (y := x) rfl rfl ?c2 ?c1 hlo ?c3 ?_
            case c1 => exact own_ext HO.out ((Ext.alloc W1 _).trans (Ext.drew _))
            case c2 => exact (Ext.drew _).cell (Var1.new W1 3 (.int .i64 x)).cell
            case c3 => exact (HE.out.trans ((Ext.alloc W1 _).trans (Ext.drew _))).size
            intro v' w' hown hg
            have HOW := Lib.hid hown
            have HEW := Lib.hid (grow_ext (HE.out.trans ((Ext.alloc W1 _).trans (Ext.drew _))) (own_ext HO.out ((Ext.alloc W1 _).trans (Ext.drew _))) hg)
            have a7 := HEW.out.cell A0.out
            clear hown hg))
          go_wp2
          go_roundg (na + (nb + 1))
          case measure => have := HGN.out; have := HNA.out; have := HNB.out; simp only [List.length_cons] at *; omega
          case rel => exact ⟨la, y :: lb, lo ++ [x], A', some bd, c - 1, d, by rw [HNA.out, HNB.out]; simp, by rw [HNA.out], by rw [HNB.out]; simp, HM.out.left HA.out HNA.out HC.out HOW.out HEW.out⟩
        · have HC := Lib.hid hc
          clear hc
          go_upto_region 11 with ((go_quiet ((first | (go_at_call_of 33 (Value.int .i64 x); exact quiet_same (var_any x hx _)) | (go_at_call_of 33 (Value.int .i64 y); exact quiet_same (var_any y hy _)) | (go_at_call 95; exact quiet_same (cmp_eq HC.out _))))))
          generalize hW : wr.drewN _ = W1
          have HE : Hid (Ext w W1) := Lib.hid (hW ▸ HM.out.ext.trans (Ext.drewN _ _))
          have HO : Hid (OwnI W1 w.heap.size u8 lo) := Lib.hid (hW ▸ own_ext HM.out.ro (Ext.drewN _ _))
          have a5 : W1.cell? ad = some (.int .i64 x) := HE.out.cell A0.out
          have b5 : W1.cell? bd = some (.int .i64 y) := HE.out.cell B0.out
          have HWR : Hid (Ext wr W1) := Lib.hid (by rw [← hW]; exact Ext.drewN wr _)
          clear hW a3 b3
          by_cases hxy : x = y
          · subst hxy
            have hxx : (x == x) = true := by simp
            have hcx := HCL.out x x hx hx W1 HE.out
            rw [HPP.out x] at hcx
            have HCX := Lib.hid hcx
            clear hcx
            refine wp_region_quiet_lit (by kernel_rfl) (by kernel_rfl) ?_
            repeat (go_big_quiet_step (fail))
            refine wpQuiet_callc (.tmp 67) #[.tmp 70, .tmp 73] _ rfl rfl cap rfl hf #[.int .i64 x, .int .i64 x] (by simp only [List.map_toArray, List.map_cons, List.map_nil]; rfl) (.bool true) HCX.out ?_
            simp only [Act.put, List.setIfInBounds_toArray, List.set_cons_zero, List.set_cons_succ]
            repeat (go_big_quiet_step (fail))
            refine wpQuiet_nil ?_
            intro _ hw'
            obtain ⟨nq, hw''⟩ := hw'
            subst hw''
            go_wp2_with fail
            generalize hV : W1.drewN _ = V1
            have a6 : V1.cell? ad = some (.int .i64 x) := hV ▸ a5
            have b6 : V1.cell? bd = some (.int .i64 x) := hV ▸ b5
            go_quiet (fail)
            have hW0 : ∀ n, Ext W1 (V1.drewN n) := fun n => hV ▸ (Ext.drewN _ _).trans (Ext.drewN _ _)
            generalize hW : V1.drewN _ = W2
            have hW1 : Ext W1 W2 := hW ▸ hW0 _
            have HE2 : Hid (Ext w W2) := Lib.hid (HE.out.trans hW1)
            have HO2 : Hid (OwnI W2 w.heap.size u8 lo) := Lib.hid (own_ext HO.out hW1)
            have a7 : W2.cell? ad = some (.int .i64 x) := HE2.out.cell A0.out
            clear hW hV hW0 hW1 a5 b5 a6 b6 hxx
            go_upto_region 6 with (at_builtin
                                   refine app_1 rfl (.tmp 34) (.tmp 38) rfl (base := w.heap.size) (xs := lo) (y := x) rfl rfl HO2.out hlo HE2.out.size ?_
                                   intro v' w' hown hg
                                   have HOW := Lib.hid hown
                                   have HEW := Lib.hid (hg.toExt HE2.out (fun i hi => (own_typed HO2.out hi.symm).1))
                                   clear hown hg)
            clear a7
            go_quiet (fail)
            generalize hW2 : w'.drewN _ = W3
            have HE3 : Hid (Ext w W3) := Lib.hid (hW2 ▸ HEW.out.trans (Ext.drewN _ _))
            have HO3 : Hid (OwnI W3 w.heap.size v' (lo ++ [x])) := Lib.hid (hW2 ▸ own_ext HOW.out (Ext.drewN _ _))
            clear hW2
            go_wp2
            go_roundg (na + nb)
            case measure => have := HGN.out; have := HNA.out; have := HNB.out; simp only [List.length_cons] at *; omega
            case rel => exact ⟨la, lb, lo ++ [x], A', B', c - 1, d - 1, by rw [HNA.out, HNB.out], by rw [HNA.out], by rw [HNB.out], HM.out.both HA.out HB.out HNA.out HNB.out (HPP.out x) HO3.out HE3.out⟩
          · have hxb : (x == y) = false := by simpa using hxy
            have HXY := Lib.hid hxy
            have hcx := HCL.out x y hx hy W1 HE.out
            clear hxy
            cases hpe : p x y
            · rw [hpe] at hcx
              have HCX := Lib.hid hcx
              have HPE := Lib.hid hpe
              clear hcx hpe
              refine wp_region_quiet_lit (by kernel_rfl) (by kernel_rfl) ?_
              repeat (go_big_quiet_step (fail))
              refine wpQuiet_callc (.tmp 67) #[.tmp 70, .tmp 73] _ rfl rfl cap rfl hf #[.int .i64 x, .int .i64 y] (by simp only [List.map_toArray, List.map_cons, List.map_nil]; rfl) (.bool false) HCX.out ?_
              simp only [Act.put, List.setIfInBounds_toArray, List.set_cons_zero, List.set_cons_succ]
              repeat (go_big_quiet_step (fail))
              refine wpQuiet_nil ?_
              intro _ hw'
              obtain ⟨nq, hw''⟩ := hw'
              subst hw''
              generalize hW : W1.drewN _ = W2
              have HE2 : Hid (Ext w W2) := Lib.hid (hW ▸ HE.out.trans (Ext.drewN _ _))
              clear hW a5 b5
              go_wp2
              go_ret2
              exact ⟨_, by rw [HM.out.stop HC.out HPE.out]; rfl, by rw [HM.out.stop HC.out HPE.out]; exact OwnI.nil _ _, HE2.out⟩
            · rw [hpe] at hcx
              have HCX := Lib.hid hcx
              have HPE := Lib.hid hpe
              clear hcx hpe
              refine wp_region_quiet_lit (by kernel_rfl) (by kernel_rfl) ?_
              repeat (go_big_quiet_step (fail))
              refine wpQuiet_callc (.tmp 67) #[.tmp 70, .tmp 73] _ rfl rfl cap rfl hf #[.int .i64 x, .int .i64 y] (by simp only [List.map_toArray, List.map_cons, List.map_nil]; rfl) (.bool true) HCX.out ?_
              simp only [Act.put, List.setIfInBounds_toArray, List.set_cons_zero, List.set_cons_succ]
              repeat (go_big_quiet_step (fail))
              refine wpQuiet_nil ?_
              intro _ hw'
              obtain ⟨nq, hw''⟩ := hw'
              subst hw''
              go_wp2_with fail
              generalize hV : W1.drewN _ = V1
              have a6 : V1.cell? ad = some (.int .i64 x) := hV ▸ a5
              have b6 : V1.cell? bd = some (.int .i64 y) := hV ▸ b5
              go_quiet (fail)
              have hW0 : ∀ n, Ext W1 (V1.drewN n) := fun n => hV ▸ (Ext.drewN _ _).trans (Ext.drewN _ _)
              generalize hW : V1.drewN _ = W2
              have hW1 : Ext W1 W2 := hW ▸ hW0 _
              have HWR2 : Hid (Ext wr W2) := Lib.hid (HWR.out.trans hW1)
              clear hW hV hW0 hW1 a5 b5 a6 b6
              go_wp2_with fail
              go_quiet (fail)
              generalize hW2 : W2.drewN _ = W3
              have HE3 : Hid (Ext wr W3) := Lib.hid (by rw [← hW2]; exact HWR2.out.trans (Ext.drewN W2 _))
              clear hW2
              go_wp2
              go_roundg (na + nb)
              case measure => have := HGN.out; have := HNA.out; have := HNB.out; simp only [List.length_cons] at *; omega
              case rel => exact ⟨la, lb, lo, A', B', c - 1, d - 1, by rw [HNA.out, HNB.out], by rw [HNA.out], by rw [HNB.out], HM.out.drop HA.out HB.out HNA.out HNB.out HC.out HXY.out HPE.out HE3.out⟩
        · have HC := Lib.hid hc
          clear hc
          go_upto_region 10 with ((go_quiet ((first | (go_at_call_of 33 (Value.int .i64 x); exact quiet_same (var_any x hx _)) | (go_at_call_of 33 (Value.int .i64 y); exact quiet_same (var_any y hy _)) | (go_at_call 95; exact quiet_same (cmp_gt HC.out _))))))
          generalize hW : wr.drewN _ = W1
          have HE : Hid (Ext w W1) := Lib.hid (hW ▸ HM.out.ext.trans (Ext.drewN _ _))
          have HO : Hid (OwnI W1 w.heap.size u8 lo) := Lib.hid (hW ▸ own_ext HM.out.ro (Ext.drewN _ _))
          have a5 : W1.cell? bd = some (.int .i64 y) := HE.out.cell B0.out
          have a6 : (W1.alloc (.cells #[.int .i64 y] 3)).drew.cell? bd = some (.int .i64 y) := ((Ext.alloc W1 _).trans (Ext.drew _)).cell a5
          clear hW a3 b3
          go_region_held3 (fun w' => w'.cell? bd = some (.int .i64 y)) (first | exact a5 | exact a6 | exact a7 | go_keep) (first | (
            refine step_app_1 (v := u8) rfl (.tmp 58) (.tmp 62) rfl (base := w.heap.size) (xs := lo) (y := y) rfl rfl ?c2 ?c1 hlo ?c3 ?_
            case c1 => exact own_ext HO.out ((Ext.alloc W1 _).trans (Ext.drew _))
            case c2 => exact (Ext.drew _).cell (Var1.new W1 3 (.int .i64 y)).cell
            case c3 => exact (HE.out.trans ((Ext.alloc W1 _).trans (Ext.drew _))).size
            intro v' w' hown hg
            have HOW := Lib.hid hown
            have HEW := Lib.hid (grow_ext (HE.out.trans ((Ext.alloc W1 _).trans (Ext.drew _))) (own_ext HO.out ((Ext.alloc W1 _).trans (Ext.drew _))) hg)
            have a7 := HEW.out.cell B0.out
            clear hown hg))
          go_wp2
          go_roundg (na + 1 + nb)
          case measure => have := HGN.out; have := HNA.out; have := HNB.out; simp only [List.length_cons] at *; omega
          case rel => exact ⟨x :: la, lb, lo ++ [y], some ad, B', c, d - 1, by rw [HNA.out, HNB.out]; simp, by rw [HNA.out]; simp, by rw [HNB.out], HM.out.right HB.out HNB.out HC.out HOW.out HEW.out⟩

theorem merge_join (xs ys : List Int) (v u : Value) (w : World) (h64 : All64 xs) (k64 : All64 ys) (hr : RI w v xs) (kr : RI w u ys) (hl : xs.length + ys.length ≤ 1000000) :
    Calls Tryz.prog 59 #[v, u, .func (.func 65) #[] #[]] w (PostMerge w (mergeL (fun x y => x == y) xs ys)) :=
  merge_any 65 #[] fv_join1 (fun x y => x == y) (fun x => by simp) xs ys v u w h64 k64 hr kr hl (fun x y _ _ w' _ n => (join1_fn x y (w'.drewN n)).mono fun _ _ ⟨h1, h2⟩ => ⟨h1, n, h2.symm⟩)
end Go.Proofs.YtlompphnngnaiaaGreatDoor
namespace Go.Proofs.YtlompphnngnaiaaGreatDoor
open Go.RowKit

/-- The absolute value as the program computes it, for whatever number. -/
def sizeA (n : Int) : Int := if n < 0 then IntKind.u64.wrap (-(IntKind.u64.wrap n)) else IntKind.u64.wrap n
theorem sizeA_abs {n : Int} (h : I64 n) : sizeA n = (n.natAbs : Int) := by
  unfold I64 at h
  unfold sizeA
  split
  · simp only [wrapu]; omega
  · simp only [wrapu]; omega

/-- The order of literals, as a number. -/
def ordF (x y : Int) : Int := if cmpI (sizeA x) (sizeA y) = 0 then cmpI x y else cmpI (sizeA x) (sizeA y)

set_option maxHeartbeats 400000 in
theorem size_all (n : Int) (w : World) : Calls Tryz.prog 76 #[.int .i64 n] w fun e w' => e = .returned (.int .u64 (sizeA n)) ∧ w = w' := by
  by_cases h : n < 0
  · go_enter Tryz.func76, Tryz.ntmps76
    go_wp2
    go_ret
    exact ⟨ret_int (by unfold sizeA; rw [if_pos h]), rfl⟩
  · go_enter Tryz.func76, Tryz.ntmps76
    go_wp2
    go_ret
    exact ⟨ret_int (by unfold sizeA; rw [if_neg (by omega)]), rfl⟩

set_option maxHeartbeats 400000 in
theorem isNaNu_any (a : Int) (w : World) : Calls Tryz.prog 115 #[.int .u64 a] w fun e w' => e = .returned (.bool false) ∧ w = w' := by
  go_enter Tryz.func115, Tryz.ntmps115
  go_wp2
  go_ret
  exact ⟨by simp, rfl⟩

set_option maxHeartbeats 400000 in
theorem cmpu_any (a b : Int) (w : World) : Calls Tryz.prog 98 #[.int .u64 a, .int .u64 b] w fun e w' => e = .returned (.int .i64 (cmpI a b)) ∧ w = w' := by
  by_cases h1 : a < b
  · go_enter Tryz.func98, Tryz.ntmps98
    go_wp2_with (go_at_call 115; refine (isNaNu_any _ _).mono ?_; rintro e w' ⟨rfl, rfl⟩)
    go_ret
    exact ⟨ret_int (by unfold cmpI; rw [if_pos h1]), rfl⟩
  · by_cases h2 : b < a
    · go_enter Tryz.func98, Tryz.ntmps98
      go_wp2_with (go_at_call 115; refine (isNaNu_any _ _).mono ?_; rintro e w' ⟨rfl, rfl⟩)
      go_ret
      exact ⟨ret_int (by unfold cmpI; rw [if_neg (by omega), if_pos h2]), rfl⟩
    · go_enter Tryz.func98, Tryz.ntmps98
      go_wp2_with (go_at_call 115; refine (isNaNu_any _ _).mono ?_; rintro e w' ⟨rfl, rfl⟩)
      go_ret
      exact ⟨ret_int (by unfold cmpI; rw [if_neg (by omega), if_neg (by omega)]), rfl⟩

set_option maxHeartbeats 400000 in
theorem order1_fn (x y : Int) (w : World) : Calls Tryz.prog 97 #[.int .i64 x, .int .i64 y] w fun e w' => e = .returned (.int .i64 (cmpI (sizeA x) (sizeA y))) ∧ w = w' := by
  go_enter Tryz.func97, Tryz.ntmps97
  go_wp2_with fail
  refine (size_all x _).mono ?_
  rintro e w' ⟨rfl, rfl⟩
  go_wp2_with fail
  refine (size_all y _).mono ?_
  rintro e w' ⟨rfl, rfl⟩
  go_wp2_with (go_at_call 98; refine (cmpu_any _ _ _).mono ?_; rintro e w' ⟨rfl, rfl⟩)
  go_ret
  exact ⟨rfl, rfl⟩

theorem fv_order1 : Fv Tryz.prog 97 := ⟨_, Tryz.func97, by kernel_rfl, by kernel_rfl⟩
theorem fv_cmp : Fv Tryz.prog 95 := ⟨_, Tryz.func95, by kernel_rfl, by kernel_rfl⟩

set_option maxHeartbeats 2000000 in
theorem by_any (x y : Int) (g : Nat) (w : World) (h0 : w.cell? ⟨g, 0, none⟩ = some (.func (.func 97) #[] #[])) (h1 : w.cell? ⟨g, 1, none⟩ = some (.func (.func 95) #[] #[])) :
    Calls Tryz.prog 96 #[.int .i64 x, .int .i64 y, .slice (some ⟨g, 0, none⟩) 2 2] w fun e w' => e = .returned (.int .i64 (ordF x y)) ∧ w = w' := by
  by_cases hc : cmpI (sizeA x) (sizeA y) = 0
  · have HC := Lib.hid hc
    have ho := order1_fn x y w
    rw [hc] at ho
    have HO := Lib.hid ho
    clear ho hc
    go_enter Tryz.func96, Tryz.ntmps96
    go_wp2_with fail
    go_loopg [12] 2 (fun gn i wr => w = wr ∧ ((gn = 2 ∧ i = .int .i64 0) ∨ (gn = 1 ∧ i = .int .i64 1) ∨ (gn = 0 ∧ i = .int .i64 2 ∧ Hid (cmpI x y = 0))))
    case atStart => exact ⟨rfl, .inl ⟨rfl, rfl⟩⟩
    case round =>
      obtain ⟨rfl, ⟨rfl, rfl⟩ | ⟨rfl, rfl⟩ | ⟨rfl, rfl, HZ⟩⟩ := hrel
      · go_wp2_with (refine wpList_callv (.tmp 16) #[.tmp 17, .tmp 18] _ rfl rfl #[] rfl fv_order1 #[.int .i64 x, .int .i64 y] (by simp only [List.map_toArray, List.map_cons, List.map_nil]; rfl) ?_; refine HO.out.mono ?_; rintro e w' ⟨rfl, rfl⟩; refine ⟨_, rfl, ?_⟩)
        go_roundg 1
        case measure => omega
        case rel => exact ⟨rfl, .inr (.inl ⟨rfl, rfl⟩)⟩
      · by_cases hz : cmpI x y = 0
        · have hcm := cmp_any x y w
          rw [hz] at hcm
          have HCM := Lib.hid hcm
          have HZ := Lib.hid hz
          clear hcm hz
          go_wp2_with (refine wpList_callv (.tmp 16) #[.tmp 17, .tmp 18] _ rfl rfl #[] rfl fv_cmp #[.int .i64 x, .int .i64 y] (by simp only [List.map_toArray, List.map_cons, List.map_nil]; rfl) ?_; refine HCM.out.mono ?_; rintro e w' ⟨rfl, rfl⟩; refine ⟨_, rfl, ?_⟩)
          go_roundg 0
          case measure => omega
          case rel => exact ⟨rfl, .inr (.inr ⟨rfl, rfl, HZ⟩)⟩
        · have hzb : (cmpI x y != 0) = true := by simpa using hz
          have HZ := Lib.hid hz
          clear hz
          go_wp2_with (refine wpList_callv (.tmp 16) #[.tmp 17, .tmp 18] _ rfl rfl #[] rfl fv_cmp #[.int .i64 x, .int .i64 y] (by simp only [List.map_toArray, List.map_cons, List.map_nil]; rfl) ?_; refine (cmp_any x y w).mono ?_; rintro e w' ⟨rfl, rfl⟩; refine ⟨_, rfl, ?_⟩)
          go_ret
          exact ⟨ret_int (by unfold ordF; rw [if_pos HC.out]), rfl⟩
      · go_wp2_with fail
        go_ret
        exact ⟨ret_int (by unfold ordF; rw [if_pos HC.out, HZ.out]), rfl⟩
  · have hcb : (cmpI (sizeA x) (sizeA y) != 0) = true := by simpa using hc
    have HC := Lib.hid hc
    have HO := Lib.hid (order1_fn x y w)
    clear hc
    go_enter Tryz.func96, Tryz.ntmps96
    go_wp2_with fail
    go_loopg [12] 0 (fun gn i wr => w = wr ∧ i = .int .i64 0)
    case atStart => exact ⟨rfl, rfl⟩
    case round =>
      obtain ⟨rfl, rfl⟩ := hrel
      go_wp2_with (refine wpList_callv (.tmp 16) #[.tmp 17, .tmp 18] _ rfl rfl #[] rfl fv_order1 #[.int .i64 x, .int .i64 y] (by simp only [List.map_toArray, List.map_cons, List.map_nil]; rfl) ?_; refine HO.out.mono ?_; rintro e w' ⟨rfl, rfl⟩; refine ⟨_, rfl, ?_⟩)
      go_ret
      exact ⟨ret_int (by unfold ordF; rw [if_neg HC.out]), rfl⟩

set_option maxHeartbeats 400000 in
theorem order_any (x y : Int) (w : World) : Calls Tryz.prog 70 #[.int .i64 x, .int .i64 y] w fun e w' => e = .returned (.int .i64 (ordF x y)) ∧ ∃ o, w' = w.alloc o := by
  go_enter Tryz.func70, Tryz.ntmps70
  go_wp2_with fail
  refine (by_any x y w.heap.size _ ?_ ?_).mono ?_
  · exact (Blk.new w 70 [.func (.func 97) #[] #[], .func (.func 95) #[] #[]]).cell 0
  · exact (Blk.new w 70 [.func (.func 97) #[] #[], .func (.func 95) #[] #[]]).cell 1
  rintro e w' ⟨rfl, rfl⟩
  go_wp2
  go_ret
  exact ⟨rfl, _, rfl⟩
end Go.Proofs.YtlompphnngnaiaaGreatDoor
namespace Go.Proofs.YtlompphnngnaiaaGreatDoor
open Go.RowKit

theorem grow_none (w : World) : Sort.grow w #[] = w := by simp [Sort.grow]

theorem Sort_own (xs : List Int) (v : Value) (base : Nat) (w : World) (h : OwnI w base v xs) (hl : xs.length ≤ 100000000) :
    Calls Tryz.prog 80 #[v] w fun e w' => e = .returned (.tuple #[]) ∧ OwnI w' base v (xs.mergeSort fun x y => decide (x ≤ y)) ∧ w.grownBy w' v.ownBlock := by
  have hlen : (xs.mergeSort fun x y => decide (x ≤ y)).length = xs.length := List.length_mergeSort _
  unfold OwnI at h ⊢
  rw [hlen]
  obtain ⟨-, ⟨rfl, h0⟩ | ⟨g, cap, cur, rfl, hb, hg, hn, hm, hs, ht⟩⟩ := h
  · have : xs = [] := List.length_eq_zero_iff.1 h0
    subst this
    refine (Tryz.slices_Sort_int_none none 0 w).mono ?_
    rintro e w' ⟨rfl, rfl⟩
    exact ⟨rfl, by simp [World.ownsRow_nil], ⟨rfl, rfl, rfl, Nat.le_refl _, fun _ _ _ => rfl⟩⟩
  · refine (Tryz.slices_Sort_int g 0 cap xs w (holds_of_blockI hg (by rw [Nat.mul_one] at ht; exact ht)) (Array.getElem?_eq_some_iff.1 hg).1 (by omega)).mono ?_
    rintro e w' ⟨rfl, n, os, rfl⟩
    exact ⟨rfl, ownsRow_sortedI (ss := xs) hlen hb hg hn hm hs, grownBy_sortedI _⟩

theorem own_shorter {w : World} {base : Nat} {e : TypeId} {A : Option Addr} {n m c : Nat} {xs : List Value} (h : w.ownsRow base e 1 (.slice A n c) n xs) (hm : m ≤ n) (hA : A = none → c = 0) : w.ownsRow base e 1 (.slice A m c) m (xs.take m) := by
  obtain ⟨h0, ⟨he, h1⟩ | ⟨g, cap, cur, he, hb, hg, hn, hmx, hs, ht⟩⟩ := h
  · injection he with e1 e2 e3
    subst e1 e2 e3
    have : m = 0 := by omega
    subst this
    exact ⟨by simp, .inl ⟨rfl, rfl⟩⟩
  · injection he with e1 _ e3
    subst e1 e3
    refine ⟨by rw [List.length_take]; omega, .inr ⟨g, c, cur, rfl, hb, hg, by omega, hmx, hs, ?_⟩⟩
    rw [← ht, List.take_take]
    congr 1
    omega

theorem Compact_own (xs : List Int) (v : Value) (base : Nat) (w : World) (h : OwnI w base v xs) (hl : xs.length ≤ 100000000) :
    Calls Tryz.prog 75 #[v] w fun e w' => ∃ v', e = .returned v' ∧ OwnI w' base v' (Lib.compact xs) ∧ w.grownBy w' v.ownBlock ∧ v'.ownBlock = v.ownBlock := by
  have hle := Lib.compact_length_le xs
  unfold OwnI at h ⊢
  obtain ⟨-, ⟨rfl, h0⟩ | ⟨g, cap, cur, rfl, hb, hg, hn, hm, hs, ht⟩⟩ := h
  · have : xs = [] := List.length_eq_zero_iff.1 h0
    subst this
    refine (Tryz.slices_Compact_int_empty none 0 w).mono ?_
    rintro e w' ⟨rfl, rfl⟩
    exact ⟨_, rfl, World.ownsRow_nil _ _ _ 1, ⟨rfl, rfl, rfl, Nat.le_refl _, fun _ _ _ => rfl⟩, rfl⟩
  · have hmx : cap ≤ 9223372036854775807 := by unfold maxLen at hm; exact hm
    refine (Tryz.slices_Compact_int g 0 cap xs w (holds_of_blockI hg (by rw [Nat.mul_one] at ht; exact ht)) (by omega) hn).mono ?_
    rintro e w' ⟨rfl, q, rfl⟩
    have hl2 : (Lib.compact xs ++ List.replicate (xs.length - (Lib.compact xs).length) 0).length = xs.length := by simp; omega
    have h1 := ownsRow_sortedI (n := q) (os := #[]) (ts := Lib.compact xs ++ List.replicate (xs.length - (Lib.compact xs).length) 0) (ss := xs) hl2 hb hg hn hm hs
    rw [grow_none] at h1
    have h2 := own_shorter h1 hle (fun h => by cases h)
    rw [List.map_append, List.take_append_of_le_length (by simp), List.take_of_length_le (by simp)] at h2
    have h3 := grownBy_sortedI (w := w) (g := g) (n := q) (os := #[]) (Lib.compact xs ++ List.replicate (xs.length - (Lib.compact xs).length) 0).toArray
    rw [grow_none] at h3
    exact ⟨_, rfl, h2, h3, rfl⟩

/-- The variables of lists, in the order of the text. -/
def varsOf (c : List Int) : List Int := (c.map varOf).filter fun v => decide (0 < v)
def varsAll (f : List (List Int)) : List Int := f.flatMap varsOf
theorem varsOf_len (c : List Int) : (varsOf c).length ≤ c.length := by
  unfold varsOf
  exact Nat.le_trans (List.length_filter_le _ _) (by simp)
theorem varsAll_len (f : List (List Int)) : (varsAll f).length ≤ total f := by
  unfold varsAll total lens
  rw [List.take_length]
  induction f with
  | nil => simp
  | cons c f ih =>
    rw [List.flatMap_cons, List.length_append, List.map_cons, List.sum_cons]
    have := varsOf_len c
    omega
theorem varsAll_succ (f : List (List Int)) (k : Nat) (hk : k < f.length) : varsAll (f.take (k + 1)) = varsAll (f.take k) ++ varsOf f[k] := by
  unfold varsAll
  rw [List.take_succ_eq_append_getElem hk, List.flatMap_append]; simp
theorem varsOf_succ (c : List Int) (m : Nat) (hm : m < c.length) : varsOf (c.take (m + 1)) = varsOf (c.take m) ++ if 0 < varOf c[m] then [varOf c[m]] else [] := by
  unfold varsOf
  rw [List.take_succ_eq_append_getElem hm, List.map_append, List.filter_append]
  by_cases h : 0 < varOf c[m] <;> simp [h]
theorem sortC_vars (f : List (List Int)) : sortC (varsAll f) = VarsV f := by
  obtain ⟨h1, h2⟩ := sortC_spec (varsAll f)
  refine sorted_ext (r := fun a b : Int => a < b) (fun a b h k => by omega) h1 (varsTo_sorted _ _) fun y => ?_
  rw [h2, mem_VarsV]
  unfold varsAll varsOf
  simp only [List.mem_flatMap, List.mem_filter, List.mem_map, decide_eq_true_eq]
  constructor
  · rintro ⟨c, hc, ⟨x, hx, he⟩, h0⟩
    exact ⟨h0, c, hc, x, hx, he⟩
  · rintro ⟨h0, c, hc, x, hx, he⟩
    exact ⟨c, hc, ⟨x, hx, he⟩, h0⟩

def PostVars' (w : World) (r : List Int) (e : Ending) (w' : World) : Prop := ∃ v', e = .returned v' ∧ OwnI w' w.heap.size v' r ∧ Ext w w'

set_option maxRecDepth 100000 in
set_option maxHeartbeats 4000000 in
theorem Vars_any (f : List (List Int)) (u : Value) (w : World) (h64 : All64L f) (kr : RLL w u f) (ht : total f ≤ 1000000) : Calls Tryz.prog 45 #[u] w (PostVars' w (VarsV f)) := by
  obtain ⟨A, c, vs, rfl, h1, h2, h3, h4, h5⟩ := kr
  have H4 := Lib.hid h4
  have H5 := Lib.hid h5
  have H3 := Lib.hid h3
  have HT := Lib.hid ht
  clear h4 h5 h3 ht
  go_enter Tryz.func45, Tryz.ntmps45
  go_wp2_with fail
  go_loopg [3, 11] vs.length (fun gn o i wr => ∃ k : Nat, k ≤ vs.length ∧ gn + k = vs.length ∧ i = .int .i64 k ∧ Hid (OwnI wr w.heap.size o (varsAll (f.take k)) ∧ Ext w wr))
  case atStart => exact ⟨0, Nat.zero_le _, by omega, rfl, OwnI.nil _ _, Ext.refl _⟩
  case round =>
    obtain ⟨k, hk, hgk, rfl, HS⟩ := hrel
    by_cases hlt : k < vs.length
    · have hkf : k < f.length := by rw [← H4.out]; exact hlt
      obtain ⟨w1, rfl⟩ : ∃ w1 : World, w1 = wr := ⟨_, rfl⟩
      obtain ⟨E, ce, he, he1, he2, he3⟩ := H5.out k hlt hkf
      obtain ⟨L, hL⟩ : ∃ L, L = f[k].length := ⟨_, rfl⟩
      rw [← hL] at he he1 he2
      have HE3 := Lib.hid he3
      have HL := Lib.hid hL
      have hk64 := h64 _ (List.getElem_mem hkf)
      obtain ⟨ad, rfl, hrow⟩ := (H3.out.ext HS.out.2) k hlt
      rw [he] at hrow
      have hbd : (varsAll (f.take k)).length + L ≤ 1000000 := by
        have := lens_succ f k hkf
        have := lens_le f (k + 1)
        have h9 := varsAll_len (f.take k)
        have h10 : total (f.take k) = lens f k := by unfold total lens; rw [List.take_length]
        have := HT.out
        omega
      clear he3 he hL
      go_wp2_with fail
      go_loopg [3, 17] L (fun gn o j wr => ∃ m : Nat, m ≤ L ∧ gn + m = L ∧ j = .int .i64 m ∧ Hid (OwnI wr w.heap.size o (varsAll (f.take k) ++ varsOf (f[k].take m)) ∧ Ext w wr))
      case atStart => exact ⟨0, Nat.zero_le _, by omega, rfl, by simpa [varsOf] using HS.out.1, HS.out.2⟩
      case round =>
        obtain ⟨m, hm, hgm, rfl, HS2⟩ := hrel
        by_cases hml : m < L
        · have hmf : m < f[k].length := by rw [← HL.out]; exact hml
          obtain ⟨bd, rfl, hy⟩ := (HE3.out.ext HS2.out.2).int m hmf
          have hx := hk64 _ (List.getElem_mem hmf)
          have hvs := varsOf_succ f[k] m hmf
          have hvl : (varsAll (f.take k) ++ varsOf (f[k].take m)).length ≤ 10000000 := by
            rw [List.length_append]
            have := varsOf_len (f[k].take m)
            rw [List.length_take] at this
            omega
          obtain ⟨x, hxe⟩ : ∃ x, x = f[k][m] := ⟨_, rfl⟩
          rw [← hxe] at hy hx hvs
          have HX := Lib.hid hxe
          clear hxe
          obtain ⟨w2, rfl⟩ : ∃ w2 : World, w2 = wr := ⟨_, rfl⟩
          by_cases hp : 0 < varOf x
          · rw [if_pos hp] at hvs
            have HVS := Lib.hid hvs
            clear hvs
            go_wp2_with (first
              | (go_at_call 33; refine (var_any x hx _).mono ?_; rintro e w' ⟨rfl, rfl⟩)
              | (at_builtin
                 refine app_1 rfl (.tmp 25) (.tmp 27) rfl (base := w.heap.size) (xs := varsAll (f.take k) ++ varsOf (f[k].take m)) (y := varOf x) rfl rfl HS2.out.1 hvl HS2.out.2.size ?_
                 intro v' w3 hown hg
                 have HOW := Lib.hid hown
                 have HE4 := Lib.hid (hg.toExt HS2.out.2 (fun i hi => (own_typed HS2.out.1 hi.symm).1))
                 clear hown hg))
            go_roundg (L - (m + 1))
            case measure => omega
            case rel => exact ⟨m + 1, by omega, by omega, by go_num, by rw [HVS.out, ← List.append_assoc]; exact HOW.out, HE4.out⟩
          · rw [if_neg hp, List.append_nil] at hvs
            have HVS := Lib.hid hvs
            clear hvs
            go_wp2_with (go_at_call 33; refine (var_any x hx _).mono ?_; rintro e w' ⟨rfl, rfl⟩)
            go_roundg (L - (m + 1))
            case measure => omega
            case rel => exact ⟨m + 1, by omega, by omega, by go_num, by rw [HVS.out]; exact HS2.out.1, HS2.out.2⟩
        · obtain rfl : m = L := by omega
          go_wp2
          go_roundg (vs.length - (k + 1))
          case measure => omega
          case rel => exact ⟨k + 1, by omega, by omega, by go_num, by rw [varsAll_succ f k hkf]; have := HS2.out.1; rw [HL.out, List.take_length] at this; exact this, HS2.out.2⟩
    · obtain rfl : k = vs.length := by omega
      have hsv : OwnI wr w.heap.size u3 (varsAll f) := by have := HS.out.1; rw [H4.out, List.take_length] at this; exact this
      have hE := HS.out.2
      have hvl : (varsAll f).length ≤ 100000000 := by have := varsAll_len f; have := HT.out; omega
      have hml : ((varsAll f).mergeSort fun x y => decide (x ≤ y)).length ≤ 100000000 := by rw [List.length_mergeSort]; exact hvl
      have HSV := Lib.hid hsv
      have HE := Lib.hid hE
      have HSC := Lib.hid (sortC_vars f)
      clear hsv hE HS hgk hk
      go_wp2_with (first
        | (go_at_call 80
           refine (Sort_own _ _ _ _ HSV.out hvl).mono ?_
           rintro e w2 ⟨rfl, ho, hg⟩
           have HO := Lib.hid ho
           have HE2 := Lib.hid (grow_ext HE.out HSV.out hg)
           clear ho hg)
        | (go_at_call 75
           refine (Compact_own _ _ _ _ HO.out hml).mono ?_
           rintro e w3 ⟨v3, rfl, ho, hg, -⟩
           have HO3 := Lib.hid ho
           have HE3 := Lib.hid (grow_ext HE2.out HO.out hg)
           clear ho hg))
      go_ret
      exact ⟨_, rfl, by rw [← HSC.out]; exact HO3.out, HE3.out⟩
end Go.Proofs.YtlompphnngnaiaaGreatDoor
namespace Go.Proofs.YtlompphnngnaiaaGreatDoor
open Go.RowKit

/-- The order of literals, of whatever numbers. -/
def alt (x y : Int) : Prop := sizeA x < sizeA y ∨ (sizeA x = sizeA y ∧ x < y)
instance (x y : Int) : Decidable (alt x y) := by unfold alt; infer_instance
theorem alt_tri (a b : Int) : alt a b ∨ a = b ∨ alt b a := by unfold alt; omega
theorem alt_trans (a b c : Int) (h : alt a b) (k : alt b c) : alt a c := by unfold alt at *; omega
theorem cmpI_neg {a b : Int} : cmpI a b < 0 ↔ a < b := by unfold cmpI; split <;> (try split) <;> omega
theorem cmpI_zero {a b : Int} : cmpI a b = 0 ↔ a = b := by unfold cmpI; split <;> (try split) <;> omega
theorem ordF_neg (x y : Int) : ordF x y < 0 ↔ alt x y := by
  unfold ordF alt
  by_cases h : cmpI (sizeA x) (sizeA y) = 0
  · rw [if_pos h, cmpI_neg]
    have := cmpI_zero.1 h
    omega
  · rw [if_neg h, cmpI_neg]
    have : ¬ sizeA x = sizeA y := fun e => h (cmpI_zero.2 e)
    omega
theorem lt_ord (x y : Int) : ltOf ordF x y = decide (alt x y) := by
  unfold ltOf
  rw [decide_eq_decide]
  exact ordF_neg x y
theorem swo_ord : Sort.SWO (ltOf ordF) := by
  refine ⟨fun x => ?_, fun x y z h k => ?_, fun x y z h k => ?_⟩
  · rw [lt_ord, decide_eq_false_iff_not]; unfold alt; omega
  · rw [lt_ord, decide_eq_true_eq] at *; exact alt_trans _ _ _ h k
  · rw [lt_ord, decide_eq_false_iff_not] at *
    unfold alt at *; omega
theorem alt_blt {x y : Int} (hx : I64 x) (hy : I64 y) : alt x y ↔ blt x y := by
  unfold alt blt
  rw [sizeA_abs hx, sizeA_abs hy]; omega

theorem grow_one (w : World) (o : Obj) : w.alloc o = Sort.grow (w.drewN 0) #[o] := by
  unfold World.alloc Sort.grow World.drewN
  simp

theorem SortF_own (xs : List Int) (v : Value) (base : Nat) (w : World) (h : OwnI w base v xs) (hl : xs.length ≤ 100000000) (h64 : All64 xs) :
    Calls Tryz.prog 74 #[v, .func (.func 70) #[] #[]] w fun e w' => ∃ ys, e = .returned (.tuple #[]) ∧ OwnI w' base v ys ∧ w.grownBy w' v.ownBlock ∧ ys.length = xs.length ∧ (∀ x, x ∈ ys ↔ x ∈ xs) ∧ ys.Pairwise fun a b => ¬ blt b a := by
  unfold OwnI at h ⊢
  obtain ⟨-, ⟨rfl, h0⟩ | ⟨g, cap, cur, rfl, hb, hg, hn, hm, hs, ht⟩⟩ := h
  · have : xs = [] := List.length_eq_zero_iff.1 h0
    subst this
    refine (AnyF.slices_SortFunc_none (P := Tryz.prog) (ρ := Tryz.laysSlF6_f74_ren) { Tryz.laysSlF6_f74 with } none 0 _ w).mono ?_
    rintro e w' ⟨rfl, rfl⟩
    exact ⟨[], rfl, World.ownsRow_nil _ _ _ 1, ⟨rfl, rfl, rfl, Nat.le_refl _, fun _ _ _ => rfl⟩, rfl, fun _ => Iff.rfl, List.Pairwise.nil⟩
  · refine (Tryz.slices_SortFunc_f74 (Value.int .i64) (fun _ => rfl) ordF swo_ord 70 #[] g 0 cap xs.toArray w (enters_of Tryz.func70 (by kernel_rfl) rfl)
      (fun m os dk _ x y => (order_any x y _).mono fun e w' ⟨he, o, ho⟩ => ⟨he, 0, #[o], by rw [ho, grow_one]⟩)
      (holds_of_blockI hg (by rw [Nat.mul_one] at ht; exact ht)) (Array.getElem?_eq_some_iff.1 hg).1 (by simp; omega)).mono ?_
    rintro e w' ⟨rfl, d', n, os, ⟨hsz, -, hperm⟩, hsort, rfl⟩
    have hdl : d'.toList.length = xs.length := by simpa using hsz
    have hp : d'.toList.Perm xs := by
      have h1 : d'.extract 0 xs.toArray.size = d' := by rw [← hsz]; simp
      have h2 : xs.toArray.extract 0 xs.toArray.size = xs.toArray := by simp
      rw [h1, h2] at hperm
      simpa using hperm
    refine ⟨d'.toList, rfl, ?_, ?_, hdl, fun x => hp.mem_iff, ?_⟩
    · have := ownsRow_sortedI (w := w) (n := n) (os := os) (ts := d'.toList) (ss := xs) hdl hb hg hn hm hs
      rw [hdl]
      simpa [sortWorld] using this
    · have := grownBy_sortedI (w := w) (g := g) (n := n) (os := os) d'
      simpa [sortWorld, Value.ownBlock] using this
    · rw [List.pairwise_iff_getElem]
      intro i j hi hj hij
      have := hsort i j (Nat.zero_le _) hij (by simp; omega)
      rw [lt_ord, decide_eq_false_iff_not] at this
      have hi' : i < d'.size := by simpa using hi
      have hj' : j < d'.size := by simpa using hj
      rw [getElem!_pos d' i hi', getElem!_pos d' j hj'] at this
      intro hb'
      apply this
      have m1 : d'[i] ∈ xs := hp.mem_iff.1 (by simp)
      have m2 : d'[j] ∈ xs := hp.mem_iff.1 (by simp)
      exact (alt_blt (h64 _ m2) (h64 _ m1)).2 (by simpa using hb')

/-- The normal list of some literals, or why there is none. -/
def NormV (xs : List Int) : List Int × Int :=
  if xs.length > 200000 ∨ xs.any (fun x => varOf x == 0) = true then ([], 2) else if mayB (setL [] xs) = true then (setL [] xs, 0) else ([], 10)

theorem fv_norm1 : Fv Tryz.prog 73 := ⟨_, Tryz.func73, by kernel_rfl, by kernel_rfl⟩
set_option maxHeartbeats 400000 in
theorem norm1_fn (x : Int) (hx : I64 x) (w : World) : Calls Tryz.prog 73 #[.int .i64 x] w fun e w' => e = .returned (.bool (varOf x == 0)) ∧ w' = w := by
  go_enter Tryz.func73, Tryz.ntmps73
  go_wp2_with (go_at_call 33; refine (var_any x hx _).mono ?_; rintro e w' ⟨rfl, rfl⟩)
  go_ret
  exact ⟨rfl, rfl⟩

theorem anyVar (xs : List Int) (v : Value) (w : World) (h64 : All64 xs) (hr : RI w v xs) (f : FuncId) (hf : Fv Tryz.prog f) (q : Int → Bool) (hq : ∀ x, I64 x → ∀ w, Calls Tryz.prog f #[.int .i64 x] w fun e w' => e = .returned (.bool (q x)) ∧ w' = w) :
    Calls Tryz.prog 72 #[v, .func (.func f) #[] #[]] w fun e w' => e = .returned (.bool (xs.any q)) ∧ w = w' := by
  obtain ⟨A, c, rfl, h1, h2, h3⟩ := hr
  have hix := containsFuncI f #[] hf A c (xs.map (Value.int .i64)) (by rw [List.length_map]; exact h2) (fun j => q (xs.getD j 0)) (fun _ w' => w' = w) w
    (fun _ w' hw => hw ▸ h3)
    (fun j hj w' hw => by
      subst hw
      have hj' : j < xs.length := by simpa using hj
      rw [List.getElem_map, show xs[j] = xs.getD j 0 by simp [hj']]
      exact hq (xs.getD j 0) (h64.getD j hj') w')
    rfl
  rw [List.length_map] at hix
  refine hix.mono fun e w' (hq : PostCont _ _ _ e w') => ?_
  obtain ⟨r', he, hq⟩ := hq
  have h1 : IdxOf (fun j => q (xs.getD j 0)) xs.length r' ∧ w' = w := by
    rcases hq with ⟨k, h1, h2, h3, h4, h5⟩ | ⟨h1, h2, h3⟩
    · exact ⟨.inl ⟨k, h1, h2, h3, h4⟩, h5⟩
    · exact ⟨.inr ⟨h1, h2⟩, h3⟩
  have := (idx_cont h1.1).trans (range_any_get xs q)
  exact ⟨by rw [he, this], h1.2.symm⟩

theorem compact_setL {xs ys : List Int} (h1 : ∀ x, x ∈ ys ↔ x ∈ xs) (h2 : ys.Pairwise fun a b => ¬ blt b a) : Lib.compact ys = setL [] xs := by
  obtain ⟨h3, h4⟩ := compact_strict (lt := blt) blt_tri (fun _ _ _ h k => blt_trans h k) ys h2
  exact sorted_ext blt_asym h3 (setL_sorted xs List.Pairwise.nil) fun x => by rw [h4, h1, mem_setL]; simp

def PostNorm (w : World) (r : List Int × Int) (e : Ending) (w' : World) : Prop := ∃ v, e = .returned (.tuple #[v, .int .i64 r.2]) ∧ OwnI w' w.heap.size v r.1 ∧ Ext w w'

set_option maxHeartbeats 2000000 in
theorem Norm_any (xs : List Int) (v : Value) (w : World) (h64 : All64 xs) (hr : RI w v xs) : Calls Tryz.prog 31 #[v] w (PostNorm w (NormV xs)) := by
  generalize hPP : PostNorm w (NormV xs) = PP
  have HPP := Lib.hid hPP
  clear hPP
  have HR := Lib.hid hr
  have HA := Lib.hid (anyVar xs v w h64 hr 73 fv_norm1 (fun x => varOf x == 0) (fun x hx w => norm1_fn x hx w))
  obtain ⟨A, c, rfl, h1, h2, h3⟩ := hr
  clear h3
  by_cases hl : xs.length ≤ 200000
  · have hl' : ¬ (200000 : Int) < xs.length := by omega
    cases ha : xs.any fun x => varOf x == 0
    · rw [ha] at HA
      have HAA := Lib.hid ha
      clear ha
      have HCL := Lib.hid (cloneI_any _ xs w HR.out (by omega))
      cases hm : mayB (setL [] xs)
      all_goals
        have HM := Lib.hid hm
        clear hm
        go_enter Tryz.func31, Tryz.ntmps31
        go_wp2_with (first
          | (go_at_call 72; refine HA.out.mono ?_; rintro e w' ⟨rfl, rfl⟩)
          | (go_at_call 43; refine HCL.out.mono ?_; rintro e w1 ⟨v1, rfl, ho, hE⟩; have HO := Lib.hid ho; have HE := Lib.hid hE; clear ho hE)
          | (go_at_call 74; refine (SortF_own xs v1 _ _ HO.out (by omega) h64).mono ?_; rintro e w2 ⟨ys, rfl, ho, hg, hyl, hym, hyp⟩; have HO2 := Lib.hid ho; have HE2 := Lib.hid (grow_ext HE.out HO.out hg); have HYL := Lib.hid hyl; have HYS := Lib.hid (compact_setL hym hyp); clear ho hg hyl hym hyp)
          | (go_at_call 75; refine (Compact_own ys v1 _ _ HO2.out (by have := HYL.out; omega)).mono ?_; rintro e w3 ⟨v3, rfl, ho, hg, -⟩; have HO3 := Lib.hid (HYS.out ▸ ho); have HE3 := Lib.hid (grow_ext HE2.out HO2.out hg); clear ho hg)
          | (go_at_call 35; have hmy := may_any v3 (setL [] xs) _ HO3.out.reads (fun x hx => by rcases (mem_setL xs [] x).1 hx with h | h; cases h; exact h64 x h); rw [HM.out] at hmy; refine hmy.mono ?_; rintro e w4 ⟨rfl, rfl⟩; clear hmy))
        rw [← HPP.out]
        unfold NormV
        rw [if_neg (by rw [HAA.out]; simp; omega), HM.out]
      · exact ⟨_, rfl, OwnI.nil _ _, HE3.out⟩
      · exact ⟨_, rfl, HO3.out, HE3.out⟩
    · rw [ha] at HA
      have HAA := Lib.hid ha
      clear ha
      go_enter Tryz.func31, Tryz.ntmps31
      go_wp2_with (go_at_call 72; refine HA.out.mono ?_; rintro e w' ⟨rfl, rfl⟩)
      rw [← HPP.out]
      unfold NormV
      rw [if_pos (.inr HAA.out)]
      exact ⟨_, rfl, OwnI.nil _ _, Ext.refl _⟩
  · have hl' : (200000 : Int) < xs.length := by omega
    go_enter Tryz.func31, Tryz.ntmps31
    go_wp2_with fail
    rw [← HPP.out]
    unfold NormV
    rw [if_pos (.inl (by omega))]
    exact ⟨_, rfl, OwnI.nil _ _, Ext.refl _⟩
end Go.Proofs.YtlompphnngnaiaaGreatDoor
namespace Go.Proofs.YtlompphnngnaiaaGreatDoor
open Go.RowKit

def PostIx (xs : List Int) (y : Int) (w : World) (e : Ending) (w' : World) : Prop := ∃ r : Int, e = .returned (.int .i64 r) ∧ decide (0 ≤ r) = decide (y ∈ xs) ∧ w = w'

set_option maxHeartbeats 400000 in
theorem index_any (xs : List Int) (y : Int) (v : Value) (w : World) (hr : RI w v xs) : Calls Tryz.prog 61 #[v, .int .i64 y] w (PostIx xs y w) := by
  obtain ⟨A, c, rfl, hc, hm, hcell⟩ := hr
  have HC := Lib.hid hcell
  clear hcell
  go_enter Tryz.func61, Tryz.ntmps61
  go_wp2
  go_loop [8] (fun i => ∃ k : Nat, k ≤ xs.length ∧ i = .int .i64 k ∧ Hid (∀ j (h : j < xs.length), j < k → xs[j] ≠ y)) (fun i => xs.length - (intOf i).toNat)
  case atStart => exact ⟨0, Nat.zero_le _, rfl, fun j _ h => absurd h (Nat.not_lt_zero j)⟩
  case round =>
    obtain ⟨k, hk, rfl, HN⟩ := hrel
    by_cases hlt : k < xs.length
    · obtain ⟨ad, rfl, hcell⟩ := HC.out.int k hlt
      obtain ⟨x, hx⟩ : ∃ x, x = xs[k] := ⟨_, rfl⟩
      rw [← hx] at hcell
      have HX := Lib.hid hx
      clear hx
      by_cases he : y = x
      · have heb : (y == x) = true := by simpa using he
        have HE := Lib.hid he
        clear he
        go_wp2
        go_ret
        refine ⟨(k : Int), rfl, ?_, rfl⟩
        rw [decide_eq_true (by omega : (0 : Int) ≤ k)]
        symm
        rw [decide_eq_true_eq, HE.out, HX.out]
        exact List.getElem_mem hlt
      · have heb : (y == x) = false := by simpa using he
        have HE := Lib.hid he
        clear he
        go_wp2
        go_round
        case rel => exact ⟨k + 1, by omega, by go_num, fun j h hj => if e : j = k then by subst e; rw [← HX.out]; exact fun q => HE.out q.symm else HN.out j h (by omega)⟩
        case measure => simp [intOf]; omega
    · obtain rfl : k = xs.length := by omega
      go_wp2
      go_ret
      refine ⟨-1, rfl, ?_, rfl⟩
      rw [decide_eq_false (by decide : ¬ (0 : Int) ≤ -1)]
      symm
      rw [decide_eq_false_iff_not]
      intro hm
      obtain ⟨j, hj, e⟩ := List.getElem_of_mem hm
      exact HN.out j hj hj e

set_option maxHeartbeats 400000 in
theorem contains_any (xs : List Int) (y : Int) (v : Value) (w : World) (hr : RI w v xs) : Calls Tryz.prog 20 #[v, .int .i64 y] w fun e w' => e = .returned (.bool (decide (y ∈ xs))) ∧ w = w' := by
  have H := Lib.hid (index_any xs y v w hr)
  clear hr
  go_enter Tryz.func20, Tryz.ntmps20
  go_wp2_with (go_at_call 61; refine H.out.mono ?_; rintro e w' ⟨r, rfl, hd, rfl⟩; have HD := Lib.hid hd; clear hd)
  go_ret
  exact ⟨ret_bool HD.out, rfl⟩

set_option maxHeartbeats 400000 in
theorem has_any (xs : List Int) (y : Int) (v : Value) (w : World) (hr : RI w v xs) : Calls Tryz.prog 36 #[v, .int .i64 y] w fun e w' => e = .returned (.bool (decide (y ∈ xs))) ∧ w = w' := by
  have H := Lib.hid (contains_any xs y v w hr)
  clear hr
  go_enter Tryz.func36, Tryz.ntmps36
  go_wp2_with (go_at_call 20; refine H.out.mono ?_; rintro e w' ⟨rfl, rfl⟩)
  go_ret
  exact ⟨rfl, rfl⟩
end Go.Proofs.YtlompphnngnaiaaGreatDoor
namespace Go.Proofs.YtlompphnngnaiaaGreatDoor
open Go.RowKit

set_option maxHeartbeats 400000 in
theorem res1_fn (x y n : Int) (g : Nat) (w : World) (hc : w.cell? ⟨g, 0, none⟩ = some (.int .i64 n)) :
    Calls Tryz.prog 60 #[.int .i64 x, .int .i64 y, .pointer (some ⟨g, 0, none⟩)] w fun e w' => e = .returned (.bool (x == y || x == n)) ∧ w = w' := by
  cases h : (x == y)
  · go_enter Tryz.func60, Tryz.ntmps60
    go_wp2
    go_ret
    exact ⟨rfl, rfl⟩
  · go_enter Tryz.func60, Tryz.ntmps60
    go_wp2
    go_ret
    exact ⟨rfl, rfl⟩
theorem fv_res1 : Fv Tryz.prog 60 := ⟨_, Tryz.func60, by kernel_rfl, by kernel_rfl⟩

def PostRes (w : World) (r : List Int × Int) (e : Ending) (w' : World) : Prop := ∃ v, e = .returned (.tuple #[v, .int .i64 r.2]) ∧ OwnI w' w.heap.size v r.1 ∧ Ext w w'

set_option maxHeartbeats 4000000 in
theorem Resolve_any (xs ys : List Int) (n : Int) (v u : Value) (w : World) (h64 : All64 xs) (k64 : All64 ys) (hn : I64 n) (hr : RI w v xs) (kr : RI w u ys) :
    Calls Tryz.prog 18 #[v, u, .int .i64 n] w (PostRes w (ResolveV xs ys n)) := by
  have HE0 : Hid (Ext w (w.alloc (.cells #[.int .i64 n] 3))) := Lib.hid (Ext.alloc w _)
  have HX := Lib.hid (may_any v xs _ (hr.ext HE0.out) h64)
  have HY := Lib.hid (may_any u ys _ (kr.ext HE0.out) k64)
  have HR := Lib.hid (hr.ext HE0.out)
  have KR := Lib.hid (kr.ext HE0.out)
  have HC : Hid ((w.alloc (.cells #[.int .i64 n] 3)).cell? ⟨w.heap.size, 0, none⟩ = some (.int .i64 n)) := Lib.hid (Var1.new w 3 (.int .i64 n)).cell
  obtain ⟨A, c, rfl, h1, h2, h3⟩ := hr
  obtain ⟨B, d, rfl, k1, k2, k3⟩ := kr
  have HX1 := Lib.hid (has_any xs n _ _ HR.out)
  have HY1 := Lib.hid (has_any ys (-n) _ _ KR.out)
  clear h3 k3
  unfold I64 at hn
  unfold ResolveV
  cases hm : mayB xs
  · rw [hm] at HX
    rw [if_neg (by simp)]
    clear hm
    go_enter Tryz.func18, Tryz.ntmps18
    go_wp2_with (go_at_call 35; refine HX.out.mono ?_; rintro e w' ⟨rfl, rfl⟩)
    go_ret2
    exact ⟨_, rfl, OwnI.nil _ _, HE0.out⟩
  cases km : mayB ys
  · rw [hm] at HX
    rw [km] at HY
    rw [if_neg (by simp)]
    clear hm km
    go_enter Tryz.func18, Tryz.ntmps18
    go_wp2_with (first
      | (go_at_call_of 35 (Value.slice A xs.length c); refine HX.out.mono ?_; rintro e w' ⟨rfl, rfl⟩)
      | (go_at_call_of 35 (Value.slice B ys.length d); refine HY.out.mono ?_; rintro e w' ⟨rfl, rfl⟩))
    go_ret2
    exact ⟨_, rfl, OwnI.nil _ _, HE0.out⟩
  rw [hm] at HX
  rw [km] at HY
  rw [if_pos ⟨rfl, rfl⟩]
  have hxl := may_len hm
  have hyl := may_len km
  clear hm km
  by_cases hn0 : n ≤ 0
  · rw [if_pos (.inl hn0)]
    go_enter Tryz.func18, Tryz.ntmps18
    go_wp2_with (first
      | (go_at_call_of 35 (Value.slice A xs.length c); refine HX.out.mono ?_; rintro e w' ⟨rfl, rfl⟩; have hc := HC.out)
      | (go_at_call_of 35 (Value.slice B ys.length d); refine HY.out.mono ?_; rintro e w' ⟨rfl, rfl⟩))
    go_ret2
    exact ⟨_, rfl, OwnI.nil _ _, HE0.out⟩
  have hn1 : 0 < n := by omega
  by_cases hv : n ∈ xs
  · rw [decide_eq_true hv] at HX1
    by_cases kv : -n ∈ ys
    · rw [decide_eq_true kv] at HY1
      have HV := Lib.hid hv
      have KV := Lib.hid kv
      have HMG := Lib.hid (merge_any 60 #[.pointer (some ⟨w.heap.size, 0, none⟩)] fv_res1 (fun x y => x == y || x == n) (fun x => by simp) xs ys _ _ _ h64 k64 HR.out KR.out (by omega)
        (fun x y _ _ w' he m => (res1_fn x y n w.heap.size (w'.drewN m) ((Ext.drewN w' m).cell (he.cell HC.out))).mono fun _ _ ⟨q1, q2⟩ => ⟨q1, m, q2.symm⟩))
      rw [show mergeL (fun x y => x == y || x == n) xs ys = resL n xs ys from rfl] at HMG
      clear hv kv
      rw [if_neg (fun h => h.elim hn0 (fun h => h.elim (fun h => h HV.out) (fun h => h KV.out)))]
      cases hmr : resL n xs ys with
      | none =>
        rw [hmr] at HMG
        clear hmr
        go_enter Tryz.func18, Tryz.ntmps18
        go_wp2_with (first
          | (go_at_call_of 35 (Value.slice A xs.length c); refine HX.out.mono ?_; rintro e w' ⟨rfl, rfl⟩; have hc := HC.out)
          | (go_at_call_of 35 (Value.slice B ys.length d); refine HY.out.mono ?_; rintro e w' ⟨rfl, rfl⟩)
          | (go_at_call_of 36 (Value.slice A xs.length c); refine HX1.out.mono ?_; rintro e w' ⟨rfl, rfl⟩)
          | (go_at_call_of 36 (Value.slice B ys.length d); refine HY1.out.mono ?_; rintro e w' ⟨rfl, rfl⟩)
          | (go_at_call 59; refine HMG.out.mono ?_; rintro e w' ⟨v', rfl, ho, hE⟩; have HE := Lib.hid (HE0.out.trans hE); clear ho hE))
        go_ret2
        exact ⟨_, rfl, OwnI.nil _ _, HE.out⟩
      | some r =>
        rw [hmr] at HMG
        clear hmr
        go_enter Tryz.func18, Tryz.ntmps18
        go_wp2_with (first
          | (go_at_call_of 35 (Value.slice A xs.length c); refine HX.out.mono ?_; rintro e w' ⟨rfl, rfl⟩; have hc := HC.out)
          | (go_at_call_of 35 (Value.slice B ys.length d); refine HY.out.mono ?_; rintro e w' ⟨rfl, rfl⟩)
          | (go_at_call_of 36 (Value.slice A xs.length c); refine HX1.out.mono ?_; rintro e w' ⟨rfl, rfl⟩)
          | (go_at_call_of 36 (Value.slice B ys.length d); refine HY1.out.mono ?_; rintro e w' ⟨rfl, rfl⟩)
          | (go_at_call 59; refine HMG.out.mono ?_; rintro e w' ⟨v', rfl, ho, hE⟩; have HO := Lib.hid (own_lower ho HE0.out.size); have HE := Lib.hid (HE0.out.trans hE); clear ho hE))
        go_ret2
        exact ⟨_, rfl, HO.out, HE.out⟩
    · rw [decide_eq_false kv] at HY1
      rw [if_pos (.inr (.inr kv))]
      clear hv kv
      go_enter Tryz.func18, Tryz.ntmps18
      go_wp2_with (first
        | (go_at_call_of 35 (Value.slice A xs.length c); refine HX.out.mono ?_; rintro e w' ⟨rfl, rfl⟩; have hc := HC.out)
        | (go_at_call_of 35 (Value.slice B ys.length d); refine HY.out.mono ?_; rintro e w' ⟨rfl, rfl⟩)
        | (go_at_call_of 36 (Value.slice A xs.length c); refine HX1.out.mono ?_; rintro e w' ⟨rfl, rfl⟩)
        | (go_at_call_of 36 (Value.slice B ys.length d); refine HY1.out.mono ?_; rintro e w' ⟨rfl, rfl⟩))
      go_ret2
      exact ⟨_, rfl, OwnI.nil _ _, HE0.out⟩
  · rw [decide_eq_false hv] at HX1
    rw [if_pos (.inr (.inl hv))]
    clear hv
    go_enter Tryz.func18, Tryz.ntmps18
    go_wp2_with (first
      | (go_at_call_of 35 (Value.slice A xs.length c); refine HX.out.mono ?_; rintro e w' ⟨rfl, rfl⟩; have hc := HC.out)
      | (go_at_call_of 35 (Value.slice B ys.length d); refine HY.out.mono ?_; rintro e w' ⟨rfl, rfl⟩)
      | (go_at_call_of 36 (Value.slice A xs.length c); refine HX1.out.mono ?_; rintro e w' ⟨rfl, rfl⟩))
    go_ret2
    exact ⟨_, rfl, OwnI.nil _ _, HE0.out⟩
end Go.Proofs.YtlompphnngnaiaaGreatDoor
namespace Go.Proofs.YtlompphnngnaiaaGreatDoor
open Go.RowKit

set_option maxHeartbeats 4000000 in
theorem Strike_any (xs ys : List Int) (v u : Value) (w : World) (h64 : All64 xs) (k64 : All64 ys) (hr : RI w v xs) (kr : RI w u ys) :
    Calls Tryz.prog 21 #[v, u] w fun e w' => e = .returned (.int .i64 (StrikeV xs ys)) ∧ w = w' := by
  have HX := Lib.hid (may_any v xs _ hr h64)
  have HY := Lib.hid (may_any u ys _ kr k64)
  have HR := Lib.hid hr
  have HH := Lib.hid (fun y => has_any ys y u w kr)
  obtain ⟨A, c, rfl, h1, h2, h3⟩ := hr
  obtain ⟨B, d, rfl, k1, k2, k3⟩ := kr
  clear h3 k3
  unfold StrikeV
  cases hm : mayB xs
  · rw [hm] at HX
    rw [if_neg (by simp)]
    clear hm
    go_enter Tryz.func21, Tryz.ntmps21
    go_wp2_with (go_at_call 35; refine HX.out.mono ?_; rintro e w' ⟨rfl, rfl⟩)
    go_ret
    exact ⟨rfl, rfl⟩
  cases km : mayB ys
  · rw [hm] at HX
    rw [km] at HY
    rw [if_neg (by simp)]
    clear hm km
    go_enter Tryz.func21, Tryz.ntmps21
    go_wp2_with (first
      | (go_at_call_of 35 (Value.slice A xs.length c); refine HX.out.mono ?_; rintro e w' ⟨rfl, rfl⟩)
      | (go_at_call_of 35 (Value.slice B ys.length d); refine HY.out.mono ?_; rintro e w' ⟨rfl, rfl⟩))
    go_ret
    exact ⟨rfl, rfl⟩
  rw [hm] at HX
  rw [km] at HY
  rw [if_pos ⟨rfl, rfl⟩]
  have HL := Lib.hid ((mayB_iff xs).1 hm).2
  clear hm km
  go_enter Tryz.func21, Tryz.ntmps21
  go_wp2_with (first
    | (go_at_call_of 35 (Value.slice A xs.length c); refine HX.out.mono ?_; rintro e w' ⟨rfl, rfl⟩)
    | (go_at_call_of 35 (Value.slice B ys.length d); refine HY.out.mono ?_; rintro e w' ⟨rfl, rfl⟩))
  go_loopg [5, 18] xs.length (fun gn o i wr => ∃ (k : Nat) (out : Int), k ≤ xs.length ∧ gn + k = xs.length ∧ i = .int .i64 k ∧ o = .int .i64 out ∧ w = wr ∧ Hid (strikeL ys out (xs.drop k) = strikeL ys 0 xs))
  case atStart => exact ⟨0, 0, Nat.zero_le _, by omega, rfl, rfl, rfl, rfl⟩
  case round =>
    obtain ⟨k, out, hk, hgk, rfl, rfl, rfl, HI⟩ := hrel
    by_cases hlt : k < xs.length
    · obtain ⟨ad, rfl, hx0⟩ := HR.out.row.2.2.2.int k hlt
      have hl := lit_small (HL.out _ (List.getElem_mem hlt))
      have hd : xs.drop k = xs[k] :: xs.drop (k + 1) := List.drop_eq_getElem_cons hlt
      obtain ⟨x, hx⟩ : ∃ x, x = xs[k] := ⟨_, rfl⟩
      rw [← hx] at hx0 hl hd
      have hx1 : -9223372036854775807 ≤ x := by omega
      have hx2 : x ≤ 9223372036854775807 := by omega
      have hi := HI.out
      rw [hd, strikeL] at hi
      have H1 := Lib.hid (HH.out x)
      have H2 := Lib.hid (HH.out (-x))
      clear hx hl hd HI
      by_cases hxy : x ∈ ys
      · rw [if_pos hxy] at hi
        rw [decide_eq_true hxy] at H1
        have HI := Lib.hid hi
        clear hi hxy
        go_wp2_with (go_at_call 36; refine H1.out.mono ?_; rintro e w' ⟨rfl, rfl⟩)
        go_roundg (xs.length - (k + 1))
        case measure => omega
        case rel => exact ⟨k + 1, out, by omega, by omega, by go_num, rfl, rfl, HI.out⟩
      · rw [if_neg hxy] at hi
        rw [decide_eq_false hxy] at H1
        clear hxy
        by_cases ho : out = 0
        · subst ho
          by_cases hn : -x ∈ ys
          · rw [if_pos ⟨rfl, hn⟩] at hi
            rw [decide_eq_true hn] at H2
            have HI := Lib.hid hi
            clear hi hn
            go_upto_region 9 with (go_at_call 36; refine H1.out.mono ?_; rintro e w' ⟨rfl, rfl⟩)
            go_wp2_with (go_at_call 36; refine H2.out.mono ?_; rintro e w' ⟨rfl, rfl⟩)
            go_roundg (xs.length - (k + 1))
            case measure => omega
            case rel => exact ⟨k + 1, -x, by omega, by omega, by go_num, rfl, rfl, HI.out⟩
          · rw [if_neg (fun h => hn h.2)] at hi
            rw [decide_eq_false hn] at H2
            have HI := Lib.hid hi
            clear hi hn
            go_upto_region 9 with (go_at_call 36; refine H1.out.mono ?_; rintro e w' ⟨rfl, rfl⟩)
            go_wp2_with (go_at_call 36; refine H2.out.mono ?_; rintro e w' ⟨rfl, rfl⟩)
            go_ret
            exact ⟨ret_int HI.out, rfl⟩
        · rw [if_neg (fun h => ho h.1)] at hi
          have hob : (out == 0) = false := by simpa using ho
          have HI := Lib.hid hi
          clear hi ho
          go_wp2_with (go_at_call 36; refine H1.out.mono ?_; rintro e w' ⟨rfl, rfl⟩)
          go_ret
          exact ⟨ret_int HI.out, rfl⟩
    · obtain rfl : k = xs.length := by omega
      have hi := HI.out
      rw [List.drop_length, strikeL] at hi
      have HI2 := Lib.hid hi
      clear hi HI
      go_wp2
      go_ret
      exact ⟨ret_int HI2.out, rfl⟩
end Go.Proofs.YtlompphnngnaiaaGreatDoor
namespace Go.Proofs.YtlompphnngnaiaaGreatDoor
open Go.RowKit

/-- Only draws, and new blocks. -/
def Grw (w w' : World) : Prop := ∃ n os, w' = Sort.grow (w.drewN n) os
theorem Grw.refl (w : World) : Grw w w := ⟨0, #[], (Sort.grow_empty w).symm⟩
theorem Grw.trans {a b c : World} (h : Grw a b) (k : Grw b c) : Grw a c := by
  obtain ⟨n, os, rfl⟩ := h
  obtain ⟨m, os', rfl⟩ := k
  refine ⟨n + m, os ++ os', ?_⟩
  simp [Sort.grow, World.drewN, Nat.add_assoc]
theorem Grw.alloc (w : World) (o : Obj) : Grw w (w.alloc o) := ⟨0, #[o], Sort.alloc_eq_grow w o⟩
theorem Grw.drewN (w : World) (n : Nat) : Grw w (w.drewN n) := ⟨n, #[], (Sort.grow_empty _).symm⟩
theorem Grw.ext {a b : World} (h : Grw a b) : Ext a b := by
  obtain ⟨n, os, rfl⟩ := h
  refine ⟨rfl, rfl, rfl, by simp [Sort.grow, World.drewN], fun i hi => ?_⟩
  exact Sort.heap_grow_old (a.drewN n) os hi

theorem ordF_ordB {x y : Int} (hx : I64 x) (hy : I64 y) : ordF x y = ordB x y := by
  unfold ordF ordB blt cmpI
  rw [sizeA_abs hx, sizeA_abs hy]
  repeat' split
  all_goals first | rfl | omega

theorem fv_order : Fv Tryz.prog 70 := ⟨_, Tryz.func70, by kernel_rfl, by kernel_rfl⟩

set_option maxHeartbeats 2000000 in
theorem CompareFunc_any (xs ys : List Int) (v u : Value) (w : World) (h64 : All64 xs) (k64 : All64 ys) (hr : RI w v xs) (kr : RI w u ys) :
    Calls Tryz.prog 69 #[v, u, .func (.func 70) #[] #[]] w fun e w' => e = .returned (.int .i64 (cmpL xs ys)) ∧ Grw w w' := by
  have HR := Lib.hid hr
  have KR := Lib.hid kr
  obtain ⟨A, c, rfl, h1, h2, h3⟩ := hr
  obtain ⟨B, d, rfl, k1, k2, k3⟩ := kr
  clear h3 k3
  go_enter Tryz.func69, Tryz.ntmps69
  go_wp2
  go_loopg [13] xs.length (fun gn i wr => ∃ k : Nat, k ≤ xs.length ∧ k ≤ ys.length ∧ gn + k = xs.length ∧ i = .int .i64 k ∧ Hid (Grw w wr ∧ cmpL (xs.drop k) (ys.drop k) = cmpL xs ys))
  case atStart => exact ⟨0, Nat.zero_le _, Nat.zero_le _, by omega, rfl, Grw.refl _, rfl⟩
  case round =>
    obtain ⟨k, hk, hky, hgk, rfl, HI⟩ := hrel
    obtain ⟨wk, rfl⟩ : ∃ wk : World, wk = wr := ⟨_, rfl⟩
    by_cases hlt : k < xs.length
    · obtain ⟨ad, rfl, hx0⟩ := (HR.out.ext HI.out.1.ext).row.2.2.2.int k hlt
      have hd : xs.drop k = xs[k] :: xs.drop (k + 1) := List.drop_eq_getElem_cons hlt
      have hx64 := h64 _ (List.getElem_mem hlt)
      obtain ⟨x, hx⟩ : ∃ x, x = xs[k] := ⟨_, rfl⟩
      rw [← hx] at hx0 hd hx64
      have hi := HI.out.2
      rw [hd] at hi
      clear hx hd
      by_cases hly : k < ys.length
      · obtain ⟨bd, rfl, hy0⟩ := (KR.out.ext HI.out.1.ext).row.2.2.2.int k hly
        have hd : ys.drop k = ys[k] :: ys.drop (k + 1) := List.drop_eq_getElem_cons hly
        have hy64 := k64 _ (List.getElem_mem hly)
        obtain ⟨y, hy⟩ : ∃ y, y = ys[k] := ⟨_, rfl⟩
        rw [← hy] at hy0 hd hy64
        rw [hd, cmpL, ← ordF_ordB hx64 hy64] at hi
        have HO := Lib.hid (order_any x y wk)
        clear hy hd
        obtain ⟨r, hr⟩ : ∃ r, r = ordF x y := ⟨_, rfl⟩
        rw [← hr] at hi HO
        clear hr
        by_cases hz : r = 0
        · subst hz
          rw [if_pos rfl] at hi
          have HI2 := Lib.hid hi
          clear hi
          go_wp2_with (refine wpList_callv (.tmp 26) #[.tmp 27, .tmp 28] _ rfl rfl #[] rfl fv_order #[.int .i64 x, .int .i64 y] (by simp only [List.map_toArray, List.map_cons, List.map_nil]; rfl) ?_; refine HO.out.mono ?_; rintro e w1 ⟨rfl, o, hw1⟩; have HG1 : Hid (Grw w w1) := Lib.hid (HI.out.1.trans (by rw [hw1]; exact Grw.alloc _ _)); clear hw1; refine ⟨_, rfl, ?_⟩)
          go_roundg (xs.length - (k + 1))
          case measure => omega
          case rel => exact ⟨k + 1, by omega, by omega, by omega, by go_num, HG1.out, HI2.out⟩
        · rw [if_neg hz] at hi
          have HI2 := Lib.hid hi
          have hzb : (r != 0) = true := by simpa using hz
          clear hi hz
          go_wp2_with (refine wpList_callv (.tmp 26) #[.tmp 27, .tmp 28] _ rfl rfl #[] rfl fv_order #[.int .i64 x, .int .i64 y] (by simp only [List.map_toArray, List.map_cons, List.map_nil]; rfl) ?_; refine HO.out.mono ?_; rintro e w1 ⟨rfl, o, hw1⟩; have HG1 : Hid (Grw w w1) := Lib.hid (HI.out.1.trans (by rw [hw1]; exact Grw.alloc _ _)); clear hw1; refine ⟨_, rfl, ?_⟩)
          go_ret
          exact ⟨ret_int HI2.out, HG1.out⟩
      · have hy : ys.drop k = [] := List.drop_eq_nil_of_le (by omega)
        rw [hy, cmpL] at hi
        have HI2 := Lib.hid hi
        clear hi hy
        go_wp2
        go_ret
        exact ⟨ret_int HI2.out, HI.out.1⟩
    · obtain rfl : k = xs.length := by omega
      have hi := HI.out.2
      rw [List.drop_length] at hi
      by_cases hly : xs.length < ys.length
      · rw [List.drop_eq_getElem_cons hly, cmpL] at hi
        have HI2 := Lib.hid hi
        clear hi
        go_wp2
        go_ret
        exact ⟨ret_int HI2.out, HI.out.1⟩
      · rw [List.drop_eq_nil_of_le (by omega), cmpL] at hi
        have HI2 := Lib.hid hi
        clear hi
        go_wp2
        go_ret
        exact ⟨ret_int HI2.out, HI.out.1⟩

set_option maxHeartbeats 400000 in
theorem Compare_any (xs ys : List Int) (v u : Value) (w : World) (h64 : All64 xs) (k64 : All64 ys) (hr : RI w v xs) (kr : RI w u ys) :
    Calls Tryz.prog 29 #[v, u] w fun e w' => e = .returned (.int .i64 (cmpL xs ys)) ∧ Grw w w' := by
  have H := Lib.hid (CompareFunc_any xs ys v u w h64 k64 hr kr)
  clear hr kr
  go_enter Tryz.func29, Tryz.ntmps29
  go_wp2_with (go_at_call 69; refine H.out.mono ?_; rintro e w' ⟨rfl, hE⟩; have HE := Lib.hid hE; clear hE)
  go_ret
  exact ⟨rfl, HE.out⟩
end Go.Proofs.YtlompphnngnaiaaGreatDoor
namespace Go.Proofs.YtlompphnngnaiaaGreatDoor
open Go.RowKit

theorem drewN_two (w : World) (n m : Nat) : (w.drewN n).drewN m = w.drewN (n + m) := by simp [World.drewN, Nat.add_assoc]

set_option maxHeartbeats 2000000 in
theorem equal_any (xs ys : List Int) (v u : Value) (w : World) (hr : RI w v xs) (kr : RI w u ys) :
    Calls Tryz.prog 85 #[v, u] w fun e w' => e = .returned (.bool (decide (xs = ys))) ∧ ∃ n, w' = w.drewN n := by
  have HR := Lib.hid hr
  have KR := Lib.hid kr
  obtain ⟨A, c, rfl, h1, h2, h3⟩ := hr
  obtain ⟨B, d, rfl, k1, k2, k3⟩ := kr
  clear h3 k3
  by_cases hl : xs.length = ys.length
  · obtain ⟨m, hm⟩ : ∃ m, m = ys.length := ⟨_, rfl⟩
    have HM := Lib.hid hm
    rw [← hm] at hl k1 k2 KR ⊢
    rw [hl] at HR h1 h2 ⊢
    have HL := Lib.hid hl
    clear hl hm
    have hnm : ((m : Int) != (m : Int)) = false := by simp
    go_enter Tryz.func85, Tryz.ntmps85
    go_wp2
    go_loopg [13] m (fun gn i wr => ∃ k : Nat, k ≤ m ∧ gn + k = m ∧ i = .int .i64 k ∧ Hid ((∃ n, wr = w.drewN n) ∧ xs.take k = ys.take k))
    case atStart => exact ⟨0, Nat.zero_le _, by omega, rfl, ⟨0, rfl⟩, by simp⟩
    case round =>
      obtain ⟨k, hk, hgk, rfl, HI⟩ := hrel
      obtain ⟨wk, rfl⟩ : ∃ wk : World, wk = wr := ⟨_, rfl⟩
      have HE : Hid (Ext w wk) := Lib.hid (by obtain ⟨n, e⟩ := HI.out.1; rw [e]; exact Ext.drewN _ _)
      by_cases hlt : k < m
      · have hlx : k < xs.length := by have := HL.out; omega
        have hly : k < ys.length := by have := HM.out; omega
        obtain ⟨ad, rfl, hx0⟩ := (HR.out.ext HE.out).row.2.2.2.int k hlx
        obtain ⟨bd, rfl, hy0⟩ := (KR.out.ext HE.out).row.2.2.2.int k hly
        have hsx := List.take_succ_eq_append_getElem hlx
        have hsy := List.take_succ_eq_append_getElem hly
        obtain ⟨x, hx⟩ : ∃ x, x = xs[k] := ⟨_, rfl⟩
        obtain ⟨y, hy⟩ : ∃ y, y = ys[k] := ⟨_, rfl⟩
        rw [← hx] at hx0 hsx
        rw [← hy] at hy0 hsy
        have HSX := Lib.hid hsx
        have HSY := Lib.hid hsy
        clear hx hy hsx hsy hlx hly
        by_cases hxy : x = y
        · subst hxy
          have hxx : (x != x) = false := by simp
          go_wp2
          go_quiet (fail)
          go_wp2
          go_roundg (m - (k + 1))
          case measure => omega
          case rel =>
            refine ⟨k + 1, by omega, by omega, by go_num, ?_, by rw [HSX.out, HSY.out, HI.out.2]⟩
            obtain ⟨n, e⟩ := HI.out.1
            exact ⟨_, by rw [e, drewN_two]⟩
        · have hxx : (x != y) = true := by simpa using hxy
          have HXY := Lib.hid hxy
          clear hxy
          go_wp2
          go_quiet (fail)
          go_wp2
          go_ret
          refine ⟨ret_bool ?_, ?_⟩
          · symm
            rw [decide_eq_false_iff_not]
            intro e
            have h5 := congrArg (List.take (k + 1)) e
            rw [HSX.out, HSY.out, HI.out.2] at h5
            exact HXY.out (by simpa using h5)
          · obtain ⟨n, e⟩ := HI.out.1
            exact ⟨_, by rw [e, drewN_two]⟩
      · obtain rfl : k = m := by omega
        go_wp2
        go_ret
        refine ⟨ret_bool ?_, HI.out.1⟩
        symm
        rw [decide_eq_true_eq]
        have h5 := HI.out.2
        rwa [List.take_of_length_le (by have := HL.out; omega), List.take_of_length_le (by have := HM.out; omega)] at h5
  · have hnb : ((xs.length : Int) != (ys.length : Int)) = true := by simp; omega
    have HL := Lib.hid hl
    clear hl
    go_enter Tryz.func85, Tryz.ntmps85
    go_wp2
    go_ret
    refine ⟨ret_bool ?_, 0, rfl⟩
    symm
    rw [decide_eq_false_iff_not]
    intro e
    exact HL.out (by rw [e])
end Go.Proofs.YtlompphnngnaiaaGreatDoor
namespace Go.Proofs.YtlompphnngnaiaaGreatDoor
open Go.RowKit

set_option maxHeartbeats 2000000 in
theorem Same_q (xs ys : List Int) (v u : Value) (w : World) (hr : RI w v xs) (kr : RI w u ys) :
    Calls Tryz.prog 86 #[v, u] w fun e w' => e = .returned (.bool (decide (xs = ys))) ∧ ∃ n, w' = w.drewN n := by
  have HR := Lib.hid hr
  have KR := Lib.hid kr
  obtain ⟨A, c, rfl, h1, h2, h3⟩ := hr
  obtain ⟨B, d, rfl, k1, k2, k3⟩ := kr
  clear h3 k3
  by_cases hl : xs.length = ys.length
  · obtain ⟨m, hm⟩ : ∃ m, m = ys.length := ⟨_, rfl⟩
    have HM := Lib.hid hm
    rw [← hm] at hl k1 k2 KR ⊢
    rw [hl] at HR h1 h2 ⊢
    have HL := Lib.hid hl
    clear hl hm
    have hnm : ((m : Int) != (m : Int)) = false := by simp
    go_enter Tryz.func86, Tryz.ntmps86
    go_wp2
    go_loopg [5] m (fun gn i wr => ∃ k : Nat, k ≤ m ∧ gn + k = m ∧ i = .int .i64 k ∧ Hid ((∃ n, wr = w.drewN n) ∧ xs.take k = ys.take k))
    case atStart => exact ⟨0, Nat.zero_le _, by omega, rfl, ⟨0, rfl⟩, by simp⟩
    case round =>
      obtain ⟨k, hk, hgk, rfl, HI⟩ := hrel
      obtain ⟨wk, rfl⟩ : ∃ wk : World, wk = wr := ⟨_, rfl⟩
      have HE : Hid (Ext w wk) := Lib.hid (by obtain ⟨n, e⟩ := HI.out.1; rw [e]; exact Ext.drewN _ _)
      by_cases hlt : k < m
      · have hlx : k < xs.length := by have := HL.out; omega
        have hly : k < ys.length := by have := HM.out; omega
        obtain ⟨ad, rfl, hx0⟩ := (HR.out.ext HE.out).row.2.2.2.int k hlx
        obtain ⟨bd, rfl, hy0⟩ := (KR.out.ext HE.out).row.2.2.2.int k hly
        have hsx := List.take_succ_eq_append_getElem hlx
        have hsy := List.take_succ_eq_append_getElem hly
        obtain ⟨x, hx⟩ : ∃ x, x = xs[k] := ⟨_, rfl⟩
        obtain ⟨y, hy⟩ : ∃ y, y = ys[k] := ⟨_, rfl⟩
        rw [← hx] at hx0 hsx
        rw [← hy] at hy0 hsy
        have HSX := Lib.hid hsx
        have HSY := Lib.hid hsy
        clear hx hy hsx hsy hlx hly
        by_cases hxy : x = y
        · subst hxy
          have hxx : (x != x) = false := by simp
          go_wp2
          go_quiet (fail)
          go_wp2
          go_roundg (m - (k + 1))
          case measure => omega
          case rel =>
            refine ⟨k + 1, by omega, by omega, by go_num, ?_, by rw [HSX.out, HSY.out, HI.out.2]⟩
            obtain ⟨n, e⟩ := HI.out.1
            exact ⟨_, by rw [e, drewN_two]⟩
        · have hxx : (x != y) = true := by simpa using hxy
          have HXY := Lib.hid hxy
          clear hxy
          go_wp2
          go_quiet (fail)
          go_wp2
          go_ret
          refine ⟨ret_bool ?_, ?_⟩
          · symm
            rw [decide_eq_false_iff_not]
            intro e
            have h5 := congrArg (List.take (k + 1)) e
            rw [HSX.out, HSY.out, HI.out.2] at h5
            exact HXY.out (by simpa using h5)
          · obtain ⟨n, e⟩ := HI.out.1
            exact ⟨_, by rw [e, drewN_two]⟩
      · obtain rfl : k = m := by omega
        go_wp2
        go_ret
        refine ⟨ret_bool ?_, HI.out.1⟩
        symm
        rw [decide_eq_true_eq]
        have h5 := HI.out.2
        rwa [List.take_of_length_le (by have := HL.out; omega), List.take_of_length_le (by have := HM.out; omega)] at h5
  · have hnb : ((xs.length : Int) != (ys.length : Int)) = true := by simp; omega
    have HL := Lib.hid hl
    clear hl
    go_enter Tryz.func86, Tryz.ntmps86
    go_wp2
    go_ret
    refine ⟨ret_bool ?_, 0, rfl⟩
    symm
    rw [decide_eq_false_iff_not]
    intro e
    exact HL.out (by rw [e])
theorem Same_any (xs ys : List Int) (v u : Value) (w : World) (hr : RI w v xs) (kr : RI w u ys) : Calls Tryz.prog 86 #[v, u] w fun e w' => e = .returned (.bool (decide (xs = ys))) ∧ Ext w w' :=
  (Same_q xs ys v u w hr kr).mono fun _ _ ⟨h, n, e⟩ => ⟨h, e ▸ Ext.drewN w n⟩
theorem Same_refl (r : List Int) (v u : Value) (w : World) (hr : RI w v r) (kr : RI w u r) : Calls Tryz.prog 86 #[v, u] w fun e w' => e = .returned (.bool true) ∧ Ext w w' := by
  have := Same_any r r v u w hr kr
  rw [decide_eq_true rfl] at this
  exact this

set_option maxHeartbeats 2000000 in
theorem SameAll_any (xs ys : List (List Int)) (v u : Value) (w : World) (hr : RLL w v xs) (kr : RLL w u ys) :
    Calls Tryz.prog 48 #[v, u] w fun e w' => e = .returned (.bool (decide (xs = ys))) ∧ Ext w w' := by
  obtain ⟨A, c, vs, rfl, h1, h2, h3, h4, h5⟩ := hr
  obtain ⟨B, d, us, rfl, k1, k2, k3, k4, k5⟩ := kr
  have H3 := Lib.hid h3
  have H4 := Lib.hid h4
  have H5 := Lib.hid h5
  have K3 := Lib.hid k3
  have K4 := Lib.hid k4
  have K5 := Lib.hid k5
  clear h3 h4 h5 k3 k4 k5
  by_cases hl : vs.length = us.length
  · obtain ⟨m, hm⟩ : ∃ m, m = us.length := ⟨_, rfl⟩
    have HM := Lib.hid hm
    rw [← hm] at hl k1 k2 ⊢
    rw [hl] at h1 h2 ⊢
    have HL := Lib.hid hl
    clear hl hm
    have hnm : ((m : Int) != (m : Int)) = false := by simp
    go_enter Tryz.func48, Tryz.ntmps48
    go_wp2
    go_loopg [5] m (fun gn i wr => ∃ k : Nat, k ≤ m ∧ gn + k = m ∧ i = .int .i64 k ∧ Hid (Ext w wr ∧ xs.take k = ys.take k))
    case atStart => exact ⟨0, Nat.zero_le _, by omega, rfl, Ext.refl _, by simp⟩
    case round =>
      obtain ⟨k, hk, hgk, rfl, HI⟩ := hrel
      obtain ⟨wk, rfl⟩ : ∃ wk : World, wk = wr := ⟨_, rfl⟩
      by_cases hlt : k < m
      · have hlv : k < vs.length := by have := HL.out; omega
        have hlu : k < us.length := by have := HM.out; omega
        have hlx : k < xs.length := by have := H4.out; omega
        have hly : k < ys.length := by have := K4.out; omega
        obtain ⟨ad, rfl, hx0⟩ := (H3.out.ext HI.out.1) k hlv
        obtain ⟨bd, rfl, hy0⟩ := (K3.out.ext HI.out.1) k hlu
        have hsx := List.take_succ_eq_append_getElem hlx
        have hsy := List.take_succ_eq_append_getElem hly
        have hcl : ∀ n, Calls Tryz.prog 86 #[vs[k], us[k]] (wk.drewN n) fun e w' => e = .returned (.bool (decide (xs[k] = ys[k]))) ∧ ∃ q, w' = wk.drewN q := fun n => by
          have e0 : Ext w (wk.drewN n) := HI.out.1.trans (Ext.drewN _ _)
          refine (Same_q xs[k] ys[k] vs[k] us[k] _ ((H5.out k hlv hlx).ext e0) ((K5.out k hlu hly).ext e0)).mono ?_
          rintro e w' ⟨he, q, rfl⟩
          exact ⟨he, n + q, drewN_two _ _ _⟩
        obtain ⟨E, ce, he, -⟩ := H5.out k hlv hlx
        obtain ⟨D, de, hd, -⟩ := K5.out k hlu hly
        obtain ⟨x, hx⟩ : ∃ x, x = xs[k] := ⟨_, rfl⟩
        obtain ⟨y, hy⟩ : ∃ y, y = ys[k] := ⟨_, rfl⟩
        rw [he] at hx0 hcl
        rw [hd] at hy0 hcl
        rw [← hx] at hsx hx0 hcl
        rw [← hy] at hsy hy0 hcl
        have HSX := Lib.hid hsx
        have HSY := Lib.hid hsy
        obtain ⟨a, ha⟩ : ∃ a, a = x.length := ⟨_, rfl⟩
        obtain ⟨b, hb⟩ : ∃ b, b = y.length := ⟨_, rfl⟩
        rw [← ha] at hx0 hcl
        rw [← hb] at hy0 hcl
        clear hx hy hsx hsy hlx hly hlv hlu he hd ha hb
        by_cases hxy : x = y
        · rw [decide_eq_true hxy] at hcl
          have HXY := Lib.hid hxy
          have HCL := Lib.hid hcl
          clear hxy hcl
          go_wp2
          go_quiet ((go_at_call 86; exact HCL.out _))
          go_wp2
          go_roundg (m - (k + 1))
          case measure => omega
          case rel => exact ⟨k + 1, by omega, by omega, by go_num, HI.out.1.trans (Ext.drewN _ _), by rw [HSX.out, HSY.out, HI.out.2, HXY.out]⟩
        · rw [decide_eq_false hxy] at hcl
          have HXY := Lib.hid hxy
          have HCL := Lib.hid hcl
          clear hxy hcl
          go_wp2
          go_quiet ((go_at_call 86; exact HCL.out _))
          go_wp2
          go_ret
          refine ⟨ret_bool ?_, HI.out.1.trans (Ext.drewN _ _)⟩
          symm
          rw [decide_eq_false_iff_not]
          intro e
          have h5 := congrArg (List.take (k + 1)) e
          rw [HSX.out, HSY.out, HI.out.2] at h5
          exact HXY.out (by simpa using h5)
      · obtain rfl : k = m := by omega
        go_wp2
        go_ret
        refine ⟨ret_bool ?_, HI.out.1⟩
        symm
        rw [decide_eq_true_eq]
        have h5 := HI.out.2
        rwa [List.take_of_length_le (by have := HL.out; have := H4.out; omega), List.take_of_length_le (by have := HM.out; have := K4.out; omega)] at h5
  · have hnb : ((vs.length : Int) != (us.length : Int)) = true := by simp; omega
    have HL := Lib.hid hl
    clear hl
    go_enter Tryz.func48, Tryz.ntmps48
    go_wp2
    go_ret
    refine ⟨ret_bool ?_, Ext.refl _⟩
    symm
    rw [decide_eq_false_iff_not]
    intro e
    exact HL.out (by have := H4.out; have := K4.out; have := congrArg List.length e; omega)
end Go.Proofs.YtlompphnngnaiaaGreatDoor
namespace Go.Proofs.YtlompphnngnaiaaGreatDoor
open Go.RowKit

def subB (xs ys : List Int) : Bool := mayB xs && mayB ys && xs.all fun x => decide (x ∈ ys)

theorem subB_iff {xs ys : List Int} : subB xs ys = true ↔ mayB xs = true ∧ mayB ys = true ∧ ∀ x ∈ xs, x ∈ ys := by
  unfold subB
  simp [and_assoc]

section
variable {x : Int} {xs zs : List Int}
theorem sub_none (h : ∀ j (hj : j < zs.length), ¬ varOf x ≤ varOf zs[j]) : ((x :: xs).all fun y => decide (y ∈ zs)) = false := by
  rw [List.all_cons, Bool.and_eq_false_iff]
  left
  rw [decide_eq_false_iff_not]
  intro hm
  obtain ⟨j, hj, e⟩ := List.getElem_of_mem hm
  have := h j hj
  rw [e] at this
  omega
theorem sub_ne (hz : Asc zs) {j : Nat} (hj : j < zs.length) (h1 : varOf x ≤ varOf zs[j]) (h2 : ∀ i (hi : i < j), ¬ varOf x ≤ varOf (zs[i]'(by omega))) (hne : zs[j] ≠ x) : ((x :: xs).all fun y => decide (y ∈ zs)) = false := by
  rw [List.all_cons, Bool.and_eq_false_iff]
  left
  rw [decide_eq_false_iff_not]
  intro hm
  obtain ⟨i, hi, e⟩ := List.getElem_of_mem hm
  rcases Nat.lt_trichotomy i j with h | h | h
  · have := h2 i h
    rw [e] at this
    omega
  · subst h; exact hne e
  · have := hz.lt j i h hi
    rw [e] at this
    omega
theorem sub_eq (hz : Asc zs) (hx : Asc (x :: xs)) {j : Nat} (hj : j < zs.length) (he : zs[j] = x) : ((x :: xs).all fun y => decide (y ∈ zs)) = xs.all fun y => decide (y ∈ zs.drop (j + 1)) := by
  rw [List.all_cons, decide_eq_true (show x ∈ zs from he ▸ List.getElem_mem hj), Bool.true_and, Bool.eq_iff_iff, List.all_eq_true, List.all_eq_true]
  refine forall_congr' fun y => forall_congr' fun hy => ?_
  rw [decide_eq_true_eq, decide_eq_true_eq]
  refine ⟨fun h => ?_, fun h => List.mem_of_mem_drop h⟩
  obtain ⟨i, hi, e⟩ := List.getElem_of_mem h
  have hv := hx.head.2 y hy
  have hij : j < i := by
    rcases Nat.lt_trichotomy i j with h3 | h3 | h3
    · have := hz.lt i j h3 hj
      rw [e, he] at this; omega
    · subst h3
      have : y = x := e.symm.trans he
      rw [this] at hv; omega
    · exact h3
  rw [List.mem_drop_iff_getElem]
  exact ⟨i - (j + 1), by omega, by rw [← e]; congr 1; omega⟩
theorem Asc.drop (hz : Asc zs) (j : Nat) : Asc (zs.drop j) := ⟨hz.1.drop, fun y hy => hz.2 y (List.mem_of_mem_drop hy)⟩
end

/-- xs[k:] of a slice that reads as xs. -/
theorem RI.dropN {w : World} {A : Option Addr} {c : Nat} {zs : List Int} (h : RI w (.slice A zs.length c) zs) (k : Nat) (hk : k ≤ zs.length) : RI w (.slice (if c - k = 0 then A else A.map (·.add k)) (zs.length - k) (c - k)) (zs.drop k) := by
  obtain ⟨-, h1, h2, h3⟩ := h.row
  refine ⟨_, _, by rw [List.length_drop], by rw [List.length_drop]; omega, by rw [List.length_drop]; omega, fun j hj => ?_⟩
  rw [List.length_map, List.length_drop] at hj
  rw [if_neg (by omega)]
  obtain ⟨ad, rfl, hc⟩ := h3 (k + j) (by rw [List.length_map]; omega)
  refine ⟨ad.add k, rfl, ?_⟩
  rw [show (ad.add k).add j = ad.add (k + j) by unfold Addr.add; split <;> split <;> split <;> simp_all <;> omega, hc]
  simp

set_option maxHeartbeats 400000 in
theorem sub1_fn (x y : Int) (hx : I64 x) (hy : I64 y) (g : Nat) (w : World) (hc : w.cell? ⟨g, 0, none⟩ = some (.int .i64 x)) :
    Calls Tryz.prog 68 #[.int .i64 y, .pointer (some ⟨g, 0, none⟩)] w fun e w' => e = .returned (.bool (decide (varOf x ≤ varOf y))) ∧ ∃ n, w' = w.drewN n := by
  go_enter Tryz.func68, Tryz.ntmps68
  go_wp2
  go_quiet ((first | (go_at_call_of 33 (Value.int .i64 y); exact quiet_same (var_any y hy _)) | (go_at_call_of 33 (Value.int .i64 x); exact quiet_same (var_any x hx _))))
  go_wp2
  go_ret
  exact ⟨rfl, _, rfl⟩
theorem fv_sub1 : Fv Tryz.prog 68 := ⟨_, Tryz.func68, by kernel_rfl, by kernel_rfl⟩

set_option maxHeartbeats 2000000 in
theorem Sub_any (xs ys : List Int) (v u : Value) (w : World) (h64 : All64 xs) (k64 : All64 ys) (hr : RI w v xs) (kr : RI w u ys) :
    Calls Tryz.prog 26 #[v, u] w fun e w' => e = .returned (.bool (subB xs ys)) ∧ Ext w w' := by
  generalize hbb : subB xs ys = bb
  have HBB := Lib.hid hbb
  have HX := Lib.hid (may_any v xs w hr h64)
  have HY := Lib.hid (may_any u ys w kr k64)
  have HR := Lib.hid hr
  have KR := Lib.hid kr
  unfold subB at hbb
  obtain ⟨A, c, rfl, h1, h2, h3⟩ := hr
  obtain ⟨B, d, rfl, k1, k2, k3⟩ := kr
  clear h3 k3
  cases hm : mayB xs
  · rw [hm] at HX hbb
    have HB0 : Hid (bb = false) := Lib.hid (by rw [← hbb]; rfl)
    clear hbb hm
    go_enter Tryz.func26, Tryz.ntmps26
    go_wp2_with (go_at_call 35; refine HX.out.mono ?_; rintro e w' ⟨rfl, rfl⟩)
    go_ret
    exact ⟨ret_bool HB0.out.symm, Ext.refl _⟩
  cases km : mayB ys
  · rw [hm] at HX
    rw [km] at HY
    rw [hm, km] at hbb
    have HB0 : Hid (bb = false) := Lib.hid (by rw [← hbb]; rfl)
    clear hbb hm km
    go_enter Tryz.func26, Tryz.ntmps26
    go_wp2_with (first
      | (go_at_call_of 35 (Value.slice A xs.length c); refine HX.out.mono ?_; rintro e w' ⟨rfl, rfl⟩)
      | (go_at_call_of 35 (Value.slice B ys.length d); refine HY.out.mono ?_; rintro e w' ⟨rfl, rfl⟩))
    go_ret
    exact ⟨ret_bool HB0.out.symm, Ext.refl _⟩
  rw [hm] at HX
  rw [km] at HY
  rw [hm, km] at hbb
  have HBA : Hid ((xs.all fun x => decide (x ∈ ys)) = bb) := Lib.hid (by rw [← hbb]; rfl)
  have HMX := Lib.hid ((mayB_iff xs).1 hm)
  have HMY := Lib.hid ((mayB_iff ys).1 km)
  clear hbb hm km
  go_enter Tryz.func26, Tryz.ntmps26
  go_wp2_with (first
    | (go_at_call_of 35 (Value.slice A xs.length c); refine HX.out.mono ?_; rintro e w' ⟨rfl, rfl⟩)
    | (go_at_call_of 35 (Value.slice B ys.length d); refine HY.out.mono ?_; rintro e w' ⟨rfl, rfl⟩))
  go_loopg [1, 18] xs.length (fun gn b i wr => ∃ (k : Nat) (zs : List Int) (Z : Option Addr) (cz : Nat), k ≤ xs.length ∧ gn + k = xs.length ∧ i = .int .i64 k ∧ b = .slice Z zs.length cz ∧ Hid (RI wr (.slice Z zs.length cz) zs ∧ Ext w wr ∧ Asc zs ∧ All64 zs ∧ ((xs.drop k).all fun x => decide (x ∈ zs)) = bb))
  case atStart => exact ⟨0, ys, B, d, Nat.zero_le _, by omega, rfl, rfl, KR.out, Ext.refl _, HMY.out, k64, HBA.out⟩
  case round =>
    obtain ⟨k, zs, Z, cz, hk, hgk, rfl, rfl, HI⟩ := hrel
    obtain ⟨wk, rfl⟩ : ∃ wk : World, wk = wr := ⟨_, rfl⟩
    by_cases hlt : k < xs.length
    · obtain ⟨ad, rfl, hx0⟩ := (HR.out.ext HI.out.2.1).row.2.2.2.int k hlt
      obtain ⟨x, hx⟩ : ∃ x, x = xs[k] := ⟨_, rfl⟩
      rw [← hx] at hx0
      have hdr : xs.drop k = x :: xs.drop (k + 1) := by rw [hx]; exact List.drop_eq_getElem_cons hlt
      have hx64 : I64 x := hx ▸ h64 _ (List.getElem_mem hlt)
      have HDR := Lib.hid hdr
      clear hdr hx
      have hzl := HI.out.2.2.1.len
      have hix : ∀ w' : World, RI w' (.slice Z zs.length cz) zs → w'.cell? ⟨wk.heap.size, 0, none⟩ = some (.int .i64 x) → Calls Tryz.prog 67 #[.slice Z zs.length cz, .func (.func 68) #[] #[.pointer (some ⟨wk.heap.size, 0, none⟩)]] w' fun e w'' => ∃ r : Int, e = .returned (.int .i64 r) ∧ Ext w' w'' ∧ IdxOf (fun j => decide (varOf x ≤ varOf (zs.getD j 0))) zs.length r := fun w' hrr hcc => by
        obtain ⟨-, g1, g2, g3⟩ := hrr.row
        have := indexFuncI 68 #[.pointer (some ⟨wk.heap.size, 0, none⟩)] fv_sub1 Z cz (zs.map (Value.int .i64)) (by rw [List.length_map]; exact g2) (fun j => decide (varOf x ≤ varOf (zs.getD j 0))) (fun _ w'' => Ext w' w'') w'
          (fun _ w'' hw => g3.ext hw)
          (fun j hj w'' hw => by
            have hj' : j < zs.length := by simpa using hj
            rw [List.getElem_map]
            refine (sub1_fn x zs[j] hx64 (HI.out.2.2.2.1 _ (List.getElem_mem hj')) wk.heap.size w'' (hw.cell hcc)).mono ?_
            rintro e w3 ⟨rfl, n, rfl⟩
            exact ⟨by rw [show zs.getD j 0 = zs[j] by simp [hj']], hw.trans (Ext.drewN _ _)⟩)
          (Ext.refl _)
        rw [List.length_map] at this
        refine this.mono ?_
        rintro e w'' ⟨r, rfl, hs⟩
        rcases hs with ⟨j, hj, hp, hn, rfl, hE⟩ | ⟨hn, rfl, hE⟩
        · exact ⟨_, rfl, hE, .inl ⟨j, hj, hp, hn, rfl⟩⟩
        · exact ⟨_, rfl, hE, .inr ⟨hn, rfl⟩⟩
      have HIX := Lib.hid hix
      clear hix
      go_upto_region 6 with fail
      generalize hW : wk.alloc _ = W1
      have HE1 : Hid (Ext wk W1) := Lib.hid (hW ▸ Ext.alloc _ _)
      have a5 : W1.cell? ⟨wk.heap.size, 0, none⟩ = some (.int .i64 x) := hW ▸ (Var1.new wk 3 (.int .i64 x)).cell
      have HZ1 := Lib.hid (HI.out.1.ext HE1.out)
      have HA5 := Lib.hid a5
      clear hW
      go_upto_region 7 with (go_at_call 67; refine (HIX.out W1 HZ1.out HA5.out).mono ?_; rintro e w2 ⟨r, rfl, hE, hs⟩; have HE2 := Lib.hid hE; have HS := Lib.hid hs; clear hE hs)
      have a6 := HE2.out.cell HA5.out
      have HE3 : Hid (Ext w w2) := Lib.hid (HI.out.2.1.trans (HE1.out.trans HE2.out))
      have HZ2 := Lib.hid (HZ1.out.ext HE2.out)
      clear a5
      rcases HS.out with ⟨j, hj, hp, hn, rfl⟩ | ⟨hn, rfl⟩
      · obtain ⟨az, rfl, hz0⟩ := HZ2.out.row.2.2.2.int j hj
        obtain ⟨z, hz⟩ : ∃ z, z = zs[j] := ⟨_, rfl⟩
        rw [← hz] at hz0
        have hjn : decide ((j : Int) < 0) = false := by rw [decide_eq_false_iff_not]; omega
        by_cases hzx : z = x
        · subst hzx
          have hxx : (z != z) = false := by simp
          have HNX := Lib.hid (sub_eq HI.out.2.2.1 (HDR.out ▸ HMX.out.drop k) hj hz.symm)
          have HSL := Lib.hid (HZ2.out.dropN (j + 1) (by omega))
          have hsc := HZ2.out.row.2.1
          clear hp hn
          go_quiet (fail)
          have HE4 := fun n => Lib.hid (HE3.out.trans (Ext.drewN w2 n))
          have HSM := fun n => Lib.hid (HSL.out.ext (Ext.drewN w2 n))
          clear HSL
          go_wp2
          all_goals
            go_roundg (xs.length - (k + 1))
            case measure => omega
            case rel =>
              refine ⟨k + 1, zs.drop (j + 1), _, _, by omega, by omega, by go_num, by rw [List.length_drop], ?_, (HE4 _).out, HI.out.2.2.1.drop _, fun y hy => HI.out.2.2.2.1 y (List.mem_of_mem_drop hy), ?_⟩
              · have := (HSM ‹Nat›).out
                rw [List.length_drop]
                first
                  | (rw [if_pos (by omega), show cz - (j + 1) = 0 by omega] at this; exact this)
                  | (rw [if_neg (by omega)] at this; exact this)
              · rw [← HNX.out, ← HDR.out, HI.out.2.2.2.2]
        · have hxx : (z != x) = true := by simpa using hzx
          have HF := Lib.hid (sub_ne (x := x) (xs := xs.drop (k + 1)) HI.out.2.2.1 hj (by simpa [hj] using hp) (fun i hi => by have := hn i hi; rw [decide_eq_false_iff_not] at this; rwa [show zs.getD i 0 = zs[i]'(by omega) by simp [show i < zs.length by omega]] at this) (fun e => hzx (hz.trans e)))
          clear hn hp
          go_quiet (fail)
          go_wp2
          go_ret
          exact ⟨ret_bool (by rw [← HI.out.2.2.2.2, HDR.out, HF.out]), HE3.out.trans (Ext.drewN _ _)⟩
      · have HF := Lib.hid (sub_none (x := x) (xs := xs.drop (k + 1)) (zs := zs) (fun j hj => by have := hn j hj; rw [decide_eq_false_iff_not] at this; rwa [show zs.getD j 0 = zs[j] by simp [hj]] at this))
        clear hn
        go_quiet (fail)
        go_wp2
        go_ret
        exact ⟨ret_bool (by rw [← HI.out.2.2.2.2, HDR.out, HF.out]), HE3.out.trans (Ext.drewN _ _)⟩
    · obtain rfl : k = xs.length := by omega
      have hb := HI.out.2.2.2.2
      rw [List.drop_length] at hb
      have HB := Lib.hid hb
      clear hb
      go_wp2
      go_ret
      exact ⟨ret_bool (by rw [← HB.out]; rfl), HI.out.2.1⟩
end Go.Proofs.YtlompphnngnaiaaGreatDoor
namespace Go.Proofs.YtlompphnngnaiaaGreatDoor
open Go.RowKit

def PostJoin (w : World) (r : List Int × Int) (e : Ending) (w' : World) : Prop := ∃ v, e = .returned (.tuple #[v, .int .i64 r.2]) ∧ OwnI w' w.heap.size v r.1 ∧ Ext w w'

set_option maxHeartbeats 2000000 in
theorem Join_any (xs ys : List Int) (v u : Value) (w : World) (h64 : All64 xs) (k64 : All64 ys) (hr : RI w v xs) (kr : RI w u ys) :
    Calls Tryz.prog 23 #[v, u] w (PostJoin w (JoinV xs ys)) := by
  have HP : Hid (PostJoin w (JoinV xs ys) = PostJoin w (JoinV xs ys)) := Lib.hid rfl
  generalize hPP : PostJoin w (JoinV xs ys) = PP at HP ⊢
  have HPP := Lib.hid hPP
  clear hPP HP
  cases hm : mayB xs <;> cases km : mayB ys
  case true.true =>
    have HM := Lib.hid hm
    have KM := Lib.hid km
    have HL := Lib.hid (may_any v xs w hr h64)
    have KL := Lib.hid (may_any u ys w kr k64)
    rw [hm] at HL
    rw [km] at KL
    have HJ := Lib.hid (merge_join xs ys v u w h64 k64 hr kr (by have := may_len hm; have := may_len km; omega))
    clear hm km
    cases hj : mergeL (fun x y => x == y) xs ys with
    | none =>
      rw [hj] at HJ
      have HJJ := Lib.hid hj
      clear hj
      go_enter Tryz.func23, Tryz.ntmps23
      go_wp2_with (first
        | (go_at_call_of 35 v; refine HL.out.mono ?_; rintro e w' ⟨rfl, rfl⟩)
        | (go_at_call_of 35 u; refine KL.out.mono ?_; rintro e w' ⟨rfl, rfl⟩)
        | (go_at_call 59; refine HJ.out.mono ?_; rintro e w' ⟨v', rfl, ho, hE⟩; have HO := Lib.hid ho; have HE := Lib.hid hE; clear ho hE))
      rw [← HPP.out]
      unfold JoinV joinV
      rw [if_pos ⟨HM.out, KM.out⟩, HJJ.out]
      exact ⟨_, rfl, OwnI.nil _ _, HE.out⟩
    | some c =>
      rw [hj] at HJ
      have HJJ := Lib.hid hj
      clear hj
      go_enter Tryz.func23, Tryz.ntmps23
      go_wp2_with (first
        | (go_at_call_of 35 v; refine HL.out.mono ?_; rintro e w' ⟨rfl, rfl⟩)
        | (go_at_call_of 35 u; refine KL.out.mono ?_; rintro e w' ⟨rfl, rfl⟩)
        | (go_at_call 59; refine HJ.out.mono ?_; rintro e w' ⟨v', rfl, ho, hE⟩; have HO := Lib.hid ho; have HE := Lib.hid hE; clear ho hE))
      rw [← HPP.out]
      unfold JoinV joinV
      rw [if_pos ⟨HM.out, KM.out⟩, HJJ.out]
      exact ⟨_, rfl, HO.out, HE.out⟩
  all_goals
    have HM := Lib.hid hm
    have KM := Lib.hid km
    have HL := Lib.hid (may_any v xs w hr h64)
    have KL := Lib.hid (may_any u ys w kr k64)
    rw [hm] at HL
    rw [km] at KL
    clear hm km
    go_enter Tryz.func23, Tryz.ntmps23
    go_wp2_with (first
      | (go_at_call_of 35 v; refine HL.out.mono ?_; rintro e w' ⟨rfl, rfl⟩)
      | (go_at_call_of 35 u; refine KL.out.mono ?_; rintro e w' ⟨rfl, rfl⟩))
    rw [← HPP.out]
    unfold JoinV
    rw [if_neg (by rw [HM.out, KM.out]; simp)]
    exact ⟨_, rfl, OwnI.nil _ _, Ext.refl _⟩

def agreeB (xs ys : List Int) : Bool := (JoinV xs ys).2 == 0

end Go.Proofs.YtlompphnngnaiaaGreatDoor
namespace Go.Proofs.YtlompphnngnaiaaGreatDoor
open Go.RowKit

def PostOwn (w : World) (r : List Int) (e : Ending) (w' : World) : Prop := ∃ v', e = .returned v' ∧ OwnI w' w.heap.size v' r ∧ Ext w w'

set_option maxHeartbeats 2000000 in
theorem each_any (f : FuncId) (cap : Array Value) (hf : Fv Tryz.prog f) (g : Int → Int) (xs : List Int) (v : Value) (w : World) (h64 : All64 xs) (hr : RI w v xs)
    (hcl : mayB xs = true → ∀ x ∈ xs, ∀ w', Ext w w' → Calls Tryz.prog f (#[.int .i64 x] ++ cap) w' fun e w'' => e = .returned (.int .i64 (g x)) ∧ Ext w' w'') :
    Calls Tryz.prog 62 #[v, .func (.func f) #[] cap] w (PostOwn w (EachV g xs)) := by
  have HM := Lib.hid (may_any v xs w hr h64)
  have HR := Lib.hid hr
  obtain ⟨A, c, rfl, h1, h2, h3⟩ := hr
  clear h3
  unfold EachV
  cases hm : mayB xs
  · rw [hm] at HM
    rw [if_neg (by decide)]
    clear hcl hm
    go_enter Tryz.func62, Tryz.ntmps62
    go_wp2_with (go_at_call 35; refine HM.out.mono ?_; rintro e w' ⟨rfl, rfl⟩)
    go_ret
    exact ⟨_, rfl, OwnI.nil _ _, Ext.refl _⟩
  · rw [hm] at HM
    rw [if_pos rfl]
    have HCL := Lib.hid (hcl hm)
    have hlen := may_len hm
    clear hcl hm
    go_enter Tryz.func62, Tryz.ntmps62
    go_wp2_with (go_at_call 35; refine HM.out.mono ?_; rintro e w' ⟨rfl, rfl⟩)
    go_loopg [5, 14] xs.length (fun gn o i wr => ∃ k : Nat, k ≤ xs.length ∧ gn + k = xs.length ∧ i = .int .i64 k ∧ Hid (OwnI wr w.heap.size o (eachL g (xs.take k)) ∧ Ext w wr))
    case atStart => exact ⟨0, Nat.zero_le _, by omega, rfl, OwnI.nil _ _, Ext.refl _⟩
    case round =>
      obtain ⟨k, hk, hgk, rfl, HI⟩ := hrel
      obtain ⟨wk, rfl⟩ : ∃ wk : World, wk = wr := ⟨_, rfl⟩
      by_cases hlt : k < xs.length
      · obtain ⟨ad, rfl, hx0⟩ := (HR.out.ext HI.out.2).row.2.2.2.int k hlt
        have hsn := eachL_snoc g xs k hlt
        have hel := eachL_len g (xs.take k)
        rw [List.length_take] at hel
        have hol : (eachL g (xs.take k)).length ≤ 10000000 := by omega
        have HCX := Lib.hid (HCL.out xs[k] (List.getElem_mem hlt) wk HI.out.2)
        obtain ⟨x, hx⟩ : ∃ x, x = xs[k] := ⟨_, rfl⟩
        rw [← hx] at hx0 hsn HCX
        clear hx hel
        by_cases hg : g x = 0
        · rw [if_pos hg, List.append_nil] at hsn
          have HSN := Lib.hid hsn
          have HCG : Hid (Calls Tryz.prog f (#[.int .i64 x] ++ cap) wk fun e w'' => e = .returned (.int .i64 0) ∧ Ext wk w'') := Lib.hid (hg ▸ HCX.out)
          clear hsn hg
          go_wp2_with (refine wpList_callv (.tmp 18) #[.tmp 19] _ rfl rfl cap rfl hf (#[.int .i64 x] ++ cap) (by simp only [List.map_toArray, List.map_cons, List.map_nil]; rfl) ?_; refine HCG.out.mono ?_; rintro e w1 ⟨rfl, hE⟩; refine ⟨_, rfl, ?_⟩; have HE1 := Lib.hid hE; clear hE)
          go_roundg (xs.length - (k + 1))
          case measure => omega
          case rel => exact ⟨k + 1, by omega, by omega, by go_num, by rw [HSN.out]; exact own_ext HI.out.1 HE1.out, HI.out.2.trans HE1.out⟩
        · rw [if_neg hg] at hsn
          have HSN := Lib.hid hsn
          have hgb : (g x != 0) = true := by simpa using hg
          obtain ⟨y, hy⟩ : ∃ y, y = g x := ⟨_, rfl⟩
          rw [← hy] at HCX hgb HSN
          clear hsn hg hy
          go_wp2_with (first
            | (refine wpList_callv (.tmp 18) #[.tmp 19] _ rfl rfl cap rfl hf (#[.int .i64 x] ++ cap) (by simp only [List.map_toArray, List.map_cons, List.map_nil]; rfl) ?_
               refine HCX.out.mono ?_
               rintro e w1 ⟨rfl, hE⟩
               refine ⟨_, rfl, ?_⟩
               have HE1 := Lib.hid (HI.out.2.trans hE)
               have HO1 := Lib.hid (own_ext HI.out.1 hE)
               clear hE)
            | (at_builtin
               refine app_1 rfl (.tmp 23) (.tmp 25) rfl (base := w.heap.size) (xs := eachL g (xs.take k)) (y := y) rfl rfl HO1.out hol HE1.out.size ?_
               intro v' w3 hown hg
               have HOW := Lib.hid hown
               have HE4 := Lib.hid (hg.toExt HE1.out (fun i hi => (own_typed HO1.out hi.symm).1))
               clear hown hg))
          go_roundg (xs.length - (k + 1))
          case measure => omega
          case rel => exact ⟨k + 1, by omega, by omega, by go_num, by rw [HSN.out]; exact HOW.out, HE4.out⟩
      · obtain rfl : k = xs.length := by omega
        go_wp2
        go_ret
        refine ⟨_, rfl, ?_, HI.out.2⟩
        have := HI.out.1
        rw [List.take_length] at this
        exact this

set_option maxHeartbeats 400000 in
theorem neg1_fn (x : Int) (hx : I64 x) (hn : x ≠ -9223372036854775808) (w : World) : Calls Tryz.prog 78 #[.int .i64 x] w fun e w' => e = .returned (.int .i64 (-x)) ∧ Ext w w' := by
  unfold I64 at hx
  have h1 : -9223372036854775807 ≤ x := by omega
  clear hn
  go_enter Tryz.func78, Tryz.ntmps78
  go_wp2
  go_ret
  exact ⟨rfl, Ext.refl _⟩
theorem fv_neg1 : Fv Tryz.prog 78 := ⟨_, Tryz.func78, by kernel_rfl, by kernel_rfl⟩

set_option maxHeartbeats 400000 in
theorem only_any (x : Int) (b : Bool) (w : World) : Calls Tryz.prog 64 #[.int .i64 x, .bool b] w fun e w' => e = .returned (.int .i64 (if b = true then x else 0)) ∧ w' = w := by
  cases b
  · go_enter Tryz.func64, Tryz.ntmps64
    go_wp2
    go_ret
    exact ⟨rfl, rfl⟩
  · go_enter Tryz.func64, Tryz.ntmps64
    go_wp2
    go_ret
    exact ⟨rfl, rfl⟩

theorem contains_st (xs : List Int) (y : Int) (v : Value) (w : World) (hr : RI w v xs) : Calls Tryz.prog 20 #[v, .int .i64 y] w fun e w' => e = .returned (.bool (decide (y ∈ xs))) ∧ w' = w := (contains_any xs y v w hr).mono fun _ _ ⟨h1, h2⟩ => ⟨h1, h2.symm⟩

theorem only_y (x : Int) (w : World) : Calls Tryz.prog 64 #[.int .i64 x, .bool true] w fun e w' => e = .returned (.int .i64 x) ∧ w' = w := only_any x true w
theorem only_n (x : Int) (w : World) : Calls Tryz.prog 64 #[.int .i64 x, .bool false] w fun e w' => e = .returned (.int .i64 0) ∧ w' = w := only_any x false w

set_option maxHeartbeats 400000 in
theorem without1_fn (x n : Int) (hx : I64 x) (g : Nat) (w : World) (hc : w.cell? ⟨g, 0, none⟩ = some (.int .i64 n)) :
    Calls Tryz.prog 63 #[.int .i64 x, .pointer (some ⟨g, 0, none⟩)] w fun e w' => e = .returned (.int .i64 (if decide (varOf x ≠ n) = true then x else 0)) ∧ Ext w w' := by
  by_cases h : varOf x = n
  · have hb : (varOf x != n) = false := by simpa using h
    rw [if_neg (by simpa using h)]
    clear h
    go_enter Tryz.func63, Tryz.ntmps63
    go_wp2
    go_quiet ((first | (go_at_call 33; exact quiet_same (var_any x hx _)) | (go_at_call 64; exact Calls.quiet_of_same (only_n _ _))))
    go_wp2
    go_ret
    exact ⟨rfl, Ext.drewN _ _⟩
  · have hb : (varOf x != n) = true := by simpa using h
    rw [if_pos (by simpa using h)]
    clear h
    go_enter Tryz.func63, Tryz.ntmps63
    go_wp2
    go_quiet ((first | (go_at_call 33; exact quiet_same (var_any x hx _)) | (go_at_call 64; exact Calls.quiet_of_same (only_y _ _))))
    go_wp2
    go_ret
    exact ⟨rfl, Ext.drewN _ _⟩
theorem fv_without1 : Fv Tryz.prog 63 := ⟨_, Tryz.func63, by kernel_rfl, by kernel_rfl⟩

set_option maxHeartbeats 400000 in
theorem within1_fn (x : Int) (hx : I64 x) (vs : List Int) (u : Value) (g : Nat) (w : World) (hc : w.cell? ⟨g, 0, none⟩ = some u) (hu : RI w u vs) :
    Calls Tryz.prog 79 #[.int .i64 x, .pointer (some ⟨g, 0, none⟩)] w fun e w' => e = .returned (.int .i64 (if decide (varOf x ∈ vs) = true then x else 0)) ∧ Ext w w' := by
  have HU := fun n => Lib.hid (contains_st vs (varOf x) u (w.drewN n) (hu.ext (Ext.drewN w n)))
  obtain ⟨A, c, rfl, h1, h2, h3⟩ := hu
  clear h3
  obtain ⟨b, hb⟩ : ∃ b, b = decide (varOf x ∈ vs) := ⟨_, rfl⟩
  rw [← hb] at HU ⊢
  clear hb
  cases b
  · rw [if_neg (by decide)]
    go_enter Tryz.func79, Tryz.ntmps79
    go_wp2
    go_quiet ((first | (go_at_call 33; exact quiet_same (var_any x hx _)) | (go_at_call 20; exact Calls.quiet_of_same (HU _).out) | (go_at_call 64; exact Calls.quiet_of_same (only_n _ _))))
    go_wp2
    go_ret
    exact ⟨rfl, Ext.drewN _ _⟩
  · rw [if_pos rfl]
    go_enter Tryz.func79, Tryz.ntmps79
    go_wp2
    go_quiet ((first | (go_at_call 33; exact quiet_same (var_any x hx _)) | (go_at_call 20; exact Calls.quiet_of_same (HU _).out) | (go_at_call 64; exact Calls.quiet_of_same (only_y _ _))))
    go_wp2
    go_ret
    exact ⟨rfl, Ext.drewN _ _⟩
theorem fv_within1 : Fv Tryz.prog 79 := ⟨_, Tryz.func79, by kernel_rfl, by kernel_rfl⟩

theorem PostOwn.of {w w0 : World} {r : List Int} {e : Ending} {w' : World} (he : Ext w w0) (h : PostOwn w0 r e w') : PostOwn w r e w' := by
  obtain ⟨v', h1, h2, h3⟩ := h
  exact ⟨v', h1, own_lower h2 he.size, he.trans h3⟩

set_option maxHeartbeats 400000 in
theorem Neg_any (xs : List Int) (v : Value) (w : World) (h64 : All64 xs) (hr : RI w v xs) : Calls Tryz.prog 38 #[v] w (PostOwn w (NegV xs)) := by
  have H := Lib.hid (each_any 78 #[] fv_neg1 (fun x => -x) xs v w h64 hr (fun hm x hx w' _ => by
    have := lit_small (((mayB_iff xs).1 hm).2 x hx)
    exact neg1_fn x (h64 x hx) (by omega) w'))
  rw [each_neg] at H
  clear hr
  go_enter Tryz.func38, Tryz.ntmps38
  go_wp2_with (go_at_call 62; refine H.out.mono ?_; rintro e w' ⟨v', rfl, ho, hE⟩; have HO := Lib.hid ho; have HE := Lib.hid hE; clear ho hE)
  go_ret
  exact ⟨_, rfl, HO.out, HE.out⟩

set_option maxHeartbeats 400000 in
theorem Without_any (xs : List Int) (n : Int) (v : Value) (w : World) (h64 : All64 xs) (hr : RI w v xs) : Calls Tryz.prog 22 #[v, .int .i64 n] w (PostOwn w (WithoutV xs n)) := by
  have H := Lib.hid (each_any 63 #[.pointer (some ⟨w.heap.size, 0, none⟩)] fv_without1 (fun x => if decide (varOf x ≠ n) = true then x else 0) xs v (w.alloc (.cells #[.int .i64 n] 3)) h64 (hr.ext (Ext.alloc w _)) (fun _ x hx w' he => by
    exact without1_fn x n (h64 x hx) _ w' (he.cell (Var1.new w 3 (.int .i64 n)).cell)))
  rw [each_without] at H
  have HE0 : Hid (Ext w (w.alloc (.cells #[.int .i64 n] 3))) := Lib.hid (Ext.alloc w _)
  clear hr
  go_enter Tryz.func22, Tryz.ntmps22
  go_wp2_with (go_at_call 62; refine H.out.mono ?_; intro e w' hq; obtain ⟨v', rfl, ho, hE⟩ := hq.of HE0.out; have HO := Lib.hid ho; have HE := Lib.hid hE; clear ho hE hq)
  go_ret
  exact ⟨_, rfl, HO.out, HE.out⟩

set_option maxHeartbeats 400000 in
theorem Within_any (xs vs : List Int) (v u : Value) (w : World) (h64 : All64 xs) (hr : RI w v xs) (kr : RI w u vs) : Calls Tryz.prog 41 #[v, u] w (PostOwn w (WithinV xs vs)) := by
  obtain ⟨A, c, rfl, -⟩ := id hr
  obtain ⟨B, d, rfl, -⟩ := id kr
  have H := Lib.hid (each_any 79 #[.pointer (some ⟨w.heap.size, 0, none⟩)] fv_within1 (fun x => if decide (varOf x ∈ vs) = true then x else 0) xs (.slice A xs.length c) (w.alloc (.cells #[.slice B vs.length d] 22)) h64 (hr.ext (Ext.alloc w _)) (fun _ x hx w' he => by
    exact within1_fn x (h64 x hx) vs (.slice B vs.length d) _ w' (he.cell (Var1.new w 22 (.slice B vs.length d)).cell) ((kr.ext (Ext.alloc w _)).ext he)))
  rw [each_within] at H
  have HE0 : Hid (Ext w (w.alloc (.cells #[.slice B vs.length d] 22))) := Lib.hid (Ext.alloc w _)
  clear hr kr
  go_enter Tryz.func41, Tryz.ntmps41
  go_wp2_with (go_at_call 62; refine H.out.mono ?_; intro e w' hq; obtain ⟨v', rfl, ho, hE⟩ := hq.of HE0.out; have HO := Lib.hid ho; have HE := Lib.hid hE; clear ho hE hq)
  go_ret
  exact ⟨_, rfl, HO.out, HE.out⟩
end Go.Proofs.YtlompphnngnaiaaGreatDoor
