/- Walks and plain laws that this claim uses. -/
import Derived.Test.YtjecjaihficcdaaGreatRxI
import Derived.Test.YtjecjaihficcdaaGreatRxG
import Derived.Test.YtjecjaihficcdaaGreatRxA
import Derived.Deep.Cut
import Derived.Test.YtjecjaihficcdaaGreatRxB
import Derived.Test.YtjecjaihficcdaaGreatRxC
import Derived.Test.YtjecjaihficcdaaGreatRxPEquivNextx1
import Derived.Test.YtjecjaihficcdaaGreatRxPEquivNextx2
import Derived.Test.YtjecjaihficcdaaGreatRxPEquivNextx3
import Derived.Test.YtjecjaihficcdaaGreatRxPEquivNextx4
import Derived.Test.YtjecjaihficcdaaGreatRxPEquivNextx0
import Derived.Deep.QuietTactic
import Derived.BigQuiet
import Derived.BigRegion
import Derived.Test.YtjecjaihficcdaaGreatRxPEquivNextx6
import Derived.Test.YtjecjaihficcdaaGreatRxPEquivNextx7
import Derived.Test.YtjecjaihficcdaaGreatRxPEquivNextx8
import Derived.Test.YtjecjaihficcdaaGreatRxPEquivNextx9
import Derived.Test.YtjecjaihficcdaaGreatRxPEquivNextx30
namespace Go.Proofs.YtjecjaihficcdaaGreat
set_option maxRecDepth 100000 in
theorem aw_cl1 : RefClasses [[1, 2], [1, -2], [-1, 2], [-1, -2]] = [[-1, 1, -2, 2]] := by decide +kernel
set_option maxRecDepth 100000 in
theorem aw_cl2 : RefClasses [[1, 2], [1, -2]] = [] := by decide +kernel
set_option maxRecDepth 100000 in
theorem aw_cl3 : RefClasses [[1, 2], [-1, -2]] = [[1, -2]] := by decide +kernel
set_option maxRecDepth 100000 in
theorem aw_f1 : FailV [[1, 2], [1, -2], [-1, 2], [-1, -2]] = [-1, 1, -2, 2] := by decide +kernel
set_option maxRecDepth 100000 in
theorem aw_f2 : FailV [[1, 2], [1, -2]] = [-1] := by decide +kernel
set_option maxRecDepth 100000 in
theorem aw_r1 : ReachV [[1, 2], [-2, 3]] (-1) = [-1, 2, 3] := by decide +kernel
set_option maxRecDepth 100000 in
theorem aw_m1 : (MakeV ⟨[1], [(2, [1]), (3, [1])], [[-2, 3], [2, -3], [2, 3]]⟩ ⟨6, 2, 3, 0, 1⟩).2 = 0 ∧ (MakeV ⟨[1], [(2, [1]), (3, [1])], [[-2, 3], [2, -3], [2, 3]]⟩ ⟨6, 2, 3, 0, 1⟩).1.clauses = [[3]] ∧ (MakeV ⟨[1], [(2, [1]), (3, [1])], [[-2, 3], [2, -3], [2, 3]]⟩ ⟨6, 2, 3, 0, 1⟩).1.exist.length = 1 := by decide +kernel
set_option maxRecDepth 100000 in
theorem aw_n1 : (nextP ⟨[1], [(2, [1]), (3, [1])], [[-2, 3], [2, -3], [2, 3]]⟩).map (fun c => (c.kind, c.lit, c.tz, c.pos, c.other)) = some (6, 2, 3, 0, 1) := by decide +kernel
set_option maxRecDepth 100000 in
theorem aw_n2 : (nextP ⟨[1], [(2, [])], [[-1, 2], [1, -2]]⟩).isSome = false := by decide +kernel
end Go.Proofs.YtjecjaihficcdaaGreat
namespace Go.Proofs.YtjecjaihficcdaaGreat
open Go.RowKit
theorem Ext.step {a b : World} (o : Obj) (h : Ext a b) : Ext a (b.alloc o) := h.trans (Ext.alloc b o)
theorem st1 (w : World) (n : Nat) (hn : w.heap.size = n) (x : Int) : ∃ W : World, W = w.alloc (.cells #[.int .i64 x] 3) ∧ RI W (.slice (some ⟨n, 0, none⟩) 1 1) [x] ∧ Ext w W ∧ W.heap.size = n + 1 :=
 ⟨_, rfl, hn ▸ lit0 w [x] (by simp), Ext.alloc w _, by simp [hn]⟩
theorem st2 (w : World) (n : Nat) (hn : w.heap.size = n) (x y : Int) : ∃ W : World, W = w.alloc (.cells #[.int .i64 x, .int .i64 y] 3) ∧ RI W (.slice (some ⟨n, 0, none⟩) 2 2) [x, y] ∧ Ext w W ∧ W.heap.size = n + 1 :=
 ⟨_, rfl, hn ▸ lit0 w [x, y] (by simp), Ext.alloc w _, by simp [hn]⟩
theorem stL (w : World) (n : Nat) (hn : w.heap.size = n) (vs : List Value) (k : Nat) (f : List (List Int)) (hk : vs.length = k) (hl : vs.length = f.length) (hm : k ≤ 1000000) (h : ∀ j (h : j < vs.length) (h' : j < f.length), RI w vs[j] f[j]) :
 ∃ W : World, W = w.alloc (.cells vs.toArray 24) ∧ RLL W (.slice (some ⟨n, 0, none⟩) k k) f ∧ Ext w W ∧ W.heap.size = n + 1 :=
 ⟨_, rfl, hk ▸ hn ▸ rll_lit w vs f hl (hk ▸ hm) h, Ext.alloc w _, by simp [hn]⟩
theorem encX_at : ∀ (ps : List (Int × Value)) (j : Nat) (h : j < ps.length), (encX ps)[j * 2]? = some (.int .i64 ps[j].1) ∧ (encX ps)[j * 2 + 1]? = some ps[j].2 := by
 intro ps
 induction ps with
 | nil => intro j h; exact absurd h (Nat.not_lt_zero j)
 | cons p ps ih =>
   intro j h
   have e : encX (p :: ps) = .int .i64 p.1 :: p.2 :: encX ps := rfl
   cases j with
   | zero => rw [e]; exact ⟨rfl, rfl⟩
   | succ j =>
     have := ih j (by simpa using h)
     rw [e, show (j + 1) * 2 = j * 2 + 1 + 1 by omega]
     simp only [List.getElem?_cons_succ, List.getElem_cons_succ]
     exact this
theorem stX (w : World) (n : Nat) (hn : w.heap.size = n) (ps : List (Int × Value)) (k : Nat) (X : List (Int × List Int)) (hk : ps.length = k) (hl : ps.length = X.length) (hm : k ≤ 1000000) (h : ∀ j (h : j < ps.length) (h' : j < X.length), ps[j].1 = X[j].1 ∧ RI w ps[j].2 X[j].2) :
 ∃ W : World, W = w.alloc (.cells (encX ps).toArray 61) ∧ RX W (.slice (some ⟨n, 0, none⟩) k k) X ∧ Ext w W ∧ W.heap.size = n + 1 := by
 subst hn hk
 refine ⟨_, rfl, ⟨_, ps.length, ps.map Prod.snd, by rw [hl], by omega, by omega, by rw [List.length_map, hl], fun j hj hj' => ⟨_, rfl, ?_, ?_, ?_⟩⟩, Ext.alloc w _, by simp⟩
 · obtain ⟨q1, q2⟩ := encX_at ps j (by omega)
   rw [addr0, (Blk.new w 61 (encX ps)).cell, q1, (h j (by omega) hj).1]
 · obtain ⟨q1, q2⟩ := encX_at ps j (by omega)
   rw [addr0]
   show World.cell? _ ⟨w.heap.size, j * 2 + 1, none⟩ = _
   rw [(Blk.new w 61 (encX ps)).cell, q2, List.getElem_map]
 · rw [List.getElem_map]
   exact (h j (by omega) hj).2.ext (Ext.alloc w _)
def awD1 : DqV := ⟨[1], [(2, [1]), (3, [1])], [[-2, 3], [2, -3], [2, 3]]⟩
def awD2 : DqV := ⟨[1], [(2, [])], [[-1, 2], [1, -2]]⟩
def awF : List (List Int) := [[1, 2], [1, -2], [-1, 2], [-1, -2]]
theorem dok_of (d : DqV) (h1 : (d.univ.all fun x => decide (-9223372036854775808 ≤ x ∧ x ≤ 9223372036854775807)) = true) (h2 : (d.exist.all fun p => decide (-9223372036854775808 ≤ p.1 ∧ p.1 ≤ 9223372036854775807) && p.2.all fun x => decide (-9223372036854775808 ≤ x ∧ x ≤ 9223372036854775807)) = true)
 (h3 : (d.clauses.all fun xs => xs.all fun x => decide (-9223372036854775808 ≤ x ∧ x ≤ 9223372036854775807)) = true) (h4 : d.univ.length ≤ 1000000) (h5 : d.exist.length ≤ 1000000) (h6 : (d.exist.all fun p => decide (p.2.length ≤ 1000000)) = true) (h7 : d.clauses.length ≤ 1000000) (h8 : total d.clauses ≤ 1000000) : DOk d :=
 ⟨all64_of _ h1, fun x hx => by
  have := List.all_eq_true.1 h2 x hx
  rw [Bool.and_eq_true] at this
  have h9 := of_decide_eq_true this.1
  exact ⟨h9, all64_of _ this.2⟩, all64L_of _ h3, h4, h5, fun x hx => of_decide_eq_true (List.all_eq_true.1 h6 x hx), h7, h8⟩
theorem awD1_ok : DOk awD1 := dok_of _ (by decide) (by decide) (by decide) (by decide) (by decide) (by decide) (by decide) (by decide)
theorem awD2_ok : DOk awD2 := dok_of _ (by decide) (by decide) (by decide) (by decide) (by decide) (by decide) (by decide) (by decide)
theorem aw_next1 : nextP awD1 = some ⟨6, 2, 3, 0, 1⟩ := by
 have h := aw_n1
 change (nextP awD1).map _ = _ at h
 cases hn : nextP awD1 with
 | none => rw [hn] at h; cases h
 | some c =>
   rw [hn] at h
   simp only [Option.map_some, Option.some.injEq, Prod.mk.injEq] at h
   obtain ⟨h1, h2, h3, h4, h5⟩ := h
   obtain ⟨k, l, t, p, o⟩ := c
   simp only at h1 h2 h3 h4 h5
   rw [h1, h2, h3, h4, h5]
theorem aw_next2 : nextP awD2 = none := by
 have h := aw_n2
 change (nextP awD2).isSome = false at h
 cases hn : nextP awD2 with
 | none => rfl
 | some c => rw [hn] at h; cases h
theorem aw_new1 (w : World) : ∃ W : World, W = ((((((((w.alloc (.cells #[.int .i64 1] 3)).alloc (.cells #[.int .i64 1] 3)).alloc (.cells #[.int .i64 1] 3)).alloc
 (.cells #[.int .i64 2, .slice (some ⟨w.heap.size + 1, 0, none⟩) 1 1, .int .i64 3, .slice (some ⟨w.heap.size + 1 + 1, 0, none⟩) 1 1] 61)).alloc
 (.cells #[.int .i64 (-2), .int .i64 3] 3)).alloc (.cells #[.int .i64 2, .int .i64 (-3)] 3)).alloc (.cells #[.int .i64 2, .int .i64 3] 3)).alloc
 (.cells #[.slice (some ⟨w.heap.size + 1 + 1 + 1 + 1, 0, none⟩) 2 2, .slice (some ⟨w.heap.size + 1 + 1 + 1 + 1 + 1, 0, none⟩) 2 2, .slice (some ⟨w.heap.size + 1 + 1 + 1 + 1 + 1 + 1, 0, none⟩) 2 2] 24)).alloc
 (.cells #[.slice (some ⟨w.heap.size, 0, none⟩) 1 1, .slice (some ⟨w.heap.size + 1 + 1 + 1, 0, none⟩) 2 2, .slice (some ⟨w.heap.size + 1 + 1 + 1 + 1 + 1 + 1 + 1, 0, none⟩) 3 3] 27) ∧
 RD W (.slice (some ⟨w.heap.size, 0, none⟩) 1 1) (.slice (some ⟨w.heap.size + 1 + 1 + 1, 0, none⟩) 2 2) (.slice (some ⟨w.heap.size + 1 + 1 + 1 + 1 + 1 + 1 + 1, 0, none⟩) 3 3) awD1 ∧
 Blk W (w.heap.size + 1 + 1 + 1 + 1 + 1 + 1 + 1 + 1) 27 [.slice (some ⟨w.heap.size, 0, none⟩) 1 1, .slice (some ⟨w.heap.size + 1 + 1 + 1, 0, none⟩) 2 2, .slice (some ⟨w.heap.size + 1 + 1 + 1 + 1 + 1 + 1 + 1, 0, none⟩) 3 3] ∧ Ext w W := by
 obtain ⟨w1, h1, r1, e1, s1⟩ := st1 w _ rfl 1
 obtain ⟨w2, h2, r2, e2, s2⟩ := st1 w1 _ s1 1
 obtain ⟨w3, h3, r3, e3, s3⟩ := st1 w2 _ s2 1
 obtain ⟨w4, h4, r4, e4, s4⟩ := stX w3 _ s3 [(2, .slice (some ⟨w.heap.size + 1, 0, none⟩) 1 1), (3, .slice (some ⟨w.heap.size + 1 + 1, 0, none⟩) 1 1)] 2 [(2, [1]), (3, [1])] rfl rfl (by decide) fun j hj hj' => by
  match j, hj with
  | 0, _ => exact ⟨rfl, r2.ext e3⟩
  | 1, _ => exact ⟨rfl, r3⟩
 obtain ⟨w5, h5, r5, e5, s5⟩ := st2 w4 _ s4 (-2) 3
 obtain ⟨w6, h6, r6, e6, s6⟩ := st2 w5 _ s5 2 (-3)
 obtain ⟨w7, h7, r7, e7, s7⟩ := st2 w6 _ s6 2 3
 obtain ⟨w8, h8, r8, e8, s8⟩ := stL w7 _ s7 [.slice (some ⟨w.heap.size + 1 + 1 + 1 + 1, 0, none⟩) 2 2, .slice (some ⟨w.heap.size + 1 + 1 + 1 + 1 + 1, 0, none⟩) 2 2, .slice (some ⟨w.heap.size + 1 + 1 + 1 + 1 + 1 + 1, 0, none⟩) 2 2] 3 [[-2, 3], [2, -3], [2, 3]] rfl rfl (by decide) fun j hj hj' => by
  match j, hj with
  | 0, _ => exact r5.ext (e6.trans e7)
  | 1, _ => exact r6.ext e7
  | 2, _ => exact r7
 have e9 := Ext.alloc w8 (.cells #[.slice (some ⟨w.heap.size, 0, none⟩) 1 1, .slice (some ⟨w.heap.size + 1 + 1 + 1, 0, none⟩) 2 2, .slice (some ⟨w.heap.size + 1 + 1 + 1 + 1 + 1 + 1 + 1, 0, none⟩) 3 3] 27)
 have e59 := ((((e5.trans e6).trans e7).trans e8).trans e9)
 have e29 := ((e2.trans e3).trans e4).trans e59
 refine ⟨_, ?_, ⟨r1.ext e29, r4.ext e59, RLL.ext' r8 e9⟩, ?_, e1.trans e29⟩
 · rw [h8, h7, h6, h5, h4, h3, h2, h1]; rfl
 · exact Blk.new' (by rw [s8])
theorem aw_new2 (w : World) : ∃ W : World, W = ((((w.alloc (.cells #[.int .i64 1] 3)).alloc (.cells #[.int .i64 2, .slice none 0 0] 61)).alloc
 (.cells #[.int .i64 (-1), .int .i64 2] 3)).alloc (.cells #[.int .i64 1, .int .i64 (-2)] 3)).alloc
 (.cells #[.slice (some ⟨w.heap.size + 1 + 1, 0, none⟩) 2 2, .slice (some ⟨w.heap.size + 1 + 1 + 1, 0, none⟩) 2 2] 24) ∧
 RD W (.slice (some ⟨w.heap.size, 0, none⟩) 1 1) (.slice (some ⟨w.heap.size + 1, 0, none⟩) 1 1) (.slice (some ⟨w.heap.size + 1 + 1 + 1 + 1, 0, none⟩) 2 2) awD2 ∧ Ext w W := by
 obtain ⟨w1, h1, r1, e1, s1⟩ := st1 w _ rfl 1
 obtain ⟨w2, h2, r2, e2, s2⟩ := stX w1 _ s1 [(2, .slice none 0 0)] 1 [(2, [])] rfl rfl (by decide) fun j hj hj' => by
  match j, hj with
  | 0, _ => exact ⟨rfl, RI.none _⟩
 obtain ⟨w3, h3, r3, e3, s3⟩ := st2 w2 _ s2 (-1) 2
 obtain ⟨w4, h4, r4, e4, s4⟩ := st2 w3 _ s3 1 (-2)
 obtain ⟨w5, h5, r5, e5, s5⟩ := stL w4 _ s4 [.slice (some ⟨w.heap.size + 1 + 1, 0, none⟩) 2 2, .slice (some ⟨w.heap.size + 1 + 1 + 1, 0, none⟩) 2 2] 2 [[-1, 2], [1, -2]] rfl rfl (by decide) fun j hj hj' => by
  match j, hj with
  | 0, _ => exact r3.ext e4
  | 1, _ => exact r4
 refine ⟨_, ?_, ⟨r1.ext (e2.trans (e3.trans (e4.trans e5))), r2.ext (e3.trans (e4.trans e5)), r5⟩, e1.trans (e2.trans (e3.trans (e4.trans e5)))⟩
 rw [h5, h4, h3, h2, h1]; rfl
theorem aw_new3 (w : World) : ∃ W : World, W = ((((w.alloc (.cells #[.int .i64 1, .int .i64 2] 3)).alloc (.cells #[.int .i64 1, .int .i64 (-2)] 3)).alloc
 (.cells #[.int .i64 (-1), .int .i64 2] 3)).alloc (.cells #[.int .i64 (-1), .int .i64 (-2)] 3)).alloc
 (.cells #[.slice (some ⟨w.heap.size, 0, none⟩) 2 2, .slice (some ⟨w.heap.size + 1, 0, none⟩) 2 2, .slice (some ⟨w.heap.size + 1 + 1, 0, none⟩) 2 2, .slice (some ⟨w.heap.size + 1 + 1 + 1, 0, none⟩) 2 2] 24) ∧
 RLL W (.slice (some ⟨w.heap.size + 1 + 1 + 1 + 1, 0, none⟩) 4 4) awF ∧ Ext w W := by
 obtain ⟨w1, h1, r1, e1, s1⟩ := st2 w _ rfl 1 2
 obtain ⟨w2, h2, r2, e2, s2⟩ := st2 w1 _ s1 1 (-2)
 obtain ⟨w3, h3, r3, e3, s3⟩ := st2 w2 _ s2 (-1) 2
 obtain ⟨w4, h4, r4, e4, s4⟩ := st2 w3 _ s3 (-1) (-2)
 obtain ⟨w5, h5, r5, e5, s5⟩ := stL w4 _ s4 [.slice (some ⟨w.heap.size, 0, none⟩) 2 2, .slice (some ⟨w.heap.size + 1, 0, none⟩) 2 2, .slice (some ⟨w.heap.size + 1 + 1, 0, none⟩) 2 2, .slice (some ⟨w.heap.size + 1 + 1 + 1, 0, none⟩) 2 2] 4 awF rfl rfl (by decide) fun j hj hj' => by
  match j, hj with
  | 0, _ => exact r1.ext (e2.trans (e3.trans e4))
  | 1, _ => exact r2.ext (e3.trans e4)
  | 2, _ => exact r3.ext e4
  | 3, _ => exact r4
 refine ⟨_, ?_, r5, e1.trans (e2.trans (e3.trans (e4.trans e5)))⟩
 rw [h5, h4, h3, h2, h1]
theorem RLL.take {w : World} {A : Option Addr} {n c : Nat} {f : List (List Int)} (h : RLL w (.slice A n c) f) (k : Nat) (hk : k ≤ f.length) : RLL w (.slice A k c) (f.take k) := by
 obtain ⟨A', c', vs, e, h1, h2, h3, h4, h5⟩ := h
 injection e with e1 e2 e3
 subst e1 e3
 refine ⟨A, c, vs.take k, by rw [List.length_take]; congr 1; omega, by rw [List.length_take]; omega, by rw [List.length_take]; omega, fun j hj => ?_, by rw [List.length_take, List.length_take]; omega, fun j hj hj' => ?_⟩
 · rw [List.length_take] at hj
   obtain ⟨ad, h6, h7⟩ := h3 j (by omega)
   exact ⟨ad, h6, by rw [h7, List.getElem_take]⟩
 · simp only [List.getElem_take]
   rw [List.length_take] at hj hj'
   exact h5 j (by omega) (by omega)
end Go.Proofs.YtjecjaihficcdaaGreat
namespace Go.Proofs.YtjecjaihficcdaaGreat
open Go.RowKit
set_option maxHeartbeats 2000000 in
theorem Same_q (xs ys : List Int) (v u : Value) (w : World) (hr : RI w v xs) (kr : RI w u ys) :
 Calls Tryz.prog 11 #[v, u] w fun e w' => e = .returned (.bool (decide (xs = ys))) ∧ ∃ n, w' = w.drewN n := by
 have HR := Lib.hid hr
 have KR := Lib.hid kr
 obtain ⟨A, c, rfl, h1, h2, h3⟩ := hr
 obtain ⟨B, d, rfl, k1, k2, k3⟩ := kr
 clear h3 k3
 by_cases hl : xs.length = ys.length
 · obtain ⟨m, hm⟩ : ∃ m, m = ys.length := ⟨_, rfl⟩
   have HM := Lib.hid hm
   rw [← hm] at hl k1 k2 KR ⊢
   rw [hl] at HR h1 h2 ⊢
   have HL := Lib.hid hl
   clear hl hm
   have hnm : ((m : Int) != (m : Int)) = false := by simp
   go_enter Tryz.func11, Tryz.ntmps11
   go_wp2
   go_loopg [5] m (fun gn i wr => ∃ k : Nat, k ≤ m ∧ gn + k = m ∧ i = .int .i64 k ∧ Hid ((∃ n, wr = w.drewN n) ∧ xs.take k = ys.take k))
   case atStart => exact ⟨0, Nat.zero_le _, by omega, rfl, ⟨0, rfl⟩, by simp⟩
   case round =>
    obtain ⟨k, hk, hgk, rfl, HI⟩ := hrel
    obtain ⟨wk, rfl⟩ : ∃ wk : World, wk = wr := ⟨_, rfl⟩
    have HE : Hid (Ext w wk) := Lib.hid (by obtain ⟨n, e⟩ := HI.out.1; rw [e]; exact Ext.drewN _ _)
    by_cases hlt : k < m
    · have hlx : k < xs.length := by have := HL.out; omega
      have hly : k < ys.length := by have := HM.out; omega
      obtain ⟨ad, rfl, hx0⟩ := (HR.out.ext HE.out).row.2.2.2.int k hlx
      obtain ⟨bd, rfl, hy0⟩ := (KR.out.ext HE.out).row.2.2.2.int k hly
      have hsx := List.take_succ_eq_append_getElem hlx
      have hsy := List.take_succ_eq_append_getElem hly
      obtain ⟨x, hx⟩ : ∃ x, x = xs[k] := ⟨_, rfl⟩
      obtain ⟨y, hy⟩ : ∃ y, y = ys[k] := ⟨_, rfl⟩
      rw [← hx] at hx0 hsx
      rw [← hy] at hy0 hsy
      have HSX := Lib.hid hsx
      have HSY := Lib.hid hsy
      clear hx hy hsx hsy hlx hly
      by_cases hxy : x = y
      · subst hxy
        have hxx : (x != x) = false := by simp
        go_wp2
        go_quiet (fail)
        go_wp2
        go_roundg (m - (k + 1))
        case measure => omega
        case rel =>
         refine ⟨k + 1, by omega, by omega, by go_num, ?_, by rw [HSX.out, HSY.out, HI.out.2]⟩
         obtain ⟨n, e⟩ := HI.out.1
         exact ⟨_, by rw [e, drewN_two]⟩
      · have hxx : (x != y) = true := by simpa using hxy
        have HXY := Lib.hid hxy
        clear hxy
        go_wp2
        go_quiet (fail)
        go_wp2
        go_ret
        refine ⟨ret_bool ?_, ?_⟩
        · symm
          rw [decide_eq_false_iff_not]
          intro e
          have h5 := congrArg (List.take (k + 1)) e
          rw [HSX.out, HSY.out, HI.out.2] at h5
          exact HXY.out (by simpa using h5)
        · obtain ⟨n, e⟩ := HI.out.1
          exact ⟨_, by rw [e, drewN_two]⟩
    · obtain rfl : k = m := by omega
      go_wp2
      go_ret
      refine ⟨ret_bool ?_, HI.out.1⟩
      symm
      rw [decide_eq_true_eq]
      have h5 := HI.out.2
      rwa [List.take_of_length_le (by have := HL.out; omega), List.take_of_length_le (by have := HM.out; omega)] at h5
 · have hnb : ((xs.length : Int) != (ys.length : Int)) = true := by simp; omega
   have HL := Lib.hid hl
   clear hl
   go_enter Tryz.func11, Tryz.ntmps11
   go_wp2
   go_ret
   refine ⟨ret_bool ?_, 0, rfl⟩
   symm
   rw [decide_eq_false_iff_not]
   intro e
   exact HL.out (by rw [e])
theorem Same_any (xs ys : List Int) (v u : Value) (w : World) (hr : RI w v xs) (kr : RI w u ys) : Calls Tryz.prog 11 #[v, u] w fun e w' => e = .returned (.bool (decide (xs = ys))) ∧ Ext w w' :=
 (Same_q xs ys v u w hr kr).mono fun _ _ ⟨h, n, e⟩ => ⟨h, e ▸ Ext.drewN w n⟩
theorem Same_refl (r : List Int) (v u : Value) (w : World) (hr : RI w v r) (kr : RI w u r) : Calls Tryz.prog 11 #[v, u] w fun e w' => e = .returned (.bool true) ∧ Ext w w' := by
 have := Same_any r r v u w hr kr
 rw [decide_eq_true rfl] at this
 exact this
set_option maxHeartbeats 2000000 in
theorem SameAll_any (xs ys : List (List Int)) (v u : Value) (w : World) (hr : RLL w v xs) (kr : RLL w u ys) :
 Calls Tryz.prog 16 #[v, u] w fun e w' => e = .returned (.bool (decide (xs = ys))) ∧ Ext w w' := by
 obtain ⟨A, c, vs, rfl, h1, h2, h3, h4, h5⟩ := hr
 obtain ⟨B, d, us, rfl, k1, k2, k3, k4, k5⟩ := kr
 have H3 := Lib.hid h3
 have H4 := Lib.hid h4
 have H5 := Lib.hid h5
 have K3 := Lib.hid k3
 have K4 := Lib.hid k4
 have K5 := Lib.hid k5
 clear h3 h4 h5 k3 k4 k5
 by_cases hl : vs.length = us.length
 · obtain ⟨m, hm⟩ : ∃ m, m = us.length := ⟨_, rfl⟩
   have HM := Lib.hid hm
   rw [← hm] at hl k1 k2 ⊢
   rw [hl] at h1 h2 ⊢
   have HL := Lib.hid hl
   clear hl hm
   have hnm : ((m : Int) != (m : Int)) = false := by simp
   go_enter Tryz.func16, Tryz.ntmps16
   go_wp2
   go_loopg [5] m (fun gn i wr => ∃ k : Nat, k ≤ m ∧ gn + k = m ∧ i = .int .i64 k ∧ Hid (Ext w wr ∧ xs.take k = ys.take k))
   case atStart => exact ⟨0, Nat.zero_le _, by omega, rfl, Ext.refl _, by simp⟩
   case round =>
    obtain ⟨k, hk, hgk, rfl, HI⟩ := hrel
    obtain ⟨wk, rfl⟩ : ∃ wk : World, wk = wr := ⟨_, rfl⟩
    by_cases hlt : k < m
    · have hlv : k < vs.length := by have := HL.out; omega
      have hlu : k < us.length := by have := HM.out; omega
      have hlx : k < xs.length := by have := H4.out; omega
      have hly : k < ys.length := by have := K4.out; omega
      obtain ⟨ad, rfl, hx0⟩ := (H3.out.ext HI.out.1) k hlv
      obtain ⟨bd, rfl, hy0⟩ := (K3.out.ext HI.out.1) k hlu
      have hsx := List.take_succ_eq_append_getElem hlx
      have hsy := List.take_succ_eq_append_getElem hly
      have hcl : ∀ n, Calls Tryz.prog 11 #[vs[k], us[k]] (wk.drewN n) fun e w' => e = .returned (.bool (decide (xs[k] = ys[k]))) ∧ ∃ q, w' = wk.drewN q := fun n => by
       have e0 : Ext w (wk.drewN n) := HI.out.1.trans (Ext.drewN _ _)
       refine (Same_q xs[k] ys[k] vs[k] us[k] _ ((H5.out k hlv hlx).ext e0) ((K5.out k hlu hly).ext e0)).mono ?_
       rintro e w' ⟨he, q, rfl⟩
       exact ⟨he, n + q, drewN_two _ _ _⟩
      obtain ⟨E, ce, he, -⟩ := H5.out k hlv hlx
      obtain ⟨D, de, hd, -⟩ := K5.out k hlu hly
      obtain ⟨x, hx⟩ : ∃ x, x = xs[k] := ⟨_, rfl⟩
      obtain ⟨y, hy⟩ : ∃ y, y = ys[k] := ⟨_, rfl⟩
      rw [he] at hx0 hcl
      rw [hd] at hy0 hcl
      rw [← hx] at hsx hx0 hcl
      rw [← hy] at hsy hy0 hcl
      have HSX := Lib.hid hsx
      have HSY := Lib.hid hsy
      obtain ⟨a, ha⟩ : ∃ a, a = x.length := ⟨_, rfl⟩
      obtain ⟨b, hb⟩ : ∃ b, b = y.length := ⟨_, rfl⟩
      rw [← ha] at hx0 hcl
      rw [← hb] at hy0 hcl
      clear hx hy hsx hsy hlx hly hlv hlu he hd ha hb
      by_cases hxy : x = y
      · rw [decide_eq_true hxy] at hcl
        have HXY := Lib.hid hxy
        have HCL := Lib.hid hcl
        clear hxy hcl
        go_wp2
        go_quiet ((go_at_call 11; exact HCL.out _))
        go_wp2
        go_roundg (m - (k + 1))
        case measure => omega
        case rel => exact ⟨k + 1, by omega, by omega, by go_num, HI.out.1.trans (Ext.drewN _ _), by rw [HSX.out, HSY.out, HI.out.2, HXY.out]⟩
      · rw [decide_eq_false hxy] at hcl
        have HXY := Lib.hid hxy
        have HCL := Lib.hid hcl
        clear hxy hcl
        go_wp2
        go_quiet ((go_at_call 11; exact HCL.out _))
        go_wp2
        go_ret
        refine ⟨ret_bool ?_, HI.out.1.trans (Ext.drewN _ _)⟩
        symm
        rw [decide_eq_false_iff_not]
        intro e
        have h5 := congrArg (List.take (k + 1)) e
        rw [HSX.out, HSY.out, HI.out.2] at h5
        exact HXY.out (by simpa using h5)
    · obtain rfl : k = m := by omega
      go_wp2
      go_ret
      refine ⟨ret_bool ?_, HI.out.1⟩
      symm
      rw [decide_eq_true_eq]
      have h5 := HI.out.2
      rwa [List.take_of_length_le (by have := HL.out; have := H4.out; omega), List.take_of_length_le (by have := HM.out; have := K4.out; omega)] at h5
 · have hnb : ((vs.length : Int) != (us.length : Int)) = true := by simp; omega
   have HL := Lib.hid hl
   clear hl
   go_enter Tryz.func16, Tryz.ntmps16
   go_wp2
   go_ret
   refine ⟨ret_bool ?_, Ext.refl _⟩
   symm
   rw [decide_eq_false_iff_not]
   intro e
   exact HL.out (by have := H4.out; have := K4.out; have := congrArg List.length e; omega)
end Go.Proofs.YtjecjaihficcdaaGreat
namespace Go.Proofs.YtjecjaihficcdaaGreat
open Go.RowKit
theorem aw_class (f L : List (List Int)) (u : Value) (w : World) (kr : RLL w u f) (h64 : All64L f) (hm : mayCnfB f = true) (ht : total f ≤ 1000000) (hL : RefClasses f = L) :
 Calls Tryz.prog 17 #[u] w fun e w' => ∃ v, e = .returned v ∧ RLL w' v L ∧ Ext w w' := by
 refine (classes_any f u w kr h64 (fun _ => by omega)).mono ?_
 rintro e w' ⟨v, L', rfl, hr, hE, -, hc⟩
 rw [classes_ref hm (hc hm), hL] at hr
 exact ⟨v, rfl, hr, hE⟩
theorem SameAll_refl (f : List (List Int)) (v u : Value) (w : World) (hr : RLL w v f) (kr : RLL w u f) : Calls Tryz.prog 16 #[v, u] w fun e w' => e = .returned (.bool true) ∧ Ext w w' := by
 have := SameAll_any f f v u w hr kr
 rwa [decide_eq_true rfl] at this
theorem RLL.nil_form {w : World} {v : Value} (h : RLL w v []) : ∃ A c, v = .slice A 0 c := by
 obtain ⟨A, c, vs, rfl, -, -, -, hl, -⟩ := h
 exact ⟨A, c, by rw [show vs.length = 0 from hl]⟩
theorem aw_fail (f : List (List Int)) (xs : List Int) (u : Value) (w : World) (kr : RLL w u f) (h64 : All64L f) (ht : total f ≤ 1000000) (hL : FailV f = xs) :
 Calls Tryz.prog 14 #[u] w fun e w' => ∃ v, e = .returned v ∧ RI w' v xs ∧ Ext w w' := by
 refine (Failed_any f u w h64 kr (fun _ => by omega)).mono ?_
 rintro e w' ⟨v, rfl, hr, hE⟩
 rw [hL] at hr
 exact ⟨v, rfl, hr.reads, hE⟩
set_option maxRecDepth 100000 in
set_option maxHeartbeats 20000000 in
theorem awake_any (w : World) : Calls Tryz.prog 10 #[] w fun e w' => e = .returned (.bool true) ∧ Ext w w' := by
 obtain ⟨w1, h1, hRD1, hB1, hE1⟩ := aw_new1 w
 have HRD1 := Lib.hid hRD1
 have HB1 := Lib.hid hB1
 have HE1 := Lib.hid hE1
 go_enter Tryz.func10, Tryz.ntmps10
 go_upto_region 2 with fail
 rw [← h1]
 have d0 := hB1.cell 0
 have d1 := hB1.cell 1
 have d2 := hB1.cell 2
 simp only [List.getElem?_cons_zero, List.getElem?_cons_succ] at d0 d1 d2
 clear h1 hRD1 hB1 hE1
 generalize w.heap.size = b at HRD1 HB1 d0 d1 d2 ⊢
 generalize hb8 : b + 1 + 1 + 1 + 1 + 1 + 1 + 1 + 1 = b8 at HB1 d0 d1 d2 ⊢
 generalize Value.slice (some ⟨b, 0, none⟩) 1 1 = vu at *
 generalize Value.slice (some ⟨b + 1 + 1 + 1, 0, none⟩) 2 2 = vx at *
 generalize Value.slice (some ⟨b + 1 + 1 + 1 + 1 + 1 + 1 + 1, 0, none⟩) 3 3 = vc at *
 have HN : Hid (∀ w', Ext w1 w' → Calls Tryz.prog 19 #[.agg #[vu, vx, vc]] w' fun e w'' => e = .returned (.tuple #[.agg #[.int .u8 6, .int .i64 2, .int .i64 3, .int .i64 0, .int .i64 1], .bool true]) ∧ Ext w' w'') := Lib.hid (fun w' h => by
  have := Next_any awD1 _ _ _ w' (HRD1.out.ext h) awD1_ok
  rw [aw_next1] at this
  exact this)
 have HMK : Hid (∀ w', Ext w1 w' → Calls Tryz.prog 21 #[.agg #[vu, vx, vc], .agg #[.int .u8 6, .int .i64 2, .int .i64 3, .int .i64 0, .int .i64 1]] w' (PostMake w' (MakeV awD1 ⟨6, 2, 3, 0, 1⟩))) := Lib.hid (fun w' h => Make_any awD1 ⟨6, 2, 3, 0, 1⟩ _ _ _ w' (HRD1.out.ext h) awD1_ok ⟨by show I64 2; unfold I64; omega, by show I64 3; unfold I64; omega, by show I64 0; unfold I64; omega, by show I64 1; unfold I64; omega⟩)
 clear hb8
 go_upto_region 3 with (go_at_call 19; refine (HN.out _ (Ext.refl _)).mono ?_; rintro e w2 ⟨rfl, hE⟩; have HE2 := Lib.hid hE; clear hE)
 have e3 := Ext.alloc w2 (.cells #[.int .u8 6, .int .i64 2, .int .i64 3, .int .i64 0, .int .i64 1] 37)
 have B3 := Blk.new w2 37 [.int .u8 6, .int .i64 2, .int .i64 3, .int .i64 0, .int .i64 1]
 have HB3 := Lib.hid B3
 have HE3 := Lib.hid (HE2.out.trans e3)
 have hbD := (HE3.out.chg (fun _ => False)).blk HB1.out id
 have f0 := hbD.cell 0
 have f1 := hbD.cell 1
 have f2 := hbD.cell 2
 have k0 := B3.cell 0
 have k1 := B3.cell 1
 have k2 := B3.cell 2
 have k3 := B3.cell 3
 have k4 := B3.cell 4
 simp only [List.getElem?_cons_zero, List.getElem?_cons_succ] at f0 f1 f2 k0 k1 k2 k3 k4
 clear e3 B3 hbD d0 d1 d2
 generalize w2.heap.size = b3 at HB3 k0 k1 k2 k3 k4 ⊢
 generalize w2.alloc _ = w3 at HB3 HE3 f0 f1 f2 k0 k1 k2 k3 k4 ⊢
 obtain ⟨hm2, hmc, hml⟩ := aw_m1
 change (MakeV awD1 _).2 = 0 at hm2
 change (MakeV awD1 _).1.clauses = _ at hmc
 change (MakeV awD1 _).1.exist.length = 1 at hml
 generalize MakeV awD1 ⟨6, 2, 3, 0, 1⟩ = MV at HMK hm2 hmc hml
 obtain ⟨MD, ME⟩ := MV
 simp only at hm2 hmc hml
 subst hm2
 go_upto_region 4 with (go_at_call 21; refine (HMK.out _ HE3.out).mono ?_; rintro e w4 ⟨mu, mx, mc, rfl, hr, hE⟩; obtain ⟨uA, uN, uC, rfl⟩ := slice_of hr.u; obtain ⟨xA, xC, rfl⟩ : ∃ A c, mx = .slice A 1 c := (by obtain ⟨A, c, us, h, -⟩ := hr.x; exact ⟨A, c, by rw [h, hml]⟩); obtain ⟨cA, cN, cC, rfl⟩ : ∃ A n c, mc = .slice A n c := (by obtain ⟨A, c, us, h, -⟩ := hr.c; exact ⟨A, _, c, h⟩); have HE4 := Lib.hid hE; have HMX := Lib.hid hr.x; have HMC := Lib.hid hr.c; rw [hmc] at HMC; clear hE hr)
 have e5 := Ext.alloc w4 (.cells #[.slice uA uN uC, .slice xA 1 xC, .slice cA cN cC] 27)
 have HB5 := Lib.hid (Blk.new w4 27 [.slice uA uN uC, .slice xA 1 xC, .slice cA cN cC])
 have HE5 := Lib.hid (HE4.out.trans e5)
 have HEA := Lib.hid (HE1.out.trans (HE3.out.trans HE5.out))
 have HMX5 := Lib.hid (HMX.out.ext e5)
 have HMC5 := Lib.hid (RLL.ext' HMC.out e5)
 have hbC := (HE5.out.chg (fun _ => False)).blk HB3.out id
 have HBC := Lib.hid hbC
 clear e5 hbC k0 k1 k2 k3 k4 f0 f1 f2 HMX HMC hmc HE4
 generalize w4.heap.size = b5 at HB5 ⊢
 generalize w4.alloc _ = w5 at HB5 HE5 HEA HMX5 HMC5 HBC ⊢
 clear HE5 HE3 HE2 HMK HN HB1 HB3 HE1 HRD1
 obtain ⟨w6, h6, hRD6, hE6⟩ := aw_new2 w5
 have HN2 : Hid (∀ w', Ext w6 w' → Calls Tryz.prog 19 #[.agg #[.slice (some ⟨w5.heap.size, 0, none⟩) 1 1, .slice (some ⟨w5.heap.size + 1, 0, none⟩) 1 1, .slice (some ⟨w5.heap.size + 1 + 1 + 1 + 1, 0, none⟩) 2 2]] w' fun e w'' => e = .returned (.tuple #[.agg #[.int .u8 0, .int .i64 0, .int .i64 0, .int .i64 0, .int .i64 0], .bool false]) ∧ Ext w' w'') := Lib.hid (fun w' h => by
  have := Next_any awD2 _ _ _ w' (hRD6.ext h) awD2_ok
  rw [aw_next2] at this
  exact this)
 have HE6 := Lib.hid hE6
 have H6 := Lib.hid h6
 clear hRD6 hE6 h6
 go_upto_region 5 with (go_at_call 19; rw [← H6.out]; refine (HN2.out _ (Ext.refl _)).mono ?_; rintro e w7 ⟨rfl, hE⟩; have HE7 := Lib.hid hE; clear hE)
 have HE8 := Lib.hid (HE6.out.trans (HE7.out.trans (Ext.alloc w7 (.cells #[.int .u8 0, .int .i64 0, .int .i64 0, .int .i64 0, .int .i64 0] 37))))
 generalize w7.alloc _ = w8 at HE8 ⊢
 clear H6 HN2 HE7 HE6
 go_upto_region 6 with fail
 obtain ⟨w9, h9, hF, hE9⟩ := aw_new3 w8
 rw [← h9]
 have HF := Lib.hid hF
 have HE59 := Lib.hid (HE8.out.trans hE9)
 generalize w8.heap.size = b9 at HF ⊢
 clear h9 hF hE9 HE8
 have hb3 := (HE59.out.chg (fun _ => False)).blk HBC.out id
 have hb5 := (HE59.out.chg (fun _ => False)).blk HB5.out id
 have HB59 := Lib.hid hb5
 have k0 := hb3.cell 0
 have k1 := hb3.cell 1
 have k2 := hb3.cell 2
 have k3 := hb3.cell 3
 have k4 := hb3.cell 4
 have m2 := hb5.cell 2
 simp only [List.getElem?_cons_zero, List.getElem?_cons_succ] at k0 k1 k2 k3 k4 m2
 have HM9 := Lib.hid (RLL.ext' HMC5.out HE59.out)
 have HE9 := Lib.hid (HEA.out.trans HE59.out)
 clear hb3 hb5 HBC HB5 HMC5 HMX5 HEA HE59
 go_upto_region 7 with (go_at_call 16; refine (SameAll_refl [[3]] _ _ _ (RLL.ext' HM9.out ((Ext.alloc _ _).trans (Ext.alloc _ _))) (lit1 w9 [3] (by decide))).mono ?_; rintro e w10 ⟨rfl, hE⟩; have HE910 := Lib.hid (((Ext.alloc _ _).trans (Ext.alloc _ _)).trans hE); have m1 := ((HE910.out.chg (fun _ => False)).blk HB59.out id).cell 1; simp only [List.getElem?_cons_zero, List.getElem?_cons_succ] at m1; clear hE)
 clear k0 k1 k2 k3 k4 m1 m2 HM9 HB59
 have HF10 := Lib.hid (RLL.ext' HF.out HE910.out)
 have HF2 : Hid (RLL w10 (.slice (some ⟨b9 + 1 + 1 + 1 + 1, 0, none⟩) 2 4) [[1, 2], [1, -2]]) := Lib.hid (RLL.take HF10.out 2 (by decide))
 have HE10 := Lib.hid (HE9.out.trans HE910.out)
 have hsl := slice_to Tryz.underlying22 info_ints (some ⟨b9 + 1 + 1 + 1 + 1, 0, none⟩) 4 4 2 (by omega)
 clear HF HE9 HE910
 go_upto_region 8 with (go_at_call 17; refine (aw_class awF _ _ _ HF10.out (all64L_of _ (by decide)) (by decide +kernel) (by decide) aw_cl1).mono ?_; rintro e w11 ⟨v11, rfl, hr, hE⟩; have HR11 := Lib.hid hr; have HE11 := Lib.hid hE; clear hr hE)
 go_upto_region 8 with (go_at_call 16; refine (SameAll_refl [[-1, 1, -2, 2]] _ _ _ (RLL.ext' HR11.out ((Ext.alloc _ _).trans (Ext.alloc _ _))) (lit1 w11 [-1, 1, -2, 2] (by decide))).mono ?_; rintro e w12 ⟨rfl, hE⟩; have HE12 := Lib.hid (HE11.out.trans (((Ext.alloc _ _).trans (Ext.alloc _ _)).trans hE)); clear hE HE11)
 go_upto_region 8 with (go_at_call 14; refine (aw_fail awF _ _ _ (RLL.ext' HF10.out HE12.out) (all64L_of _ (by decide)) (by decide) aw_f1).mono ?_; rintro e w13 ⟨v13, rfl, hr, hE⟩; have HR13 := Lib.hid hr; have HE13 := Lib.hid (HE12.out.trans hE); clear hr hE HE12)
 go_upto_region 8 with (go_at_call 11; refine (Same_refl [-1, 1, -2, 2] _ _ _ (HR13.out.ext (Ext.alloc _ _)) (lit0 w13 [-1, 1, -2, 2] (by decide))).mono ?_; rintro e w14 ⟨rfl, hE⟩; have HE14 := Lib.hid (HE13.out.trans ((Ext.alloc _ _).trans hE)); clear hE HE13)
 go_upto_region 8 with (go_at_call 14; refine (aw_fail [[1, 2], [1, -2]] _ _ _ (RLL.ext' HF2.out HE14.out) (all64L_of _ (by decide)) (by decide) aw_f2).mono ?_; rintro e w15 ⟨v15, rfl, hr, hE⟩; have HR15 := Lib.hid hr; have HE15 := Lib.hid (HE14.out.trans hE); clear hr hE HE14)
 go_upto_region 8 with (go_at_call 11; refine (Same_refl [-1] _ _ _ (HR15.out.ext (Ext.alloc _ _)) (lit0 w15 [-1] (by decide))).mono ?_; rintro e w16 ⟨rfl, hE⟩; have HE16 := Lib.hid (HE15.out.trans ((Ext.alloc _ _).trans hE)); clear hE HE15)
 go_upto_region 8 with (go_at_call 17; refine (aw_class [[1, 2], [1, -2]] _ _ _ (RLL.ext' HF2.out HE16.out) (all64L_of _ (by decide)) (by decide +kernel) (by decide) aw_cl2).mono ?_; rintro e w17 ⟨v17, rfl, hr, hE⟩; obtain ⟨A17, c17, rfl⟩ := RLL.nil_form hr; have HE17 := Lib.hid (HE16.out.trans hE); clear hr hE HE16)
 have HEB := Lib.hid (HE10.out.trans HE17.out)
 clear HE10 HE17 HF10 HF2 hsl
 go_wp2_with (go_at_call 17; refine (aw_class [[1, 2], [-1, -2]] _ _ _ (lit2 w17 [1, 2] [-1, -2] (by decide) (by decide)) (all64L_of _ (by decide)) (by decide +kernel) (by decide) aw_cl3).mono ?_; rintro e w18 ⟨v18, rfl, hr, hE⟩; have HR18 := Lib.hid hr; have HE18 := Lib.hid (HEB.out.trans ((((Ext.alloc _ _).trans (Ext.alloc _ _)).trans (Ext.alloc _ _)).trans hE)); clear hr hE)
 go_wp2_with (go_at_call 16; refine (SameAll_refl [[1, -2]] _ _ _ (RLL.ext' HR18.out ((Ext.alloc _ _).trans (Ext.alloc _ _))) (lit1 w18 [1, -2] (by decide))).mono ?_; rintro e w19 ⟨rfl, hE⟩; have HE19 := Lib.hid (HE18.out.trans (((Ext.alloc _ _).trans (Ext.alloc _ _)).trans hE)); clear hE)
 go_wp2_with (go_at_call 12; refine (Reaches_any [[1, 2], [-2, 3]] (-1) _ _ (by unfold I64; omega) (all64L_of _ (by decide)) (lit2 w19 [1, 2] [-2, 3] (by decide) (by decide)) (fun _ => by decide)).mono ?_; rintro e w20 ⟨v20, rfl, hr, hE⟩; rw [aw_r1] at hr; have HR20 := Lib.hid hr.reads; have HE20 := Lib.hid (HE19.out.trans ((((Ext.alloc _ _).trans (Ext.alloc _ _)).trans (Ext.alloc _ _)).trans hE)); clear hr hE)
 go_wp2_with (go_at_call 11; refine (Same_refl [-1, 2, 3] _ _ _ (HR20.out.ext (Ext.alloc _ _)) (lit0 w20 [-1, 2, 3] (by decide))).mono ?_; rintro e w21 ⟨rfl, hE⟩; have HE21 := Lib.hid (HE20.out.trans ((Ext.alloc _ _).trans hE)); clear hE)
 go_ret
 exact ⟨rfl, HE21.out⟩
end Go.Proofs.YtjecjaihficcdaaGreat
namespace Go.Proofs.YtjecjaihficcdaaGreat
open Go.RowKit
section
variable {P : Program} {ops : Array Oper} {a : Act} {w : World} {o : Oper} {R : World → Value → Prop} {V : Nat → World → Value → Prop}
theorem st_loadI {ty : TypeId} {k : IntKind} {s : Tmp} {ad : Addr} {v : Value} (hg : Region.wanted o (yielded ops a.tmps) = true) (ho : o.op = .load ty (.tmp s)) (hu : P.underlying ty = some (.int k)) (hs : a.tmps[s]? = some (.pointer (some ad))) (hc : w.cell? ad = some v) (hR : R w v) : OpOk P ops a o w R := by
 refine ok_val hg v w ?_ (Ext.refl w) hR
 unfold execOp
 simp [ho, hs, go_sem, hc, isAgg, run_underlying hu]
end
theorem built_one (y : Int) : Tryz.prog.builtSlice 3 1 [(0, .int .i64 y)] = some #[.int .i64 y] := by kernel_rfl
theorem st_one {ops : Array Oper} {a : Act} {w : World} {o : Oper} {R : World → Value → Prop} {s : Tmp} {y : Int} (hg : Region.wanted o (yielded ops a.tmps) = true) (ho : o.op = .buildSlice 24 1 #[(0, .tmp s)]) (hs : a.tmps[s]? = some (.int .i64 y))
 (hR : ∀ g, RI (w.alloc (.cells #[.int .i64 y] 3)) (.slice (some ⟨g, 0, none⟩) 1 1) [y] → R (w.alloc (.cells #[.int .i64 y] 3)) (.slice (some ⟨g, 0, none⟩) 1 1)) : OpOk Tryz.prog ops a o w R :=
 st_lit hg 24 3 1 _ ho Tryz.underlying24 #[.int .i64 y] (by simp [eval_of hs]; exact built_one y) (hR _ (lit0 w [y] (by simp)))
end Go.Proofs.YtjecjaihficcdaaGreat
namespace Go.Proofs.YtjecjaihficcdaaGreat
def ordB (x y : Int) : Int := if blt x y then -1 else if blt y x then 1 else 0
theorem ordB_neg (x y : Int) : ordB x y < 0 ↔ blt x y := by
 unfold ordB
 by_cases h : blt x y
 · rw [if_pos h]; simp [h]
 · rw [if_neg h]
   refine ⟨fun k => ?_, fun k => absurd k h⟩
   split at k <;> omega
def cmpL : List Int → List Int → Int
 | [], [] => 0
 | [], _ :: _ => -1
 | _ :: _, [] => 1
 | x :: a, y :: b => if ordB x y = 0 then cmpL a b else ordB x y
def llt (a b : List Int) : Prop := cmpL a b < 0
instance (a b : List Int) : Decidable (llt a b) := by unfold llt; infer_instance
end Go.Proofs.YtjecjaihficcdaaGreat
namespace Go.Proofs.YtjecjaihficcdaaGreat
theorem Asc.filter {xs : List Int} (h : Asc xs) (c : Int → Bool) : Asc (xs.filter c) := ⟨h.1.filter _, fun x hx => h.2 x (List.mem_filter.1 hx).1⟩
theorem Asc.nodup {xs : List Int} (h : Asc xs) : xs.Nodup := by
 refine h.1.imp fun {a b} hab e => ?_
 rw [e] at hab; omega
end Go.Proofs.YtjecjaihficcdaaGreat
namespace Go.Proofs.YtjecjaihficcdaaGreat.PEquivNext
open Go.RowKit Go.Proofs.YtjecjaihficcdaaGreatW.PrintWords
theorem size_f (x : Int) (h : I64 x) : skolemref01_size.f x = some ((x.natAbs : Nat) : Int) := by
 obtain ⟨h0, h1⟩ := h
 unfold skolemref01_size.f
 by_cases hx : x < 0
 · rw [if_pos hx, wrap64_id (x := x + 1) (by omega) (by omega), wrap64_id (by omega) (by omega), IntWalk.u64_in (-(x + 1)) ⟨by omega, by omega⟩, IntWalk.u64_in _ ⟨by omega, by omega⟩]
   congr 1; omega
 · rw [if_neg hx, IntWalk.u64_in _ ⟨by omega, by omega⟩]
   congr 1; omega
theorem literal_f (x : Int) (h : I64 x) : skolemref01_literal.f x = some (decide (varOf x ≠ 0)) := by
 unfold skolemref01_literal.f
 by_cases hx : x = 0
 · subst hx; rfl
 · rw [if_neg hx, size_f x h]
   show some _ = _
   congr 1
   rw [decide_eq_decide]
   unfold varOf
   split <;> omega
theorem Var_f (x : Int) (h : I64 x) : skolemref01_Var.f x = some (varOf x) := by
 unfold skolemref01_Var.f
 rw [literal_f x h]
 show (if decide (varOf x ≠ 0) = true then _ else _) = _
 by_cases hv : varOf x = 0
 · rw [if_neg (by simpa using hv), hv]
 · rw [if_pos (by simpa using hv), size_f x h]
   have := varOf_eq hv
   have := varOf_range x
   show some (wrap64 _) = _
   rw [wrap64_id (by omega) (by omega)]
   congr 1; omega
theorem May_l0 (xs : List Int) (h64 : All64 xs) (hb : xs.length ≤ 9223372036854775807) : ∀ n i, i + n = xs.length → Evn (fun k => skolemref01_May.l0 k xs (i : Int)) (mayFrom (if i = 0 then 0 else varOf (xs.getD (i - 1) 0)) (xs.drop i)) := by
 intro n
 induction n with
 | zero =>
   intro i hi
   refine Evn.succ (g' := fun _ => some true) (fun k => ?_) ((Evn.ret _).to ?_)
   · rw [skolemref01_May.l0, if_neg (by omega)]
   · rw [List.drop_eq_nil_of_le (by omega)]; rfl
 | succ n ih =>
   intro i hi
   have hil : i < xs.length := by omega
   have hm := h64 _ (List.getElem_mem hil)
   have hvr := varOf_range xs[i]
   refine Evn.succ (fun k => by rw [skolemref01_May.l0]) ?_
   refine Evn.pos (by omega) (Evn.pos (by omega) ?_)
   rw [rd_nat xs i hil, wrap64_nat (by omega), List.drop_eq_getElem_cons hil, mayFrom]
   refine Evn.bind (Evn.of_eq fun _ => literal_f _ hm) ?_
   have hnext := ih (i + 1) (by omega)
   rw [if_neg (by omega), show i + 1 - 1 = i by omega, show xs.getD i 0 = xs[i] by simp [hil]] at hnext
   by_cases hv : varOf xs[i] = 0
   · refine Evn.neg (by simpa using hv) ((Evn.ret _).to ?_)
     rw [if_pos]
     split
     · omega
     · have := varOf_range (xs.getD (i - 1) 0); omega
   · refine Evn.pos (by simpa using hv) ?_
     by_cases h0 : i = 0
     · subst h0
       refine Evn.neg (by omega) (hnext.to ?_)
       rw [if_neg (show ¬ varOf xs[0] ≤ (if (0 : Nat) = 0 then (0 : Int) else varOf (xs.getD (0 - 1) 0)) by rw [if_pos rfl]; omega)]
     · have hi1 : i - 1 < xs.length := by omega
       have e1 : wrap64 ((i : Int) - 1) = ((i - 1 : Nat) : Int) := by rw [wrap64_id (by omega) (by omega)]; omega
       have hm1 := h64 _ (List.getElem_mem hi1)
       rw [e1, rd_nat xs (i - 1) hi1, if_neg h0, show xs.getD (i - 1) 0 = xs[i - 1] by simp [hi1]]
       refine Evn.pos (by omega) (Evn.pos (by omega) (Evn.pos (by omega) ?_))
       refine Evn.bind (Evn.of_eq fun _ => Var_f _ hm1) (Evn.bind (Evn.of_eq fun _ => Var_f _ hm) ?_)
       by_cases hle : varOf xs[i] ≤ varOf xs[i - 1]
       · exact Evn.pos (by omega) ((Evn.ret _).to (by rw [if_pos hle]))
       · exact Evn.neg (by omega) (hnext.to (by rw [if_neg hle]))
theorem May_f (xs : List Int) (h64 : All64 xs) (hb : xs.length ≤ 9223372036854775807) : Evn (fun k => skolemref01_May.f k xs) (mayB xs) := by
 unfold skolemref01_May.f
 exact (May_l0 xs h64 hb xs.length 0 (by omega)).to (by rw [if_pos rfl]; rfl)
theorem Has_l0 (xs : List Int) (y : Int) (hb : xs.length ≤ 9223372036854775807) : ∀ n i, i + n = xs.length → Evn (fun k => skolemref01_Has.l0 k xs y (i : Int)) (decide (y ∈ xs.drop i)) := by
 intro n
 induction n with
 | zero =>
   intro i hi
   refine Evn.succ (g' := fun _ => some false) (fun k => ?_) ((Evn.ret _).to ?_)
   · rw [skolemref01_Has.l0, if_neg (by omega)]
   · rw [List.drop_eq_nil_of_le (by omega)]; simp
 | succ n ih =>
   intro i hi
   have hil : i < xs.length := by omega
   refine Evn.succ (fun k => by rw [skolemref01_Has.l0]) ?_
   refine Evn.pos (by omega) (Evn.pos (by omega) ?_)
   rw [rd_nat xs i hil, wrap64_nat (by omega), List.drop_eq_getElem_cons hil]
   by_cases h : xs[i] = y
   · exact Evn.pos h ((Evn.ret _).to (by symm; rw [decide_eq_true_eq]; exact List.mem_cons.2 (.inl h.symm)))
   · exact Evn.neg h ((ih (i + 1) (by omega)).to (by rw [decide_eq_decide, List.mem_cons]; exact ⟨.inr, fun h' => h'.elim (fun e => absurd e.symm h) id⟩))
theorem Has_f (xs : List Int) (y : Int) (hb : xs.length ≤ 9223372036854775807) : Evn (fun k => skolemref01_Has.f k xs y) (decide (y ∈ xs)) := by
 unfold skolemref01_Has.f
 exact (Has_l0 xs y hb xs.length 0 (by omega)).to (by simp)
end Go.Proofs.YtjecjaihficcdaaGreat.PEquivNext
namespace Go.Proofs.YtjecjaihficcdaaGreat
open Go.RowKit Go.Proofs.YtjecjaihficcdaaGreatW.PrintWords
end Go.Proofs.YtjecjaihficcdaaGreat
namespace Go.Proofs.YtjecjaihficcdaaGreat.PEquivNext
open Go.RowKit Go.Proofs.YtjecjaihficcdaaGreatW.PrintWords
def mcR (f : List (List Int)) : Nat → Nat → Bool
 | 0, _ => true
 | r + 1, i => decide (i < 20000) && decide (lens f (i + 1) ≤ 200000) && mayB (f.getD i []) && mcR f r (i + 1)
theorem mcR_iff (f : List (List Int)) : ∀ r i, mcR f r i = true ↔ ∀ j, i ≤ j → j < i + r → j < 20000 ∧ lens f (j + 1) ≤ 200000 ∧ mayB (f.getD j []) = true
 | 0, i => by simp [mcR]; intro j h1 h2; omega
 | r + 1, i => by
   rw [mcR, Bool.and_eq_true, Bool.and_eq_true, Bool.and_eq_true, decide_eq_true_eq, decide_eq_true_eq, mcR_iff f r (i + 1)]
   constructor
   · rintro ⟨⟨⟨h1, h2⟩, h3⟩, h4⟩ j h5 h6
     rcases Nat.lt_or_eq_of_le h5 with h7 | h7
     · exact h4 j h7 (by omega)
     · subst h7; exact ⟨h1, h2, h3⟩
   · intro h
     have h0 := h i (Nat.le_refl _) (by omega)
     exact ⟨⟨⟨h0.1, h0.2.1⟩, h0.2.2⟩, fun j h1 h2 => h j (by omega) (by omega)⟩
theorem mcR_full (f : List (List Int)) : mcR f f.length 0 = mayCnfB f := by
 rw [Bool.eq_iff_iff, mcR_iff]
 unfold mayCnfB
 rw [Bool.and_eq_true, decide_eq_true_eq, List.all_eq_true]
 constructor
 · intro h
   refine ⟨?_, fun k hk => ?_⟩
   · rcases Nat.eq_zero_or_pos f.length with h0 | h0
     · omega
     · have := (h (f.length - 1) (by omega) (by omega)).1; omega
   · have hk' : k < f.length := by simpa using hk
     have := h k (by omega) (by omega)
     rw [Bool.and_eq_true, decide_eq_true_eq]
     exact ⟨this.2.1, this.2.2⟩
 · rintro ⟨h1, h2⟩ j _ h4
   have := h2 j (by simpa using h4)
   rw [Bool.and_eq_true, decide_eq_true_eq] at this
   exact ⟨by omega, this.1, this.2⟩
theorem MayCnf_l0 (f : List (List Int)) (h64 : All64L f) (hb : f.length ≤ 9223372036854775807) (ht : total f ≤ 9223372036854775807) :
 ∀ n i, i + n = f.length → Evn (fun k => skolemref01_MayCnf.l0 k f (lens f i : Int) (i : Int)) (mcR f n i) := by
 intro n
 induction n with
 | zero =>
   intro i hi
   exact Evn.succ (g' := fun _ => some true) (fun k => by rw [skolemref01_MayCnf.l0, if_neg (by omega)]) (Evn.ret _)
 | succ n ih =>
   intro i hi
   have hil : i < f.length := by omega
   have hls := lens_succ f i hil
   have hle := lens_le f (i + 1)
   have h1 : rd_L1 f (i : Int) = f[i] := by simp [rd_L1, hil]
   have hfl : f[i].length ≤ 9223372036854775807 := by omega
   refine Evn.succ (fun k => by rw [skolemref01_MayCnf.l0]) ?_
   refine Evn.pos (by omega) (Evn.pos (by omega) ?_)
   have hnext := ih (i + 1) (by omega)
   rw [h1, wrap64_nat (by omega), wrap64_id (by omega) (by omega), show ((lens f i : Nat) : Int) + (f[i].length : Int) = ((lens f (i + 1) : Nat) : Int) by omega, mcR, getD_of f i hil]
   by_cases c1 : i < 20000
   · rw [decide_eq_true c1, Bool.true_and]
     refine Evn.neg (by omega) ?_
     by_cases c2 : lens f (i + 1) ≤ 200000
     · rw [decide_eq_true c2, Bool.true_and]
       refine Evn.neg (by omega) (Evn.bind (May_f f[i] (h64 _ (List.getElem_mem hil)) hfl) ?_)
       by_cases c3 : mayB f[i] = true
       · rw [c3, Bool.true_and]; exact Evn.pos rfl hnext
       · exact Evn.neg c3 ((Evn.ret _).to (by rw [show mayB f[i] = false by simpa using c3]; rfl))
     · exact Evn.pos (by omega) ((Evn.ret _).to (by rw [decide_eq_false c2]; rfl))
   · exact Evn.pos (by omega) ((Evn.ret _).to (by rw [decide_eq_false c1]; rfl))
theorem MayCnf_f (f : List (List Int)) (h64 : All64L f) (hb : f.length ≤ 9223372036854775807) (ht : total f ≤ 9223372036854775807) : Evn (fun k => skolemref01_MayCnf.f k f) (mayCnfB f) := by
 unfold skolemref01_MayCnf.f
 exact (MayCnf_l0 f h64 hb ht f.length 0 (by omega)).to (mcR_full f)
theorem before_f (x y : Int) (hx : I64 x) (hy : I64 y) : skolemref01_before.f x y = some (decide (blt x y)) := by
 unfold skolemref01_before.f
 rw [size_f x hx, size_f y hy]
 simp only [Option.bind_some]
 by_cases h : x.natAbs = y.natAbs
 · rw [if_pos (by omega)]
   congr 1
   rw [decide_eq_decide]
   unfold blt
   constructor
   · intro h1; exact .inr ⟨h, h1⟩
   · rintro (h1 | h1)
     · omega
     · exact h1.2
 · rw [if_neg (by omega)]
   congr 1
   rw [decide_eq_decide]
   unfold blt
   omega
theorem Compare_l0 (xs ys : List Int) (h64 : All64 xs) (k64 : All64 ys) (_hb : xs.length ≤ 9223372036854775807) (kb : ys.length ≤ 9223372036854775807) : ∀ n i, i + n = xs.length → i ≤ ys.length → Evn (fun k => skolemref01_Compare.l0 k xs ys (i : Int)) (cmpL (xs.drop i) (ys.drop i)) := by
 intro n
 induction n with
 | zero =>
   intro i hi hy
   refine Evn.succ (fun k => by rw [skolemref01_Compare.l0]) (Evn.neg (by omega) (Evn.succ (fun k => by rw [skolemref01_Compare.j1]) (Evn.neg (by decide) ?_)))
   rw [List.drop_eq_nil_of_le (show xs.length ≤ i by omega)]
   by_cases h : i < ys.length
   · rw [List.drop_eq_getElem_cons h, cmpL]
     exact Evn.pos (by omega) (Evn.ret _)
   · rw [List.drop_eq_nil_of_le (show ys.length ≤ i by omega), cmpL]
     exact Evn.neg (by omega) (Evn.neg (by omega) (Evn.ret _))
 | succ n ih =>
   intro i hi hy
   have hil : i < xs.length := by omega
   refine Evn.succ (fun k => by rw [skolemref01_Compare.l0]) (Evn.pos (by omega) (Evn.succ (fun k => by rw [skolemref01_Compare.j1]) ?_))
   rw [List.drop_eq_getElem_cons hil]
   by_cases h : i < ys.length
   · rw [decide_eq_true (by omega : (i : Int) < (ys.length : Int)), List.drop_eq_getElem_cons h, cmpL]
     refine Evn.pos rfl (Evn.pos (by omega) (Evn.pos (by omega) (Evn.pos (by omega) ?_)))
     rw [rd_nat xs i hil, rd_nat ys i h, wrap64_nat (by omega)]
     have hx := h64 _ (List.getElem_mem hil)
     have hyy := k64 _ (List.getElem_mem h)
     refine Evn.bind (Evn.of_eq fun _ => before_f _ _ hx hyy) ?_
     unfold ordB
     by_cases h1 : blt xs[i] ys[i]
     · rw [if_pos h1, if_neg (by decide)]
       exact Evn.pos (by simpa using h1) (Evn.ret _)
     · rw [if_neg h1]
       refine Evn.neg (by simpa using h1) (Evn.bind (Evn.of_eq fun _ => before_f _ _ hyy hx) ?_)
       by_cases h2 : blt ys[i] xs[i]
       · rw [if_pos h2, if_neg (by decide)]
         exact Evn.pos (by simpa using h2) (Evn.ret _)
       · rw [if_neg h2, if_pos rfl]
         exact Evn.neg (by simpa using h2) (ih (i + 1) (by omega) (by omega))
   · rw [decide_eq_false (by omega : ¬ (i : Int) < (ys.length : Int)), List.drop_eq_nil_of_le (show ys.length ≤ i by omega), cmpL]
     exact Evn.neg (by decide) (Evn.neg (by omega) (Evn.pos (by omega) (Evn.ret _)))
theorem Compare_f (xs ys : List Int) (h64 : All64 xs) (k64 : All64 ys) (hb : xs.length ≤ 9223372036854775807) (kb : ys.length ≤ 9223372036854775807) : Evn (fun k => skolemref01_Compare.f k xs ys) (cmpL xs ys) := by
 unfold skolemref01_Compare.f
 exact (Compare_l0 xs ys h64 k64 hb kb xs.length 0 (by omega) (by omega)).to (by simp)
end Go.Proofs.YtjecjaihficcdaaGreat.PEquivNext
namespace Go.Proofs.YtjecjaihficcdaaGreat
open Go.RowKit Go.Proofs.YtjecjaihficcdaaGreatW.PrintWords
theorem refCompare_any (xs ys : List Int) (v u : Value) (w : World) (h64 : All64 xs) (k64 : All64 ys) (hr : RI w v xs) (kr : RI w u ys) : Calls Tryz.prog 97 #[v, u] w fun e w' => e = .returned (.int .i64 (cmpL xs ys)) ∧ Ext w w' := by
 obtain ⟨K, hK⟩ := PEquivNext.Compare_f xs ys h64 k64 hr.max kr.max
 obtain ⟨A, c, rfl, h1, h2⟩ := hr.kd
 obtain ⟨B, d, rfl, k1, k2⟩ := kr.kd
 refine (PEquivNext.skolemref01_Compare.calls K A c xs B d ys _ w h2 h1 k2 k1 (hK K (Nat.le_refl _))).mono ?_
 rintro e w' ⟨rfl, hd⟩
 exact ⟨rfl, drawn_ext hd⟩
end Go.Proofs.YtjecjaihficcdaaGreat
