/- Walks and plain laws that this claim uses. -/
import Derived.Test.YtjecjaihficcdaaGreatHxI
import Derived.Test.YtjecjaihficcdaaGreatHxG
import Derived.Test.YtjecjaihficcdaaGreatHxA
import Derived.Deep.Cut
import Derived.Test.YtjecjaihficcdaaGreatHxB
import Derived.Test.YtjecjaihficcdaaGreatHxD
import Derived.Deep.CutRange
import Derived.Test.YtjecjaihficcdaaGreatHxC
namespace Go.Proofs.YtjecjaihficcdaaGreat
set_option maxRecDepth 100000 in
theorem aw_cl1 : RefClasses [[1, 2], [1, -2], [-1, 2], [-1, -2]] = [[-1, 1, -2, 2]] := by decide +kernel
set_option maxRecDepth 100000 in
theorem aw_cl2 : RefClasses [[1, 2], [1, -2]] = [] := by decide +kernel
set_option maxRecDepth 100000 in
theorem aw_cl3 : RefClasses [[1, 2], [-1, -2]] = [[1, -2]] := by decide +kernel
set_option maxRecDepth 100000 in
theorem aw_f1 : FailV [[1, 2], [1, -2], [-1, 2], [-1, -2]] = [-1, 1, -2, 2] := by decide +kernel
set_option maxRecDepth 100000 in
theorem aw_f2 : FailV [[1, 2], [1, -2]] = [-1] := by decide +kernel
set_option maxRecDepth 100000 in
theorem aw_r1 : ReachV [[1, 2], [-2, 3]] (-1) = [-1, 2, 3] := by decide +kernel
set_option maxRecDepth 100000 in
theorem aw_m1 : (MakeV ⟨[1], [(2, [1]), (3, [1])], [[-2, 3], [2, -3], [2, 3]]⟩ ⟨6, 2, 3, 0, 1⟩).2 = 0 ∧ (MakeV ⟨[1], [(2, [1]), (3, [1])], [[-2, 3], [2, -3], [2, 3]]⟩ ⟨6, 2, 3, 0, 1⟩).1.clauses = [[3]] ∧ (MakeV ⟨[1], [(2, [1]), (3, [1])], [[-2, 3], [2, -3], [2, 3]]⟩ ⟨6, 2, 3, 0, 1⟩).1.exist.length = 1 := by decide +kernel
set_option maxRecDepth 100000 in
theorem aw_n1 : (nextP ⟨[1], [(2, [1]), (3, [1])], [[-2, 3], [2, -3], [2, 3]]⟩).map (fun c => (c.kind, c.lit, c.tz, c.pos, c.other)) = some (6, 2, 3, 0, 1) := by decide +kernel
set_option maxRecDepth 100000 in
theorem aw_n2 : (nextP ⟨[1], [(2, [])], [[-1, 2], [1, -2]]⟩).isSome = false := by decide +kernel
end Go.Proofs.YtjecjaihficcdaaGreat
namespace Go.Proofs.YtjecjaihficcdaaGreat
open Go.RowKit
theorem Ext.step {a b : World} (o : Obj) (h : Ext a b) : Ext a (b.alloc o) := h.trans (Ext.alloc b o)
theorem st1 (w : World) (n : Nat) (hn : w.heap.size = n) (x : Int) : ∃ W : World, W = w.alloc (.cells #[.int .i64 x] 3) ∧ RI W (.slice (some ⟨n, 0, none⟩) 1 1) [x] ∧ Ext w W ∧ W.heap.size = n + 1 :=
 ⟨_, rfl, hn ▸ lit0 w [x] (by simp), Ext.alloc w _, by simp [hn]⟩
theorem st2 (w : World) (n : Nat) (hn : w.heap.size = n) (x y : Int) : ∃ W : World, W = w.alloc (.cells #[.int .i64 x, .int .i64 y] 3) ∧ RI W (.slice (some ⟨n, 0, none⟩) 2 2) [x, y] ∧ Ext w W ∧ W.heap.size = n + 1 :=
 ⟨_, rfl, hn ▸ lit0 w [x, y] (by simp), Ext.alloc w _, by simp [hn]⟩
theorem stL (w : World) (n : Nat) (hn : w.heap.size = n) (vs : List Value) (k : Nat) (f : List (List Int)) (hk : vs.length = k) (hl : vs.length = f.length) (hm : k ≤ 1000000) (h : ∀ j (h : j < vs.length) (h' : j < f.length), RI w vs[j] f[j]) :
 ∃ W : World, W = w.alloc (.cells vs.toArray 24) ∧ RLL W (.slice (some ⟨n, 0, none⟩) k k) f ∧ Ext w W ∧ W.heap.size = n + 1 :=
 ⟨_, rfl, hk ▸ hn ▸ rll_lit w vs f hl (hk ▸ hm) h, Ext.alloc w _, by simp [hn]⟩
theorem encX_at : ∀ (ps : List (Int × Value)) (j : Nat) (h : j < ps.length), (encX ps)[j * 2]? = some (.int .i64 ps[j].1) ∧ (encX ps)[j * 2 + 1]? = some ps[j].2 := by
 intro ps
 induction ps with
 | nil => intro j h; exact absurd h (Nat.not_lt_zero j)
 | cons p ps ih =>
   intro j h
   have e : encX (p :: ps) = .int .i64 p.1 :: p.2 :: encX ps := rfl
   cases j with
   | zero => rw [e]; exact ⟨rfl, rfl⟩
   | succ j =>
     have := ih j (by simpa using h)
     rw [e, show (j + 1) * 2 = j * 2 + 1 + 1 by omega]
     simp only [List.getElem?_cons_succ, List.getElem_cons_succ]
     exact this
theorem stX (w : World) (n : Nat) (hn : w.heap.size = n) (ps : List (Int × Value)) (k : Nat) (X : List (Int × List Int)) (hk : ps.length = k) (hl : ps.length = X.length) (hm : k ≤ 1000000) (h : ∀ j (h : j < ps.length) (h' : j < X.length), ps[j].1 = X[j].1 ∧ RI w ps[j].2 X[j].2) :
 ∃ W : World, W = w.alloc (.cells (encX ps).toArray 61) ∧ RX W (.slice (some ⟨n, 0, none⟩) k k) X ∧ Ext w W ∧ W.heap.size = n + 1 := by
 subst hn hk
 refine ⟨_, rfl, ⟨_, ps.length, ps.map Prod.snd, by rw [hl], by omega, by omega, by rw [List.length_map, hl], fun j hj hj' => ⟨_, rfl, ?_, ?_, ?_⟩⟩, Ext.alloc w _, by simp⟩
 · obtain ⟨q1, q2⟩ := encX_at ps j (by omega)
   rw [addr0, (Blk.new w 61 (encX ps)).cell, q1, (h j (by omega) hj).1]
 · obtain ⟨q1, q2⟩ := encX_at ps j (by omega)
   rw [addr0]
   show World.cell? _ ⟨w.heap.size, j * 2 + 1, none⟩ = _
   rw [(Blk.new w 61 (encX ps)).cell, q2, List.getElem_map]
 · rw [List.getElem_map]
   exact (h j (by omega) hj).2.ext (Ext.alloc w _)
def awD1 : DqV := ⟨[1], [(2, [1]), (3, [1])], [[-2, 3], [2, -3], [2, 3]]⟩
def awD2 : DqV := ⟨[1], [(2, [])], [[-1, 2], [1, -2]]⟩
def awF : List (List Int) := [[1, 2], [1, -2], [-1, 2], [-1, -2]]
theorem dok_of (d : DqV) (h1 : (d.univ.all fun x => decide (-9223372036854775808 ≤ x ∧ x ≤ 9223372036854775807)) = true) (h2 : (d.exist.all fun p => decide (-9223372036854775808 ≤ p.1 ∧ p.1 ≤ 9223372036854775807) && p.2.all fun x => decide (-9223372036854775808 ≤ x ∧ x ≤ 9223372036854775807)) = true)
 (h3 : (d.clauses.all fun xs => xs.all fun x => decide (-9223372036854775808 ≤ x ∧ x ≤ 9223372036854775807)) = true) (h4 : d.univ.length ≤ 1000000) (h5 : d.exist.length ≤ 1000000) (h6 : (d.exist.all fun p => decide (p.2.length ≤ 1000000)) = true) (h7 : d.clauses.length ≤ 1000000) (h8 : total d.clauses ≤ 1000000) : DOk d :=
 ⟨all64_of _ h1, fun x hx => by
  have := List.all_eq_true.1 h2 x hx
  rw [Bool.and_eq_true] at this
  have h9 := of_decide_eq_true this.1
  exact ⟨h9, all64_of _ this.2⟩, all64L_of _ h3, h4, h5, fun x hx => of_decide_eq_true (List.all_eq_true.1 h6 x hx), h7, h8⟩
theorem awD1_ok : DOk awD1 := dok_of _ (by decide) (by decide) (by decide) (by decide) (by decide) (by decide) (by decide) (by decide)
theorem awD2_ok : DOk awD2 := dok_of _ (by decide) (by decide) (by decide) (by decide) (by decide) (by decide) (by decide) (by decide)
theorem aw_next1 : nextP awD1 = some ⟨6, 2, 3, 0, 1⟩ := by
 have h := aw_n1
 change (nextP awD1).map _ = _ at h
 cases hn : nextP awD1 with
 | none => rw [hn] at h; cases h
 | some c =>
   rw [hn] at h
   simp only [Option.map_some, Option.some.injEq, Prod.mk.injEq] at h
   obtain ⟨h1, h2, h3, h4, h5⟩ := h
   obtain ⟨k, l, t, p, o⟩ := c
   simp only at h1 h2 h3 h4 h5
   rw [h1, h2, h3, h4, h5]
theorem aw_next2 : nextP awD2 = none := by
 have h := aw_n2
 change (nextP awD2).isSome = false at h
 cases hn : nextP awD2 with
 | none => rfl
 | some c => rw [hn] at h; cases h
theorem aw_new1 (w : World) : ∃ W : World, W = ((((((((w.alloc (.cells #[.int .i64 1] 3)).alloc (.cells #[.int .i64 1] 3)).alloc (.cells #[.int .i64 1] 3)).alloc
 (.cells #[.int .i64 2, .slice (some ⟨w.heap.size + 1, 0, none⟩) 1 1, .int .i64 3, .slice (some ⟨w.heap.size + 1 + 1, 0, none⟩) 1 1] 61)).alloc
 (.cells #[.int .i64 (-2), .int .i64 3] 3)).alloc (.cells #[.int .i64 2, .int .i64 (-3)] 3)).alloc (.cells #[.int .i64 2, .int .i64 3] 3)).alloc
 (.cells #[.slice (some ⟨w.heap.size + 1 + 1 + 1 + 1, 0, none⟩) 2 2, .slice (some ⟨w.heap.size + 1 + 1 + 1 + 1 + 1, 0, none⟩) 2 2, .slice (some ⟨w.heap.size + 1 + 1 + 1 + 1 + 1 + 1, 0, none⟩) 2 2] 24)).alloc
 (.cells #[.slice (some ⟨w.heap.size, 0, none⟩) 1 1, .slice (some ⟨w.heap.size + 1 + 1 + 1, 0, none⟩) 2 2, .slice (some ⟨w.heap.size + 1 + 1 + 1 + 1 + 1 + 1 + 1, 0, none⟩) 3 3] 27) ∧
 RD W (.slice (some ⟨w.heap.size, 0, none⟩) 1 1) (.slice (some ⟨w.heap.size + 1 + 1 + 1, 0, none⟩) 2 2) (.slice (some ⟨w.heap.size + 1 + 1 + 1 + 1 + 1 + 1 + 1, 0, none⟩) 3 3) awD1 ∧
 Blk W (w.heap.size + 1 + 1 + 1 + 1 + 1 + 1 + 1 + 1) 27 [.slice (some ⟨w.heap.size, 0, none⟩) 1 1, .slice (some ⟨w.heap.size + 1 + 1 + 1, 0, none⟩) 2 2, .slice (some ⟨w.heap.size + 1 + 1 + 1 + 1 + 1 + 1 + 1, 0, none⟩) 3 3] ∧ Ext w W := by
 obtain ⟨w1, h1, r1, e1, s1⟩ := st1 w _ rfl 1
 obtain ⟨w2, h2, r2, e2, s2⟩ := st1 w1 _ s1 1
 obtain ⟨w3, h3, r3, e3, s3⟩ := st1 w2 _ s2 1
 obtain ⟨w4, h4, r4, e4, s4⟩ := stX w3 _ s3 [(2, .slice (some ⟨w.heap.size + 1, 0, none⟩) 1 1), (3, .slice (some ⟨w.heap.size + 1 + 1, 0, none⟩) 1 1)] 2 [(2, [1]), (3, [1])] rfl rfl (by decide) fun j hj hj' => by
  match j, hj with
  | 0, _ => exact ⟨rfl, r2.ext e3⟩
  | 1, _ => exact ⟨rfl, r3⟩
 obtain ⟨w5, h5, r5, e5, s5⟩ := st2 w4 _ s4 (-2) 3
 obtain ⟨w6, h6, r6, e6, s6⟩ := st2 w5 _ s5 2 (-3)
 obtain ⟨w7, h7, r7, e7, s7⟩ := st2 w6 _ s6 2 3
 obtain ⟨w8, h8, r8, e8, s8⟩ := stL w7 _ s7 [.slice (some ⟨w.heap.size + 1 + 1 + 1 + 1, 0, none⟩) 2 2, .slice (some ⟨w.heap.size + 1 + 1 + 1 + 1 + 1, 0, none⟩) 2 2, .slice (some ⟨w.heap.size + 1 + 1 + 1 + 1 + 1 + 1, 0, none⟩) 2 2] 3 [[-2, 3], [2, -3], [2, 3]] rfl rfl (by decide) fun j hj hj' => by
  match j, hj with
  | 0, _ => exact r5.ext (e6.trans e7)
  | 1, _ => exact r6.ext e7
  | 2, _ => exact r7
 have e9 := Ext.alloc w8 (.cells #[.slice (some ⟨w.heap.size, 0, none⟩) 1 1, .slice (some ⟨w.heap.size + 1 + 1 + 1, 0, none⟩) 2 2, .slice (some ⟨w.heap.size + 1 + 1 + 1 + 1 + 1 + 1 + 1, 0, none⟩) 3 3] 27)
 have e59 := ((((e5.trans e6).trans e7).trans e8).trans e9)
 have e29 := ((e2.trans e3).trans e4).trans e59
 refine ⟨_, ?_, ⟨r1.ext e29, r4.ext e59, RLL.ext' r8 e9⟩, ?_, e1.trans e29⟩
 · rw [h8, h7, h6, h5, h4, h3, h2, h1]; rfl
 · exact Blk.new' (by rw [s8])
theorem aw_new2 (w : World) : ∃ W : World, W = ((((w.alloc (.cells #[.int .i64 1] 3)).alloc (.cells #[.int .i64 2, .slice none 0 0] 61)).alloc
 (.cells #[.int .i64 (-1), .int .i64 2] 3)).alloc (.cells #[.int .i64 1, .int .i64 (-2)] 3)).alloc
 (.cells #[.slice (some ⟨w.heap.size + 1 + 1, 0, none⟩) 2 2, .slice (some ⟨w.heap.size + 1 + 1 + 1, 0, none⟩) 2 2] 24) ∧
 RD W (.slice (some ⟨w.heap.size, 0, none⟩) 1 1) (.slice (some ⟨w.heap.size + 1, 0, none⟩) 1 1) (.slice (some ⟨w.heap.size + 1 + 1 + 1 + 1, 0, none⟩) 2 2) awD2 ∧ Ext w W := by
 obtain ⟨w1, h1, r1, e1, s1⟩ := st1 w _ rfl 1
 obtain ⟨w2, h2, r2, e2, s2⟩ := stX w1 _ s1 [(2, .slice none 0 0)] 1 [(2, [])] rfl rfl (by decide) fun j hj hj' => by
  match j, hj with
  | 0, _ => exact ⟨rfl, RI.none _⟩
 obtain ⟨w3, h3, r3, e3, s3⟩ := st2 w2 _ s2 (-1) 2
 obtain ⟨w4, h4, r4, e4, s4⟩ := st2 w3 _ s3 1 (-2)
 obtain ⟨w5, h5, r5, e5, s5⟩ := stL w4 _ s4 [.slice (some ⟨w.heap.size + 1 + 1, 0, none⟩) 2 2, .slice (some ⟨w.heap.size + 1 + 1 + 1, 0, none⟩) 2 2] 2 [[-1, 2], [1, -2]] rfl rfl (by decide) fun j hj hj' => by
  match j, hj with
  | 0, _ => exact r3.ext e4
  | 1, _ => exact r4
 refine ⟨_, ?_, ⟨r1.ext (e2.trans (e3.trans (e4.trans e5))), r2.ext (e3.trans (e4.trans e5)), r5⟩, e1.trans (e2.trans (e3.trans (e4.trans e5)))⟩
 rw [h5, h4, h3, h2, h1]; rfl
theorem aw_new3 (w : World) : ∃ W : World, W = ((((w.alloc (.cells #[.int .i64 1, .int .i64 2] 3)).alloc (.cells #[.int .i64 1, .int .i64 (-2)] 3)).alloc
 (.cells #[.int .i64 (-1), .int .i64 2] 3)).alloc (.cells #[.int .i64 (-1), .int .i64 (-2)] 3)).alloc
 (.cells #[.slice (some ⟨w.heap.size, 0, none⟩) 2 2, .slice (some ⟨w.heap.size + 1, 0, none⟩) 2 2, .slice (some ⟨w.heap.size + 1 + 1, 0, none⟩) 2 2, .slice (some ⟨w.heap.size + 1 + 1 + 1, 0, none⟩) 2 2] 24) ∧
 RLL W (.slice (some ⟨w.heap.size + 1 + 1 + 1 + 1, 0, none⟩) 4 4) awF ∧ Ext w W := by
 obtain ⟨w1, h1, r1, e1, s1⟩ := st2 w _ rfl 1 2
 obtain ⟨w2, h2, r2, e2, s2⟩ := st2 w1 _ s1 1 (-2)
 obtain ⟨w3, h3, r3, e3, s3⟩ := st2 w2 _ s2 (-1) 2
 obtain ⟨w4, h4, r4, e4, s4⟩ := st2 w3 _ s3 (-1) (-2)
 obtain ⟨w5, h5, r5, e5, s5⟩ := stL w4 _ s4 [.slice (some ⟨w.heap.size, 0, none⟩) 2 2, .slice (some ⟨w.heap.size + 1, 0, none⟩) 2 2, .slice (some ⟨w.heap.size + 1 + 1, 0, none⟩) 2 2, .slice (some ⟨w.heap.size + 1 + 1 + 1, 0, none⟩) 2 2] 4 awF rfl rfl (by decide) fun j hj hj' => by
  match j, hj with
  | 0, _ => exact r1.ext (e2.trans (e3.trans e4))
  | 1, _ => exact r2.ext (e3.trans e4)
  | 2, _ => exact r3.ext e4
  | 3, _ => exact r4
 refine ⟨_, ?_, r5, e1.trans (e2.trans (e3.trans (e4.trans e5)))⟩
 rw [h5, h4, h3, h2, h1]
theorem RLL.take {w : World} {A : Option Addr} {n c : Nat} {f : List (List Int)} (h : RLL w (.slice A n c) f) (k : Nat) (hk : k ≤ f.length) : RLL w (.slice A k c) (f.take k) := by
 obtain ⟨A', c', vs, e, h1, h2, h3, h4, h5⟩ := h
 injection e with e1 e2 e3
 subst e1 e3
 refine ⟨A, c, vs.take k, by rw [List.length_take]; congr 1; omega, by rw [List.length_take]; omega, by rw [List.length_take]; omega, fun j hj => ?_, by rw [List.length_take, List.length_take]; omega, fun j hj hj' => ?_⟩
 · rw [List.length_take] at hj
   obtain ⟨ad, h6, h7⟩ := h3 j (by omega)
   exact ⟨ad, h6, by rw [h7, List.getElem_take]⟩
 · simp only [List.getElem_take]
   rw [List.length_take] at hj hj'
   exact h5 j (by omega) (by omega)
end Go.Proofs.YtjecjaihficcdaaGreat
namespace Go.Proofs.YtjecjaihficcdaaGreat
open Go.RowKit
set_option maxHeartbeats 2000000 in
theorem Same_q (xs ys : List Int) (v u : Value) (w : World) (hr : RI w v xs) (kr : RI w u ys) :
 Calls Tryz.prog 11 #[v, u] w fun e w' => e = .returned (.bool (decide (xs = ys))) ∧ ∃ n, w' = w.drewN n := by
 have HR := Lib.hid hr
 have KR := Lib.hid kr
 obtain ⟨A, c, rfl, h1, h2, h3⟩ := hr
 obtain ⟨B, d, rfl, k1, k2, k3⟩ := kr
 clear h3 k3
 by_cases hl : xs.length = ys.length
 · obtain ⟨m, hm⟩ : ∃ m, m = ys.length := ⟨_, rfl⟩
   have HM := Lib.hid hm
   rw [← hm] at hl k1 k2 KR ⊢
   rw [hl] at HR h1 h2 ⊢
   have HL := Lib.hid hl
   clear hl hm
   have hnm : ((m : Int) != (m : Int)) = false := by simp
   go_enter Tryz.func11, Tryz.ntmps11
   go_wp2
   go_loopg [5] m (fun gn i wr => ∃ k : Nat, k ≤ m ∧ gn + k = m ∧ i = .int .i64 k ∧ Hid ((∃ n, wr = w.drewN n) ∧ xs.take k = ys.take k))
   case atStart => exact ⟨0, Nat.zero_le _, by omega, rfl, ⟨0, rfl⟩, by simp⟩
   case round =>
    obtain ⟨k, hk, hgk, rfl, HI⟩ := hrel
    obtain ⟨wk, rfl⟩ : ∃ wk : World, wk = wr := ⟨_, rfl⟩
    have HE : Hid (Ext w wk) := Lib.hid (by obtain ⟨n, e⟩ := HI.out.1; rw [e]; exact Ext.drewN _ _)
    by_cases hlt : k < m
    · have hlx : k < xs.length := by have := HL.out; omega
      have hly : k < ys.length := by have := HM.out; omega
      obtain ⟨ad, rfl, hx0⟩ := (HR.out.ext HE.out).row.2.2.2.int k hlx
      obtain ⟨bd, rfl, hy0⟩ := (KR.out.ext HE.out).row.2.2.2.int k hly
      have hsx := List.take_succ_eq_append_getElem hlx
      have hsy := List.take_succ_eq_append_getElem hly
      obtain ⟨x, hx⟩ : ∃ x, x = xs[k] := ⟨_, rfl⟩
      obtain ⟨y, hy⟩ : ∃ y, y = ys[k] := ⟨_, rfl⟩
      rw [← hx] at hx0 hsx
      rw [← hy] at hy0 hsy
      have HSX := Lib.hid hsx
      have HSY := Lib.hid hsy
      clear hx hy hsx hsy hlx hly
      by_cases hxy : x = y
      · subst hxy
        have hxx : (x != x) = false := by simp
        go_wp2
        go_quiet (fail)
        go_wp2
        go_roundg (m - (k + 1))
        case measure => omega
        case rel =>
         refine ⟨k + 1, by omega, by omega, by go_num, ?_, by rw [HSX.out, HSY.out, HI.out.2]⟩
         obtain ⟨n, e⟩ := HI.out.1
         exact ⟨_, by rw [e, drewN_two]⟩
      · have hxx : (x != y) = true := by simpa using hxy
        have HXY := Lib.hid hxy
        clear hxy
        go_wp2
        go_quiet (fail)
        go_wp2
        go_ret
        refine ⟨ret_bool ?_, ?_⟩
        · symm
          rw [decide_eq_false_iff_not]
          intro e
          have h5 := congrArg (List.take (k + 1)) e
          rw [HSX.out, HSY.out, HI.out.2] at h5
          exact HXY.out (by simpa using h5)
        · obtain ⟨n, e⟩ := HI.out.1
          exact ⟨_, by rw [e, drewN_two]⟩
    · obtain rfl : k = m := by omega
      go_wp2
      go_ret
      refine ⟨ret_bool ?_, HI.out.1⟩
      symm
      rw [decide_eq_true_eq]
      have h5 := HI.out.2
      rwa [List.take_of_length_le (by have := HL.out; omega), List.take_of_length_le (by have := HM.out; omega)] at h5
 · have hnb : ((xs.length : Int) != (ys.length : Int)) = true := by simp; omega
   have HL := Lib.hid hl
   clear hl
   go_enter Tryz.func11, Tryz.ntmps11
   go_wp2
   go_ret
   refine ⟨ret_bool ?_, 0, rfl⟩
   symm
   rw [decide_eq_false_iff_not]
   intro e
   exact HL.out (by rw [e])
theorem Same_any (xs ys : List Int) (v u : Value) (w : World) (hr : RI w v xs) (kr : RI w u ys) : Calls Tryz.prog 11 #[v, u] w fun e w' => e = .returned (.bool (decide (xs = ys))) ∧ Ext w w' :=
 (Same_q xs ys v u w hr kr).mono fun _ _ ⟨h, n, e⟩ => ⟨h, e ▸ Ext.drewN w n⟩
theorem Same_refl (r : List Int) (v u : Value) (w : World) (hr : RI w v r) (kr : RI w u r) : Calls Tryz.prog 11 #[v, u] w fun e w' => e = .returned (.bool true) ∧ Ext w w' := by
 have := Same_any r r v u w hr kr
 rw [decide_eq_true rfl] at this
 exact this
set_option maxHeartbeats 2000000 in
theorem SameAll_any (xs ys : List (List Int)) (v u : Value) (w : World) (hr : RLL w v xs) (kr : RLL w u ys) :
 Calls Tryz.prog 16 #[v, u] w fun e w' => e = .returned (.bool (decide (xs = ys))) ∧ Ext w w' := by
 obtain ⟨A, c, vs, rfl, h1, h2, h3, h4, h5⟩ := hr
 obtain ⟨B, d, us, rfl, k1, k2, k3, k4, k5⟩ := kr
 have H3 := Lib.hid h3
 have H4 := Lib.hid h4
 have H5 := Lib.hid h5
 have K3 := Lib.hid k3
 have K4 := Lib.hid k4
 have K5 := Lib.hid k5
 clear h3 h4 h5 k3 k4 k5
 by_cases hl : vs.length = us.length
 · obtain ⟨m, hm⟩ : ∃ m, m = us.length := ⟨_, rfl⟩
   have HM := Lib.hid hm
   rw [← hm] at hl k1 k2 ⊢
   rw [hl] at h1 h2 ⊢
   have HL := Lib.hid hl
   clear hl hm
   have hnm : ((m : Int) != (m : Int)) = false := by simp
   go_enter Tryz.func16, Tryz.ntmps16
   go_wp2
   go_loopg [5] m (fun gn i wr => ∃ k : Nat, k ≤ m ∧ gn + k = m ∧ i = .int .i64 k ∧ Hid (Ext w wr ∧ xs.take k = ys.take k))
   case atStart => exact ⟨0, Nat.zero_le _, by omega, rfl, Ext.refl _, by simp⟩
   case round =>
    obtain ⟨k, hk, hgk, rfl, HI⟩ := hrel
    obtain ⟨wk, rfl⟩ : ∃ wk : World, wk = wr := ⟨_, rfl⟩
    by_cases hlt : k < m
    · have hlv : k < vs.length := by have := HL.out; omega
      have hlu : k < us.length := by have := HM.out; omega
      have hlx : k < xs.length := by have := H4.out; omega
      have hly : k < ys.length := by have := K4.out; omega
      obtain ⟨ad, rfl, hx0⟩ := (H3.out.ext HI.out.1) k hlv
      obtain ⟨bd, rfl, hy0⟩ := (K3.out.ext HI.out.1) k hlu
      have hsx := List.take_succ_eq_append_getElem hlx
      have hsy := List.take_succ_eq_append_getElem hly
      have hcl : ∀ n, Calls Tryz.prog 11 #[vs[k], us[k]] (wk.drewN n) fun e w' => e = .returned (.bool (decide (xs[k] = ys[k]))) ∧ ∃ q, w' = wk.drewN q := fun n => by
       have e0 : Ext w (wk.drewN n) := HI.out.1.trans (Ext.drewN _ _)
       refine (Same_q xs[k] ys[k] vs[k] us[k] _ ((H5.out k hlv hlx).ext e0) ((K5.out k hlu hly).ext e0)).mono ?_
       rintro e w' ⟨he, q, rfl⟩
       exact ⟨he, n + q, drewN_two _ _ _⟩
      obtain ⟨E, ce, he, -⟩ := H5.out k hlv hlx
      obtain ⟨D, de, hd, -⟩ := K5.out k hlu hly
      obtain ⟨x, hx⟩ : ∃ x, x = xs[k] := ⟨_, rfl⟩
      obtain ⟨y, hy⟩ : ∃ y, y = ys[k] := ⟨_, rfl⟩
      rw [he] at hx0 hcl
      rw [hd] at hy0 hcl
      rw [← hx] at hsx hx0 hcl
      rw [← hy] at hsy hy0 hcl
      have HSX := Lib.hid hsx
      have HSY := Lib.hid hsy
      obtain ⟨a, ha⟩ : ∃ a, a = x.length := ⟨_, rfl⟩
      obtain ⟨b, hb⟩ : ∃ b, b = y.length := ⟨_, rfl⟩
      rw [← ha] at hx0 hcl
      rw [← hb] at hy0 hcl
      clear hx hy hsx hsy hlx hly hlv hlu he hd ha hb
      by_cases hxy : x = y
      · rw [decide_eq_true hxy] at hcl
        have HXY := Lib.hid hxy
        have HCL := Lib.hid hcl
        clear hxy hcl
        go_wp2
        go_quiet ((go_at_call 11; exact HCL.out _))
        go_wp2
        go_roundg (m - (k + 1))
        case measure => omega
        case rel => exact ⟨k + 1, by omega, by omega, by go_num, HI.out.1.trans (Ext.drewN _ _), by rw [HSX.out, HSY.out, HI.out.2, HXY.out]⟩
      · rw [decide_eq_false hxy] at hcl
        have HXY := Lib.hid hxy
        have HCL := Lib.hid hcl
        clear hxy hcl
        go_wp2
        go_quiet ((go_at_call 11; exact HCL.out _))
        go_wp2
        go_ret
        refine ⟨ret_bool ?_, HI.out.1.trans (Ext.drewN _ _)⟩
        symm
        rw [decide_eq_false_iff_not]
        intro e
        have h5 := congrArg (List.take (k + 1)) e
        rw [HSX.out, HSY.out, HI.out.2] at h5
        exact HXY.out (by simpa using h5)
    · obtain rfl : k = m := by omega
      go_wp2
      go_ret
      refine ⟨ret_bool ?_, HI.out.1⟩
      symm
      rw [decide_eq_true_eq]
      have h5 := HI.out.2
      rwa [List.take_of_length_le (by have := HL.out; have := H4.out; omega), List.take_of_length_le (by have := HM.out; have := K4.out; omega)] at h5
 · have hnb : ((vs.length : Int) != (us.length : Int)) = true := by simp; omega
   have HL := Lib.hid hl
   clear hl
   go_enter Tryz.func16, Tryz.ntmps16
   go_wp2
   go_ret
   refine ⟨ret_bool ?_, Ext.refl _⟩
   symm
   rw [decide_eq_false_iff_not]
   intro e
   exact HL.out (by have := H4.out; have := K4.out; have := congrArg List.length e; omega)
end Go.Proofs.YtjecjaihficcdaaGreat
namespace Go.Proofs.YtjecjaihficcdaaGreat
open Go.RowKit
theorem aw_class (f L : List (List Int)) (u : Value) (w : World) (kr : RLL w u f) (h64 : All64L f) (hm : mayCnfB f = true) (ht : total f ≤ 1000000) (hL : RefClasses f = L) :
 Calls Tryz.prog 17 #[u] w fun e w' => ∃ v, e = .returned v ∧ RLL w' v L ∧ Ext w w' := by
 refine (classes_any f u w kr h64 (fun _ => by omega)).mono ?_
 rintro e w' ⟨v, L', rfl, hr, hE, -, hc⟩
 rw [classes_ref hm (hc hm), hL] at hr
 exact ⟨v, rfl, hr, hE⟩
theorem SameAll_refl (f : List (List Int)) (v u : Value) (w : World) (hr : RLL w v f) (kr : RLL w u f) : Calls Tryz.prog 16 #[v, u] w fun e w' => e = .returned (.bool true) ∧ Ext w w' := by
 have := SameAll_any f f v u w hr kr
 rwa [decide_eq_true rfl] at this
theorem RLL.nil_form {w : World} {v : Value} (h : RLL w v []) : ∃ A c, v = .slice A 0 c := by
 obtain ⟨A, c, vs, rfl, -, -, -, hl, -⟩ := h
 exact ⟨A, c, by rw [show vs.length = 0 from hl]⟩
theorem aw_fail (f : List (List Int)) (xs : List Int) (u : Value) (w : World) (kr : RLL w u f) (h64 : All64L f) (ht : total f ≤ 1000000) (hL : FailV f = xs) :
 Calls Tryz.prog 14 #[u] w fun e w' => ∃ v, e = .returned v ∧ RI w' v xs ∧ Ext w w' := by
 refine (Failed_any f u w h64 kr (fun _ => by omega)).mono ?_
 rintro e w' ⟨v, rfl, hr, hE⟩
 rw [hL] at hr
 exact ⟨v, rfl, hr.reads, hE⟩
set_option maxRecDepth 100000 in
set_option maxHeartbeats 20000000 in
theorem awake_any (w : World) : Calls Tryz.prog 10 #[] w fun e w' => e = .returned (.bool true) ∧ Ext w w' := by
 obtain ⟨w1, h1, hRD1, hB1, hE1⟩ := aw_new1 w
 have HRD1 := Lib.hid hRD1
 have HB1 := Lib.hid hB1
 have HE1 := Lib.hid hE1
 go_enter Tryz.func10, Tryz.ntmps10
 go_upto_region 2 with fail
 rw [← h1]
 have d0 := hB1.cell 0
 have d1 := hB1.cell 1
 have d2 := hB1.cell 2
 simp only [List.getElem?_cons_zero, List.getElem?_cons_succ] at d0 d1 d2
 clear h1 hRD1 hB1 hE1
 generalize w.heap.size = b at HRD1 HB1 d0 d1 d2 ⊢
 generalize hb8 : b + 1 + 1 + 1 + 1 + 1 + 1 + 1 + 1 = b8 at HB1 d0 d1 d2 ⊢
 generalize Value.slice (some ⟨b, 0, none⟩) 1 1 = vu at *
 generalize Value.slice (some ⟨b + 1 + 1 + 1, 0, none⟩) 2 2 = vx at *
 generalize Value.slice (some ⟨b + 1 + 1 + 1 + 1 + 1 + 1 + 1, 0, none⟩) 3 3 = vc at *
 have HN : Hid (∀ w', Ext w1 w' → Calls Tryz.prog 19 #[.agg #[vu, vx, vc]] w' fun e w'' => e = .returned (.tuple #[.agg #[.int .u8 6, .int .i64 2, .int .i64 3, .int .i64 0, .int .i64 1], .bool true]) ∧ Ext w' w'') := Lib.hid (fun w' h => by
  have := Next_any awD1 _ _ _ w' (HRD1.out.ext h) awD1_ok
  rw [aw_next1] at this
  exact this)
 have HMK : Hid (∀ w', Ext w1 w' → Calls Tryz.prog 21 #[.agg #[vu, vx, vc], .agg #[.int .u8 6, .int .i64 2, .int .i64 3, .int .i64 0, .int .i64 1]] w' (PostMake w' (MakeV awD1 ⟨6, 2, 3, 0, 1⟩))) := Lib.hid (fun w' h => Make_any awD1 ⟨6, 2, 3, 0, 1⟩ _ _ _ w' (HRD1.out.ext h) awD1_ok ⟨by show I64 2; unfold I64; omega, by show I64 3; unfold I64; omega, by show I64 0; unfold I64; omega, by show I64 1; unfold I64; omega⟩)
 clear hb8
 go_upto_region 3 with (go_at_call 19; refine (HN.out _ (Ext.refl _)).mono ?_; rintro e w2 ⟨rfl, hE⟩; have HE2 := Lib.hid hE; clear hE)
 have e3 := Ext.alloc w2 (.cells #[.int .u8 6, .int .i64 2, .int .i64 3, .int .i64 0, .int .i64 1] 37)
 have B3 := Blk.new w2 37 [.int .u8 6, .int .i64 2, .int .i64 3, .int .i64 0, .int .i64 1]
 have HB3 := Lib.hid B3
 have HE3 := Lib.hid (HE2.out.trans e3)
 have hbD := (HE3.out.chg (fun _ => False)).blk HB1.out id
 have f0 := hbD.cell 0
 have f1 := hbD.cell 1
 have f2 := hbD.cell 2
 have k0 := B3.cell 0
 have k1 := B3.cell 1
 have k2 := B3.cell 2
 have k3 := B3.cell 3
 have k4 := B3.cell 4
 simp only [List.getElem?_cons_zero, List.getElem?_cons_succ] at f0 f1 f2 k0 k1 k2 k3 k4
 clear e3 B3 hbD d0 d1 d2
 generalize w2.heap.size = b3 at HB3 k0 k1 k2 k3 k4 ⊢
 generalize w2.alloc _ = w3 at HB3 HE3 f0 f1 f2 k0 k1 k2 k3 k4 ⊢
 obtain ⟨hm2, hmc, hml⟩ := aw_m1
 change (MakeV awD1 _).2 = 0 at hm2
 change (MakeV awD1 _).1.clauses = _ at hmc
 change (MakeV awD1 _).1.exist.length = 1 at hml
 generalize MakeV awD1 ⟨6, 2, 3, 0, 1⟩ = MV at HMK hm2 hmc hml
 obtain ⟨MD, ME⟩ := MV
 simp only at hm2 hmc hml
 subst hm2
 go_upto_region 4 with (go_at_call 21; refine (HMK.out _ HE3.out).mono ?_; rintro e w4 ⟨mu, mx, mc, rfl, hr, hE⟩; obtain ⟨uA, uN, uC, rfl⟩ := slice_of hr.u; obtain ⟨xA, xC, rfl⟩ : ∃ A c, mx = .slice A 1 c := (by obtain ⟨A, c, us, h, -⟩ := hr.x; exact ⟨A, c, by rw [h, hml]⟩); obtain ⟨cA, cN, cC, rfl⟩ : ∃ A n c, mc = .slice A n c := (by obtain ⟨A, c, us, h, -⟩ := hr.c; exact ⟨A, _, c, h⟩); have HE4 := Lib.hid hE; have HMX := Lib.hid hr.x; have HMC := Lib.hid hr.c; rw [hmc] at HMC; clear hE hr)
 have e5 := Ext.alloc w4 (.cells #[.slice uA uN uC, .slice xA 1 xC, .slice cA cN cC] 27)
 have HB5 := Lib.hid (Blk.new w4 27 [.slice uA uN uC, .slice xA 1 xC, .slice cA cN cC])
 have HE5 := Lib.hid (HE4.out.trans e5)
 have HEA := Lib.hid (HE1.out.trans (HE3.out.trans HE5.out))
 have HMX5 := Lib.hid (HMX.out.ext e5)
 have HMC5 := Lib.hid (RLL.ext' HMC.out e5)
 have hbC := (HE5.out.chg (fun _ => False)).blk HB3.out id
 have HBC := Lib.hid hbC
 clear e5 hbC k0 k1 k2 k3 k4 f0 f1 f2 HMX HMC hmc HE4
 generalize w4.heap.size = b5 at HB5 ⊢
 generalize w4.alloc _ = w5 at HB5 HE5 HEA HMX5 HMC5 HBC ⊢
 clear HE5 HE3 HE2 HMK HN HB1 HB3 HE1 HRD1
 obtain ⟨w6, h6, hRD6, hE6⟩ := aw_new2 w5
 have HN2 : Hid (∀ w', Ext w6 w' → Calls Tryz.prog 19 #[.agg #[.slice (some ⟨w5.heap.size, 0, none⟩) 1 1, .slice (some ⟨w5.heap.size + 1, 0, none⟩) 1 1, .slice (some ⟨w5.heap.size + 1 + 1 + 1 + 1, 0, none⟩) 2 2]] w' fun e w'' => e = .returned (.tuple #[.agg #[.int .u8 0, .int .i64 0, .int .i64 0, .int .i64 0, .int .i64 0], .bool false]) ∧ Ext w' w'') := Lib.hid (fun w' h => by
  have := Next_any awD2 _ _ _ w' (hRD6.ext h) awD2_ok
  rw [aw_next2] at this
  exact this)
 have HE6 := Lib.hid hE6
 have H6 := Lib.hid h6
 clear hRD6 hE6 h6
 go_upto_region 5 with (go_at_call 19; rw [← H6.out]; refine (HN2.out _ (Ext.refl _)).mono ?_; rintro e w7 ⟨rfl, hE⟩; have HE7 := Lib.hid hE; clear hE)
 have HE8 := Lib.hid (HE6.out.trans (HE7.out.trans (Ext.alloc w7 (.cells #[.int .u8 0, .int .i64 0, .int .i64 0, .int .i64 0, .int .i64 0] 37))))
 generalize w7.alloc _ = w8 at HE8 ⊢
 clear H6 HN2 HE7 HE6
 go_upto_region 6 with fail
 obtain ⟨w9, h9, hF, hE9⟩ := aw_new3 w8
 rw [← h9]
 have HF := Lib.hid hF
 have HE59 := Lib.hid (HE8.out.trans hE9)
 generalize w8.heap.size = b9 at HF ⊢
 clear h9 hF hE9 HE8
 have hb3 := (HE59.out.chg (fun _ => False)).blk HBC.out id
 have hb5 := (HE59.out.chg (fun _ => False)).blk HB5.out id
 have HB59 := Lib.hid hb5
 have k0 := hb3.cell 0
 have k1 := hb3.cell 1
 have k2 := hb3.cell 2
 have k3 := hb3.cell 3
 have k4 := hb3.cell 4
 have m2 := hb5.cell 2
 simp only [List.getElem?_cons_zero, List.getElem?_cons_succ] at k0 k1 k2 k3 k4 m2
 have HM9 := Lib.hid (RLL.ext' HMC5.out HE59.out)
 have HE9 := Lib.hid (HEA.out.trans HE59.out)
 clear hb3 hb5 HBC HB5 HMC5 HMX5 HEA HE59
 go_upto_region 7 with (go_at_call 16; refine (SameAll_refl [[3]] _ _ _ (RLL.ext' HM9.out ((Ext.alloc _ _).trans (Ext.alloc _ _))) (lit1 w9 [3] (by decide))).mono ?_; rintro e w10 ⟨rfl, hE⟩; have HE910 := Lib.hid (((Ext.alloc _ _).trans (Ext.alloc _ _)).trans hE); have m1 := ((HE910.out.chg (fun _ => False)).blk HB59.out id).cell 1; simp only [List.getElem?_cons_zero, List.getElem?_cons_succ] at m1; clear hE)
 clear k0 k1 k2 k3 k4 m1 m2 HM9 HB59
 have HF10 := Lib.hid (RLL.ext' HF.out HE910.out)
 have HF2 : Hid (RLL w10 (.slice (some ⟨b9 + 1 + 1 + 1 + 1, 0, none⟩) 2 4) [[1, 2], [1, -2]]) := Lib.hid (RLL.take HF10.out 2 (by decide))
 have HE10 := Lib.hid (HE9.out.trans HE910.out)
 have hsl := slice_to Tryz.underlying22 info_ints (some ⟨b9 + 1 + 1 + 1 + 1, 0, none⟩) 4 4 2 (by omega)
 clear HF HE9 HE910
 go_upto_region 8 with (go_at_call 17; refine (aw_class awF _ _ _ HF10.out (all64L_of _ (by decide)) (by decide +kernel) (by decide) aw_cl1).mono ?_; rintro e w11 ⟨v11, rfl, hr, hE⟩; have HR11 := Lib.hid hr; have HE11 := Lib.hid hE; clear hr hE)
 go_upto_region 8 with (go_at_call 16; refine (SameAll_refl [[-1, 1, -2, 2]] _ _ _ (RLL.ext' HR11.out ((Ext.alloc _ _).trans (Ext.alloc _ _))) (lit1 w11 [-1, 1, -2, 2] (by decide))).mono ?_; rintro e w12 ⟨rfl, hE⟩; have HE12 := Lib.hid (HE11.out.trans (((Ext.alloc _ _).trans (Ext.alloc _ _)).trans hE)); clear hE HE11)
 go_upto_region 8 with (go_at_call 14; refine (aw_fail awF _ _ _ (RLL.ext' HF10.out HE12.out) (all64L_of _ (by decide)) (by decide) aw_f1).mono ?_; rintro e w13 ⟨v13, rfl, hr, hE⟩; have HR13 := Lib.hid hr; have HE13 := Lib.hid (HE12.out.trans hE); clear hr hE HE12)
 go_upto_region 8 with (go_at_call 11; refine (Same_refl [-1, 1, -2, 2] _ _ _ (HR13.out.ext (Ext.alloc _ _)) (lit0 w13 [-1, 1, -2, 2] (by decide))).mono ?_; rintro e w14 ⟨rfl, hE⟩; have HE14 := Lib.hid (HE13.out.trans ((Ext.alloc _ _).trans hE)); clear hE HE13)
 go_upto_region 8 with (go_at_call 14; refine (aw_fail [[1, 2], [1, -2]] _ _ _ (RLL.ext' HF2.out HE14.out) (all64L_of _ (by decide)) (by decide) aw_f2).mono ?_; rintro e w15 ⟨v15, rfl, hr, hE⟩; have HR15 := Lib.hid hr; have HE15 := Lib.hid (HE14.out.trans hE); clear hr hE HE14)
 go_upto_region 8 with (go_at_call 11; refine (Same_refl [-1] _ _ _ (HR15.out.ext (Ext.alloc _ _)) (lit0 w15 [-1] (by decide))).mono ?_; rintro e w16 ⟨rfl, hE⟩; have HE16 := Lib.hid (HE15.out.trans ((Ext.alloc _ _).trans hE)); clear hE HE15)
 go_upto_region 8 with (go_at_call 17; refine (aw_class [[1, 2], [1, -2]] _ _ _ (RLL.ext' HF2.out HE16.out) (all64L_of _ (by decide)) (by decide +kernel) (by decide) aw_cl2).mono ?_; rintro e w17 ⟨v17, rfl, hr, hE⟩; obtain ⟨A17, c17, rfl⟩ := RLL.nil_form hr; have HE17 := Lib.hid (HE16.out.trans hE); clear hr hE HE16)
 have HEB := Lib.hid (HE10.out.trans HE17.out)
 clear HE10 HE17 HF10 HF2 hsl
 go_wp2_with (go_at_call 17; refine (aw_class [[1, 2], [-1, -2]] _ _ _ (lit2 w17 [1, 2] [-1, -2] (by decide) (by decide)) (all64L_of _ (by decide)) (by decide +kernel) (by decide) aw_cl3).mono ?_; rintro e w18 ⟨v18, rfl, hr, hE⟩; have HR18 := Lib.hid hr; have HE18 := Lib.hid (HEB.out.trans ((((Ext.alloc _ _).trans (Ext.alloc _ _)).trans (Ext.alloc _ _)).trans hE)); clear hr hE)
 go_wp2_with (go_at_call 16; refine (SameAll_refl [[1, -2]] _ _ _ (RLL.ext' HR18.out ((Ext.alloc _ _).trans (Ext.alloc _ _))) (lit1 w18 [1, -2] (by decide))).mono ?_; rintro e w19 ⟨rfl, hE⟩; have HE19 := Lib.hid (HE18.out.trans (((Ext.alloc _ _).trans (Ext.alloc _ _)).trans hE)); clear hE)
 go_wp2_with (go_at_call 12; refine (Reaches_any [[1, 2], [-2, 3]] (-1) _ _ (by unfold I64; omega) (all64L_of _ (by decide)) (lit2 w19 [1, 2] [-2, 3] (by decide) (by decide)) (fun _ => by decide)).mono ?_; rintro e w20 ⟨v20, rfl, hr, hE⟩; rw [aw_r1] at hr; have HR20 := Lib.hid hr.reads; have HE20 := Lib.hid (HE19.out.trans ((((Ext.alloc _ _).trans (Ext.alloc _ _)).trans (Ext.alloc _ _)).trans hE)); clear hr hE)
 go_wp2_with (go_at_call 11; refine (Same_refl [-1, 2, 3] _ _ _ (HR20.out.ext (Ext.alloc _ _)) (lit0 w20 [-1, 2, 3] (by decide))).mono ?_; rintro e w21 ⟨rfl, hE⟩; have HE21 := Lib.hid (HE20.out.trans ((Ext.alloc _ _).trans hE)); clear hE)
 go_ret
 exact ⟨rfl, HE21.out⟩
end Go.Proofs.YtjecjaihficcdaaGreat
namespace Go.Proofs.YtjecjaihficcdaaGreat
open Go.RowKit
theorem own_blk {w : World} {base : Nat} {e : TypeId} {v : Value} {vs : List Value} (h : w.ownsRow base e 1 v vs.length vs) (h0 : 0 < vs.length) :
 ∃ g c cur, v = .slice (some ⟨g, 0, none⟩) vs.length c ∧ base ≤ g ∧ Blk w g e cur ∧ vs.length ≤ c ∧ c ≤ maxLen ∧ cur.length = c ∧ cur.take vs.length = vs := by
 obtain ⟨-, ⟨-, h⟩ | ⟨g, c, cur, h1, h2, h3, h4, h5, h6, h7⟩⟩ := h
 · omega
 · exact ⟨g, c, cur.toList, h1, h2, by unfold Blk; simpa using h3, h4, h5, by simpa using h6, by simpa using h7⟩
theorem blk_own {w : World} {base : Nat} {e : TypeId} {g c : Nat} {vs cur : List Value} (h2 : base ≤ g) (h3 : Blk w g e cur) (h4 : vs.length ≤ c) (h5 : c ≤ maxLen) (h6 : cur.length = c) (h7 : cur.take vs.length = vs) :
 w.ownsRow base e 1 (.slice (some ⟨g, 0, none⟩) vs.length c) vs.length vs :=
 ⟨by simp, .inr ⟨g, c, cur.toArray, rfl, h2, h3, h4, h5, by simpa using h6, by simpa using h7⟩⟩
theorem own_at {α : Type} (enc : α → Value) {w : World} {B : Nat} {e : TypeId} {v : Value} {xs : List α} (h : w.ownsRow B e 1 v xs.length (xs.map enc)) (i : Nat) (hi : i < xs.length) :
 ∃ g c, v = .slice (some ⟨g, 0, none⟩) xs.length c ∧ B ≤ g ∧ w.cell? ⟨g, i, none⟩ = some (enc xs[i]) ∧ w.frozen? ⟨g, i, none⟩ = false ∧
  ∀ x : α, (w.setCell ⟨g, i, none⟩ (enc x)).ownsRow B e 1 v xs.length ((xs.set i x).map enc) := by
 have hl : (xs.map enc).length = xs.length := List.length_map ..
 rw [← hl] at h
 obtain ⟨g, c, cur, rfl, hb, hblk, h1, h2, h3, h4⟩ := own_blk h (by omega)
 rw [hl] at h1 h4
 refine ⟨g, c, by rw [hl], hb, ?_, hblk.free i, fun x => ?_⟩
 · rw [hblk.cell]
   have := congrArg (fun l => l[i]?) h4
   simp only [List.getElem?_take, if_pos hi, List.getElem?_map, List.getElem?_eq_getElem hi] at this
   exact this
 · have := blk_own (vs := (xs.set i x).map enc) hb (hblk.set i (enc x)) (by simpa using h1) h2 (by simpa using h3) (by
    simp only [List.length_map, List.length_set]
    rw [List.take_set, h4, List.map_set])
   simpa using this
def PostSearch (p : Nat → Bool) (n : Nat) (J : World → Prop) (e : Ending) (w : World) : Prop := ∃ r : Nat, e = .returned (.int .i64 r) ∧ SearchAt p n r ∧ J w
set_option maxHeartbeats 400000 in
theorem search_any (f : FuncId) (cap : Array Value) (hf : Fv Tryz.prog f) (n : Nat) (hn : n ≤ 4611686018427387903) (p : Nat → Bool) (J : World → Prop) (w : World)
 (hcl : ∀ k, k < n → ∀ w', J w' → Calls Tryz.prog f (#[.int .i64 k] ++ cap) w' fun e w'' => e = .returned (.bool (p k)) ∧ J w'')
 (h0 : J w) :
 Calls Tryz.prog 126 #[.int .i64 n, .func (.func f) #[] cap] w (PostSearch p n J) := by
 have HCL := Lib.hid hcl
 have H0 := Lib.hid h0
 clear hcl h0
 go_enter Tryz.func126, Tryz.ntmps126
 go_wp2
 go_loopw [5, 6] (fun i j wr => ∃ a b : Nat, a ≤ b ∧ b ≤ n ∧ i = .int .i64 a ∧ j = .int .i64 b ∧ Hid (J wr) ∧ Hid ((b < n → p b = true) ∧ (0 < a → p (a - 1) = false))) (fun i j _ => (intOf j).toNat - (intOf i).toNat)
 case atStart => exact ⟨0, n, Nat.zero_le _, Nat.le_refl _, rfl, rfl, H0, fun h => absurd h (Nat.lt_irrefl _), fun h => absurd h (Nat.lt_irrefl _)⟩
 case round =>
  obtain ⟨a, b, hab, hbn, rfl, rfl, HK, HP⟩ := hrel
  by_cases hlt : a < b
  · obtain ⟨m, hm⟩ : ∃ m : Nat, m = (a + b) / 2 := ⟨_, rfl⟩
    have hmm : ((a : Int) + b) / 2 = (m : Int) := by omega
    have hm1 : a ≤ m := by omega
    have hm2 : m < b := by omega
    clear hm
    go_wp2_with (refine wpList_callv (.tmp 18) #[.tmp 19] _ rfl rfl cap rfl hf (#[.int .i64 m] ++ cap) (by simp only [List.map_toArray, List.map_cons, List.map_nil]; rfl) ?_; refine (HCL.out m (by omega) _ HK.out).mono ?_; rintro e w' ⟨rfl, hJ'⟩; refine ⟨_, rfl, ?_⟩; have HJ' := Lib.hid hJ'; clear hJ')
    · have hpm : (!p m) = true := by assumption
      go_round
      case rel => exact ⟨m + 1, b, by omega, by omega, by go_num, rfl, HJ', HP.out.1, fun _ => by simpa using hpm⟩
      case measure => simp [intOf]; omega
    · have hpm : (!p m) = false := by assumption
      go_round
      case rel => exact ⟨a, m, by omega, by omega, rfl, rfl, HJ', fun _ => by simpa using hpm, HP.out.2⟩
      case measure => simp [intOf]; omega
  · go_wp2
    go_ret
    obtain rfl : a = b := by omega
    exact ⟨a, rfl, ⟨hbn, HP.out.1, HP.out.2⟩, HK.out⟩
theorem fv_look1 : Fv Tryz.prog 127 := ⟨_, Tryz.func127, by kernel_rfl, by kernel_rfl⟩
theorem look_fn (xs : List Int) (k : Nat) (hk : k < xs.length) (v : Int) (pa pv : Nat) (A : Option Addr) (c : Nat) (w : World) (h64 : All64 xs)
 (ha : w.cell? ⟨pa, 0, none⟩ = some (.slice A xs.length c)) (hv : w.cell? ⟨pv, 0, none⟩ = some (.int .i64 v)) (hr : Row w A (xs.map (Value.int .i64))) :
 Calls Tryz.prog 127 #[.int .i64 k, .pointer (some ⟨pa, 0, none⟩), .pointer (some ⟨pv, 0, none⟩)] w fun e w' => e = .returned (.bool (decide (v ≤ varOf xs[k]))) ∧ ∃ m, w' = w.drewN m := by
 obtain ⟨ad, rfl, hcell⟩ := hr.int k hk
 have hx := h64 _ (List.getElem_mem hk)
 clear hr
 have hk1 : (k : Int) < xs.length := by omega
 have hk0 : (0 : Int) ≤ k := by omega
 go_enter Tryz.func127, Tryz.ntmps127
 go_wp2
 go_quiet ((go_at_call 36; exact quiet_same (var_any _ hx _)))
 go_wp2
 go_ret
 exact ⟨rfl, _, rfl⟩
set_option maxHeartbeats 800000 in
theorem look_any (xs : List Int) (lit : Int) (v : Value) (w : World) (h64 : All64 xs) (hl : I64 lit) (hr : RI w v xs) (hmay : mayB xs = true) :
 Calls Tryz.prog 80 #[v, .int .i64 lit] w fun e w' => e = .returned (.int .u8 (lookI xs lit)) ∧ Ext w w' := by
 obtain ⟨A, c, rfl, h1, h2, h3⟩ := hr
 have HASC := Lib.hid ((mayB_iff xs).1 hmay)
 have H3 := Lib.hid h3
 clear h3
 go_enter Tryz.func80, Tryz.ntmps80
 have HS := Lib.hid (search_any 127 #[.pointer (some ⟨w.heap.size, 0, none⟩), .pointer (some ⟨w.heap.size + 1, 0, none⟩)] fv_look1 xs.length (by have := may_len hmay; omega)
  (fun k => decide (varOf lit ≤ varOf (xs.getD k 0))) (fun w' => Ext ((w.alloc (.cells #[.slice A xs.length c] 24)).alloc (.cells #[.int .i64 (varOf lit)] 3)) w')
  ((w.alloc (.cells #[.slice A xs.length c] 24)).alloc (.cells #[.int .i64 (varOf lit)] 3))
  (by
   intro k hk w' hw
   obtain ⟨b1, b2, b3⟩ := boxes _ _ _ _ _ _ hw
   refine (look_fn xs k hk (varOf lit) _ _ A c _ h64 b1 b2 (H3.out.ext b3)).mono ?_
   rintro e w' ⟨rfl, n, rfl⟩
   exact ⟨by rw [getD_int xs k hk], hw.trans (Ext.drewN _ _)⟩)
  (Ext.refl _))
 clear hmay
 go_wp2_with fail
 refine (var_any _ hl _).mono ?_
 rintro e w' ⟨rfl, rfl⟩
 go_wp2_with fail
 refine HS.out.mono ?_
 rintro e w1 ⟨r, rfl, hr, hw1⟩
 dsimp only
 have HR := Lib.hid hr
 have hrn := hr.1
 clear hr
 obtain ⟨b1, b2, b3⟩ := boxes _ _ _ _ _ _ hw1
 have H3' := Lib.hid (H3.out.ext b3)
 have B3 := Lib.hid b3
 clear b3 HS H3 hw1
 by_cases hv : varOf lit = 0
 · have hvb : (varOf lit == 0) = true := by simp [hv]
   have HV := Lib.hid hv
   clear hv
   go_wp2
   go_quiet (fail)
   go_wp2
   go_ret
   exact ⟨ret_int (by unfold lookI; rw [if_pos HV.out]), B3.out.trans (Ext.drewN _ _)⟩
 · have hvb : (varOf lit == 0) = false := by simpa using hv
   have HV := Lib.hid hv
   clear hv
   by_cases hn : r < xs.length
   · obtain ⟨ad, rfl, hcell⟩ := H3'.out.int r hn
     have hx := h64 _ (List.getElem_mem hn)
     have hnb : (((r : Nat) : Int) == ((xs.length : Nat) : Int)) = false := by simp; omega
     have hn0 : (0 : Int) ≤ r := by omega
     have hn1 : (r : Int) < xs.length := by omega
     by_cases he : varOf xs[r] = varOf lit
     · have heb : (varOf xs[r] != varOf lit) = false := by simp [he]
       have HE := Lib.hid he
       clear he
       go_wp2
       go_quiet ((go_at_call 36; exact quiet_same (var_any _ hx _)))
       by_cases hq : xs[r] = lit
       · have hqb : (xs[r] == lit) = true := by simp [hq]
         have HQ := Lib.hid hq
         clear hq
         go_wp2
         go_ret
         exact ⟨ret_int (by rw [look_at HASC.out HV.out HR.out hn HE.out, if_pos HQ.out]), B3.out.trans (Ext.drewN _ _)⟩
       · have hqb : (xs[r] == lit) = false := by simp [hq]
         have HQ := Lib.hid hq
         clear hq
         go_wp2
         go_ret
         exact ⟨ret_int (by rw [look_at HASC.out HV.out HR.out hn HE.out, if_neg HQ.out]), B3.out.trans (Ext.drewN _ _)⟩
     · have heb : (varOf xs[r] != varOf lit) = true := by simp [he]
       have HE := Lib.hid he
       clear he
       go_wp2
       go_quiet ((go_at_call 36; exact quiet_same (var_any _ hx _)))
       go_wp2
       go_ret
       exact ⟨ret_int (by rw [look_none HASC.out HV.out HR.out (fun _ => HE.out)]), B3.out.trans (Ext.drewN _ _)⟩
   · have hnb : (((r : Nat) : Int) == ((xs.length : Nat) : Int)) = true := by simp; omega
     go_wp2
     go_quiet (fail)
     go_wp2
     go_ret
     exact ⟨ret_int (by rw [look_none HASC.out HV.out HR.out (fun h => absurd h hn)]), B3.out.trans (Ext.drewN _ _)⟩
def PostSrch (g : Nat → Int) (n : Nat) (a b : Int) (J : World → Prop) (e : Ending) (w : World) : Prop := e = .returned (.int .u8 (searchG g n a b)) ∧ J w
set_option maxHeartbeats 400000 in
theorem searchI (f : FuncId) (cap : Array Value) (hf : Fv Tryz.prog f) (A : Option Addr) (c : Nat) (vs : List Value) (hm : vs.length ≤ 9223372036854775807) (g : Nat → Int) (a b : Int) (J : World → Prop) (w : World)
 (hJ : ∀ w', J w' → Row w' A vs)
 (hcl : ∀ k (h : k < vs.length) w', J w' → Calls Tryz.prog f (#[vs[k]] ++ cap) w' fun e w'' => e = .returned (.int .u8 (g k)) ∧ J w'')
 (h0 : J w) :
 Calls Tryz.prog 81 #[.slice A vs.length c, .func (.func f) #[] cap, .int .u8 a, .int .u8 b] w (PostSrch g vs.length a b J) := by
 have HJ := Lib.hid hJ
 have HCL := Lib.hid hcl
 have H0 := Lib.hid h0
 clear hJ hcl h0
 go_enter Tryz.func81, Tryz.ntmps81
 go_wp2
 go_loopw [9, 15] (fun o i wr => ∃ (k : Nat) (r : Int), k ≤ vs.length ∧ i = .int .i64 k ∧ o = .int .u8 r ∧ Hid (J wr) ∧ Hid ((∀ j, j < k → g j ≠ a) ∧ r = if ∃ j, j < k ∧ g j = 0 then 0 else b)) (fun _ i _ => vs.length - (intOf i).toNat)
 case atStart => exact ⟨0, b, Nat.zero_le _, rfl, rfl, H0, fun j h => absurd h (Nat.not_lt_zero j), by simp⟩
 case round =>
  obtain ⟨k, r, hk, rfl, rfl, HK, HP⟩ := hrel
  by_cases hlt : k < vs.length
  · obtain ⟨ad, rfl, hcell⟩ := HJ.out _ HK.out k hlt
    by_cases ha : g k = a
    · have hab : (g k == a) = true := by simp [ha]
      have HA := Lib.hid ha
      clear ha
      go_wp2_with (refine wpList_callv (.tmp 19) #[.tmp 20] _ rfl rfl cap rfl hf (#[vs[k]] ++ cap) (by simp only [List.map_toArray, List.map_cons, List.map_nil]; rfl) ?_; refine (HCL.out k hlt _ HK.out).mono ?_; rintro e w' ⟨rfl, hJ'⟩; refine ⟨_, rfl, ?_⟩; have HJ' := Lib.hid hJ'; clear hJ')
      go_ret
      exact ⟨ret_int (searchG_found hlt HA.out).symm, HJ'.out⟩
    · have hab : (g k == a) = false := by simp [ha]
      have HA := Lib.hid ha
      clear ha
      by_cases hz : g k = 0
      · have hzb : (g k == 0) = true := by simp [hz]
        have HZ := Lib.hid hz
        clear hz
        go_wp2_with (refine wpList_callv (.tmp 19) #[.tmp 20] _ rfl rfl cap rfl hf (#[vs[k]] ++ cap) (by simp only [List.map_toArray, List.map_cons, List.map_nil]; rfl) ?_; refine (HCL.out k hlt _ HK.out).mono ?_; rintro e w' ⟨rfl, hJ'⟩; refine ⟨_, rfl, ?_⟩; have HJ' := Lib.hid hJ'; clear hJ')
        go_round
        case rel => exact ⟨k + 1, 0, by omega, by go_num, rfl, HJ', fun j hj => if h : j = k then h ▸ HA.out else HP.out.1 j (by omega), by rw [if_pos ⟨k, by omega, HZ.out⟩]⟩
        case measure => simp [intOf]; omega
      · have hzb : (g k == 0) = false := by simp [hz]
        have HZ := Lib.hid hz
        clear hz
        go_wp2_with (refine wpList_callv (.tmp 19) #[.tmp 20] _ rfl rfl cap rfl hf (#[vs[k]] ++ cap) (by simp only [List.map_toArray, List.map_cons, List.map_nil]; rfl) ?_; refine (HCL.out k hlt _ HK.out).mono ?_; rintro e w' ⟨rfl, hJ'⟩; refine ⟨_, rfl, ?_⟩; have HJ' := Lib.hid hJ'; clear hJ')
        go_round
        case rel => exact ⟨k + 1, r, by omega, by go_num, rfl, HJ', fun j hj => if h : j = k then h ▸ HA.out else HP.out.1 j (by omega), by rw [HP.out.2]; exact searchG_skip HZ.out⟩
        case measure => simp [intOf]; omega
  · go_wp2
    go_ret
    obtain rfl : k = vs.length := by omega
    exact ⟨ret_int (searchG_end HP.out.1 HP.out.2), HK.out⟩
set_option maxHeartbeats 400000 in
theorem searchL (f : FuncId) (cap : Array Value) (hf : Fv Tryz.prog f) (A : Option Addr) (c : Nat) (vs : List Value) (hm : vs.length ≤ 9223372036854775807) (g : Nat → Int) (a b : Int) (J : World → Prop) (w : World)
 (hJ : ∀ w', J w' → Row w' A vs)
 (hcl : ∀ k (h : k < vs.length) w', J w' → Calls Tryz.prog f (#[vs[k]] ++ cap) w' fun e w'' => e = .returned (.int .u8 (g k)) ∧ J w'')
 (h0 : J w) :
 Calls Tryz.prog 77 #[.slice A vs.length c, .func (.func f) #[] cap, .int .u8 a, .int .u8 b] w (PostSrch g vs.length a b J) := by
 have HJ := Lib.hid hJ
 have HCL := Lib.hid hcl
 have H0 := Lib.hid h0
 clear hJ hcl h0
 go_enter Tryz.func77, Tryz.ntmps77
 go_wp2
 go_loopw [9, 15] (fun o i wr => ∃ (k : Nat) (r : Int), k ≤ vs.length ∧ i = .int .i64 k ∧ o = .int .u8 r ∧ Hid (J wr) ∧ Hid ((∀ j, j < k → g j ≠ a) ∧ r = if ∃ j, j < k ∧ g j = 0 then 0 else b)) (fun _ i _ => vs.length - (intOf i).toNat)
 case atStart => exact ⟨0, b, Nat.zero_le _, rfl, rfl, H0, fun j h => absurd h (Nat.not_lt_zero j), by simp⟩
 case round =>
  obtain ⟨k, r, hk, rfl, rfl, HK, HP⟩ := hrel
  by_cases hlt : k < vs.length
  · obtain ⟨ad, rfl, hcell⟩ := HJ.out _ HK.out k hlt
    by_cases ha : g k = a
    · have hab : (g k == a) = true := by simp [ha]
      have HA := Lib.hid ha
      clear ha
      go_wp2_with (refine wpList_callv (.tmp 19) #[.tmp 20] _ rfl rfl cap rfl hf (#[vs[k]] ++ cap) (by simp only [List.map_toArray, List.map_cons, List.map_nil]; rfl) ?_; refine (HCL.out k hlt _ HK.out).mono ?_; rintro e w' ⟨rfl, hJ'⟩; refine ⟨_, rfl, ?_⟩; have HJ' := Lib.hid hJ'; clear hJ')
      go_ret
      exact ⟨ret_int (searchG_found hlt HA.out).symm, HJ'.out⟩
    · have hab : (g k == a) = false := by simp [ha]
      have HA := Lib.hid ha
      clear ha
      by_cases hz : g k = 0
      · have hzb : (g k == 0) = true := by simp [hz]
        have HZ := Lib.hid hz
        clear hz
        go_wp2_with (refine wpList_callv (.tmp 19) #[.tmp 20] _ rfl rfl cap rfl hf (#[vs[k]] ++ cap) (by simp only [List.map_toArray, List.map_cons, List.map_nil]; rfl) ?_; refine (HCL.out k hlt _ HK.out).mono ?_; rintro e w' ⟨rfl, hJ'⟩; refine ⟨_, rfl, ?_⟩; have HJ' := Lib.hid hJ'; clear hJ')
        go_round
        case rel => exact ⟨k + 1, 0, by omega, by go_num, rfl, HJ', fun j hj => if h : j = k then h ▸ HA.out else HP.out.1 j (by omega), by rw [if_pos ⟨k, by omega, HZ.out⟩]⟩
        case measure => simp [intOf]; omega
      · have hzb : (g k == 0) = false := by simp [hz]
        have HZ := Lib.hid hz
        clear hz
        go_wp2_with (refine wpList_callv (.tmp 19) #[.tmp 20] _ rfl rfl cap rfl hf (#[vs[k]] ++ cap) (by simp only [List.map_toArray, List.map_cons, List.map_nil]; rfl) ?_; refine (HCL.out k hlt _ HK.out).mono ?_; rintro e w' ⟨rfl, hJ'⟩; refine ⟨_, rfl, ?_⟩; have HJ' := Lib.hid hJ'; clear hJ')
        go_round
        case rel => exact ⟨k + 1, r, by omega, by go_num, rfl, HJ', fun j hj => if h : j = k then h ▸ HA.out else HP.out.1 j (by omega), by rw [HP.out.2]; exact searchG_skip HZ.out⟩
        case measure => simp [intOf]; omega
  · go_wp2
    go_ret
    obtain rfl : k = vs.length := by omega
    exact ⟨ret_int (searchG_end HP.out.1 HP.out.2), HK.out⟩
theorem fv_clause_fn : Fv Tryz.prog 125 := ⟨_, Tryz.func125, by kernel_rfl, by kernel_rfl⟩
theorem clause_fn (xs : List Int) (lit : Int) (pa : Nat) (v : Value) (w : World) (h64 : All64 xs) (hl : I64 lit) (hr : RI w v xs) (hmay : mayB xs = true) (ha : w.cell? ⟨pa, 0, none⟩ = some v) :
 Calls Tryz.prog 125 #[.int .i64 lit, .pointer (some ⟨pa, 0, none⟩)] w fun e w' => e = .returned (.int .u8 (lookI xs lit)) ∧ Ext w w' := by
 have HM := Lib.hid hmay
 have HR := Lib.hid hr
 clear hmay
 obtain ⟨A, c, rfl, h1, h2, h3⟩ := hr
 clear h3
 go_enter Tryz.func125, Tryz.ntmps125
 go_wp2_with (go_at_call 80; refine (look_any xs lit _ _ h64 hl HR.out HM.out).mono ?_; rintro e w' ⟨rfl, hE⟩)
 go_ret
 exact ⟨rfl, hE⟩
theorem fv_cube_fn : Fv Tryz.prog 82 := ⟨_, Tryz.func82, by kernel_rfl, by kernel_rfl⟩
theorem cube_fn (xs : List Int) (lit : Int) (pa : Nat) (v : Value) (w : World) (h64 : All64 xs) (hl : I64 lit) (hr : RI w v xs) (hmay : mayB xs = true) (ha : w.cell? ⟨pa, 0, none⟩ = some v) :
 Calls Tryz.prog 82 #[.int .i64 lit, .pointer (some ⟨pa, 0, none⟩)] w fun e w' => e = .returned (.int .u8 (lookI xs lit)) ∧ Ext w w' := by
 have HM := Lib.hid hmay
 have HR := Lib.hid hr
 clear hmay
 obtain ⟨A, c, rfl, h1, h2, h3⟩ := hr
 clear h3
 go_enter Tryz.func82, Tryz.ntmps82
 go_wp2_with (go_at_call 80; refine (look_any xs lit _ _ h64 hl HR.out HM.out).mono ?_; rintro e w' ⟨rfl, hE⟩)
 go_ret
 exact ⟨rfl, hE⟩
set_option maxHeartbeats 400000 in
theorem clause_any (xs cs : List Int) (v u : Value) (w : World) (h64 : All64 xs) (k64 : All64 cs) (hr : RI w v xs) (kr : RI w u cs) (hmay : mayB xs = true) :
 Calls Tryz.prog 79 #[v, u] w fun e w' => e = .returned (.int .u8 (clauseV xs cs)) ∧ Ext w w' := by
 have HM := Lib.hid hmay
 have HR := Lib.hid hr
 clear hmay
 obtain ⟨A, c, rfl, h1, h2, h3⟩ := hr
 obtain ⟨B, d, rfl, k1, k2, k3⟩ := kr
 have HS := Lib.hid (searchI 125 #[.pointer (some ⟨w.heap.size, 0, none⟩)] fv_clause_fn B d (cs.map (Value.int .i64)) (by simpa using k2) (fun k => lookI xs (cs.getD k 0)) 1 2
  (fun w' => Ext (w.alloc (.cells #[.slice A xs.length c] 24)) w') (w.alloc (.cells #[.slice A xs.length c] 24))
  (fun w' hw => k3.ext ((Ext.alloc w _).trans hw))
  (fun k hk w' hw => by
   have hk' : k < cs.length := by simpa using hk
   have hcell := ((Var1.new w 24 (.slice A xs.length c)).ext hw).cell
   have hc := clause_fn xs (cs.getD k 0) w.heap.size (.slice A xs.length c) w' h64 (k64.getD k hk') (HR.out.ext ((Ext.alloc w _).trans hw)) HM.out hcell
   rw [List.getElem_map, ← getD_int cs k hk']
   refine hc.mono ?_
   rintro e w'' ⟨rfl, hE⟩
   exact ⟨rfl, hw.trans hE⟩)
  (Ext.refl _))
 rw [List.length_map] at HS
 clear h3 k3
 go_enter Tryz.func79, Tryz.ntmps79
 go_wp2_with (go_at_call 81; refine HS.out.mono ?_; rintro e w' ⟨rfl, hE⟩)
 go_ret
 exact ⟨rfl, (Ext.alloc w _).trans hE⟩
set_option maxHeartbeats 400000 in
theorem Value_any (xs : List Int) (lit : Int) (v : Value) (w : World) (h64 : All64 xs) (hl : I64 lit) (hr : RI w v xs) :
 Calls Tryz.prog 31 #[v, .int .i64 lit] w fun e w' => e = .returned (.int .u8 (ValueV xs lit)) ∧ Ext w w' := by
 cases hm : mayB xs
 all_goals
  have HM := Lib.hid hm
  have HL := Lib.hid (may_any v xs w hr h64)
  rw [hm] at HL
  clear hm
  go_enter Tryz.func31, Tryz.ntmps31
  go_wp2_with (first
   | (go_at_call 76; refine HL.out.mono ?_; rintro e w' ⟨rfl, rfl⟩)
   | (go_at_call 80; refine (look_any xs lit _ _ h64 hl hr HM.out).mono ?_; rintro e w' ⟨rfl, hE⟩))
  go_ret
 · exact ⟨ret_int (by unfold ValueV; rw [if_neg (by rw [HM.out]; decide)]), Ext.refl _⟩
 · exact ⟨ret_int (by unfold ValueV; rw [if_pos HM.out]), hE⟩
set_option maxHeartbeats 400000 in
theorem Cube_any (xs cs : List Int) (v u : Value) (w : World) (h64 : All64 xs) (k64 : All64 cs) (hr : RI w v xs) (kr : RI w u cs) :
 Calls Tryz.prog 32 #[v, u] w fun e w' => e = .returned (.int .u8 (CubeV xs cs)) ∧ Ext w w' := by
 cases hm : mayB xs <;> cases km : mayB cs
 all_goals
  have HM := Lib.hid hm
  have KM := Lib.hid km
  have HR := Lib.hid hr
  have KR := Lib.hid kr
  obtain ⟨A, c, rfl, h1, h2, h3⟩ := hr
  obtain ⟨B, d, rfl, k1, k2, k3⟩ := kr
  have HC := Lib.hid (Var1.new w 24 (.slice A xs.length c)).cell
  have HL := Lib.hid (may_any _ xs _ (HR.out.ext (Ext.alloc w (.cells #[.slice A xs.length c] 24))) h64)
  have KL := Lib.hid (may_any _ cs _ (KR.out.ext (Ext.alloc w (.cells #[.slice A xs.length c] 24))) k64)
  rw [hm] at HL
  rw [km] at KL
  clear hm km h3
 case true.true =>
  have HS := Lib.hid (searchI 82 #[.pointer (some ⟨w.heap.size, 0, none⟩)] fv_cube_fn B d (cs.map (Value.int .i64)) (by simpa using k2) (fun k => lookI xs (cs.getD k 0)) 2 1
   (fun w' => Ext (w.alloc (.cells #[.slice A xs.length c] 24)) w') (w.alloc (.cells #[.slice A xs.length c] 24))
   (fun w' hw => k3.ext ((Ext.alloc w _).trans hw))
   (fun k hk w' hw => by
    have hk' : k < cs.length := by simpa using hk
    have hcell := ((Var1.new w 24 (.slice A xs.length c)).ext hw).cell
    have hc := cube_fn xs (cs.getD k 0) w.heap.size (.slice A xs.length c) w' h64 (k64.getD k hk') (HR.out.ext ((Ext.alloc w _).trans hw)) HM.out hcell
    rw [List.getElem_map, ← getD_int cs k hk']
    refine hc.mono ?_
    rintro e w'' ⟨rfl, hE⟩
    exact ⟨rfl, hw.trans hE⟩)
   (Ext.refl _))
  rw [List.length_map] at HS
  clear k3
  have hc := HC.out
  go_enter Tryz.func32, Tryz.ntmps32
  go_wp2_with fail
  refine HL.out.mono ?_
  rintro e w' ⟨rfl, rfl⟩
  go_wp2_with fail
  refine KL.out.mono ?_
  rintro e w' ⟨rfl, rfl⟩
  go_wp2_with (go_at_call 81; refine HS.out.mono ?_; rintro e w' ⟨rfl, hE⟩)
  go_ret
  exact ⟨ret_int (by unfold CubeV; rw [if_pos ⟨HM.out, KM.out⟩]; rfl), (Ext.alloc w _).trans hE⟩
 case true.false =>
  have hc := HC.out
  clear k3
  go_enter Tryz.func32, Tryz.ntmps32
  go_wp2_with fail
  refine HL.out.mono ?_
  rintro e w' ⟨rfl, rfl⟩
  go_wp2_with fail
  refine KL.out.mono ?_
  rintro e w' ⟨rfl, rfl⟩
  go_wp2
  go_ret
  exact ⟨ret_int (by unfold CubeV; rw [if_neg (by rw [KM.out]; simp)]), Ext.alloc w _⟩
 all_goals
  have hc := HC.out
  clear k3
  go_enter Tryz.func32, Tryz.ntmps32
  go_wp2_with fail
  refine HL.out.mono ?_
  rintro e w' ⟨rfl, rfl⟩
  go_wp2
  go_ret
  exact ⟨ret_int (by unfold CubeV; rw [if_neg (by rw [HM.out]; simp)]), Ext.alloc w _⟩
theorem fv_cnf1 : Fv Tryz.prog 78 := ⟨_, Tryz.func78, by kernel_rfl, by kernel_rfl⟩
theorem cnf_fn (xs cs : List Int) (pa : Nat) (v u : Value) (w : World) (h64 : All64 xs) (k64 : All64 cs) (hr : RI w v xs) (kr : RI w u cs) (hmay : mayB xs = true) (ha : w.cell? ⟨pa, 0, none⟩ = some v) :
 Calls Tryz.prog 78 #[u, .pointer (some ⟨pa, 0, none⟩)] w fun e w' => e = .returned (.int .u8 (clauseV xs cs)) ∧ Ext w w' := by
 have HM := Lib.hid hmay
 have HR := Lib.hid hr
 clear hmay
 obtain ⟨A, c, rfl, h1, h2, h3⟩ := hr
 clear h3
 go_enter Tryz.func78, Tryz.ntmps78
 go_wp2_with (go_at_call 79; refine (clause_any xs cs _ _ _ h64 k64 HR.out kr HM.out).mono ?_; rintro e w' ⟨rfl, hE⟩)
 go_ret
 exact ⟨rfl, hE⟩
set_option maxHeartbeats 1000000 in
theorem Cnf_any (xs : List Int) (f : List (List Int)) (v u : Value) (w : World) (h64 : All64 xs) (k64 : All64L f) (hr : RI w v xs) (kr : RLL w u f) (ht : f.length ≤ 20000 → total f ≤ 9223372036854775807) :
 Calls Tryz.prog 30 #[v, u] w fun e w' => e = .returned (.int .u8 (CnfV xs f)) ∧ Ext w w' := by
 cases hm : mayB xs <;> cases km : mayCnfB f
 all_goals
  have HM := Lib.hid hm
  have KM := Lib.hid km
  have HR := Lib.hid hr
  have KR := Lib.hid kr
  have HT := Lib.hid ht
  clear ht kr
  obtain ⟨A, c, rfl, h1, h2, h3⟩ := hr
  have HC := Lib.hid (Var1.new w 24 (.slice A xs.length c)).cell
  have HL := Lib.hid (may_any _ xs _ (HR.out.ext (Ext.alloc w (.cells #[.slice A xs.length c] 24))) h64)
  have KL := Lib.hid (mayCnf_any _ f _ (KR.out.ext' (Ext.alloc w (.cells #[.slice A xs.length c] 24))) k64 HT.out)
  rw [hm] at HL
  rw [km] at KL
  clear hm km h3
  have hc := HC.out
  go_enter Tryz.func30, Tryz.ntmps30
 case true.true =>
  go_wp2_with fail
  refine HL.out.mono ?_
  rintro e w' ⟨rfl, rfl⟩
  go_wp2_with fail
  refine KL.out.mono ?_
  rintro e w1 ⟨rfl, hE1⟩
  obtain ⟨hc1, hE⟩ := box_at hE1
  have HE1 := Lib.hid hE1
  have HE := Lib.hid hE
  clear hE hE1 hc
  obtain ⟨B, d, vs, rfl, k1, k2, k3, k4, k5⟩ := KR.out
  have HS := Lib.hid (searchL 78 #[.pointer (some ⟨w.heap.size, 0, none⟩)] fv_cnf1 B d vs k2 (fun k => clauseV xs (f.getD k [])) 2 1
   (fun w' => Ext w1 w') w1
   (fun w' hw => k3.ext (HE.out.trans hw))
   (fun k hk w' hw => by
    have hk' : k < f.length := by rw [← k4]; exact hk
    obtain ⟨hcell, hE'⟩ := box_at (HE1.out.trans hw)
    have hg := getD_of f k hk'
    have hc := cnf_fn xs (f.getD k []) w.heap.size _ vs[k] w' h64 (by rw [hg]; exact k64 _ (List.getElem_mem hk')) (HR.out.ext hE') (by rw [hg]; exact (k5 k hk hk').ext hE') HM.out hcell
    refine hc.mono ?_
    rintro e w'' ⟨rfl, hE⟩
    exact ⟨rfl, hw.trans hE⟩)
   (Ext.refl _))
  have K4 := Lib.hid k4
  clear k3 k5 k4
  go_wp2_with (go_at_call 77; refine HS.out.mono ?_; rintro e w' ⟨rfl, hE⟩)
  go_ret
  exact ⟨ret_int (by unfold CnfV; rw [if_pos ⟨HM.out, KM.out⟩, K4.out]; rfl), HE.out.trans hE⟩
 case true.false =>
  go_wp2_with fail
  refine HL.out.mono ?_
  rintro e w' ⟨rfl, rfl⟩
  go_wp2_with fail
  refine KL.out.mono ?_
  rintro e w1 ⟨rfl, hE1⟩
  go_wp2
  go_ret
  exact ⟨ret_int (by unfold CnfV; rw [if_neg (by rw [KM.out]; simp)]), (Ext.alloc w _).trans hE1⟩
 all_goals
  go_wp2_with fail
  refine HL.out.mono ?_
  rintro e w' ⟨rfl, rfl⟩
  go_wp2
  go_ret
  exact ⟨ret_int (by unfold CnfV; rw [if_neg (by rw [HM.out]; simp)]), Ext.alloc w _⟩
def manyB (xs : List Int) : Bool := decide (xs.length ≤ 64) && mayB xs && xs.all fun x => decide (0 ≤ x)
theorem fv_many1 : Fv Tryz.prog 124 := ⟨_, Tryz.func124, by kernel_rfl, by kernel_rfl⟩
set_option maxHeartbeats 400000 in
theorem many1_fn (x : Int) (w : World) : Calls Tryz.prog 124 #[.int .i64 x] w fun e w' => e = .returned (.bool (decide (x < 0))) ∧ w' = w := by
 go_enter Tryz.func124, Tryz.ntmps124
 go_wp2
 go_ret
 exact ⟨rfl, rfl⟩
set_option maxHeartbeats 1000000 in
theorem many_any (xs : List Int) (v : Value) (w : World) (h64 : All64 xs) (hr : RI w v xs) : Calls Tryz.prog 75 #[v] w fun e w' => e = .returned (.bool (manyB xs)) ∧ w = w' := by
 have HL := Lib.hid (may_any _ xs _ hr h64)
 obtain ⟨A, c, rfl, h1, h2, h3⟩ := hr
 have hix := containsFuncI 124 #[] fv_many1 A c (xs.map (Value.int .i64)) (by rw [List.length_map]; exact h2) (fun j => decide (xs.getD j 0 < 0)) (fun _ w' => w' = w) w
  (fun _ w' hw => hw ▸ h3)
  (fun j hj w' hw => by
   subst hw
   have hj' : j < xs.length := by simpa using hj
   rw [List.getElem_map, show xs[j] = xs.getD j 0 by simp [hj']]
   exact many1_fn (xs.getD j 0) w')
  rfl
 rw [List.length_map] at hix
 have HIX := Lib.hid (hix.mono fun e w' (hq : PostCont _ _ _ e w') => by
  obtain ⟨r', he, hq⟩ := hq
  have h1 : IdxOf (fun j => decide (xs.getD j 0 < 0)) xs.length r' ∧ w' = w := by
   rcases hq with ⟨k, h1, h2, h3, h4, h5⟩ | ⟨h1, h2, h3⟩
   · exact ⟨.inl ⟨k, h1, h2, h3, h4⟩, h5⟩
   · exact ⟨.inr ⟨h1, h2⟩, h3⟩
  have := (idx_cont h1.1).trans (range_any_get xs fun x => decide (x < 0))
  exact (show e = .returned (.bool (xs.any fun x => decide (x < 0))) ∧ w = w' from ⟨by rw [he, this], h1.2.symm⟩))
 clear hix h3
 by_cases hl : xs.length ≤ 64
 · have hl' : decide ((xs.length : Int) ≤ 64) = true := decide_eq_true (by omega)
   have HLL := Lib.hid hl
   have hll : (xs.length : Int) ≤ 64 := by omega
   cases hm : mayB xs
   · rw [hm] at HL
     have HM := Lib.hid hm
     clear hm
     go_enter Tryz.func75, Tryz.ntmps75
     go_wp2_with (go_at_call 76; refine HL.out.mono ?_; rintro e w' ⟨rfl, rfl⟩)
     go_ret
     exact ⟨ret_bool (by unfold manyB; rw [HM.out]; simp), rfl⟩
   · rw [hm] at HL
     have HM := Lib.hid hm
     clear hm
     go_enter Tryz.func75, Tryz.ntmps75
     go_wp2_with (first
      | (go_at_call 76; refine HL.out.mono ?_; rintro e w' ⟨rfl, rfl⟩)
      | (go_at_call 34; refine HIX.out.mono ?_; rintro e w' ⟨rfl, rfl⟩))
     go_ret
     exact ⟨ret_bool (by unfold manyB; rw [HM.out, decide_eq_true HLL.out, Bool.eq_iff_iff]; simp), rfl⟩
 · have hll : ¬ (xs.length : Int) ≤ 64 := by omega
   have HLL := Lib.hid hl
   go_enter Tryz.func75, Tryz.ntmps75
   go_wp2
   go_ret
   exact ⟨ret_bool (by unfold manyB; rw [decide_eq_false HLL.out]; simp), rfl⟩
theorem many_len {xs : List Int} (h : manyB xs = true) : xs.length ≤ 64 := by
 unfold manyB at h
 simp only [Bool.and_eq_true, decide_eq_true_eq] at h
 exact h.1.1
def bitOf (n : Int) (i : Nat) : Int := Go.bits .and .u64 (n / 2 ^ min i 64) 1
def pointP (n : Int) (k : Nat) (xs : List Int) : List Int := xs.mapIdx fun i x => if i < k ∧ bitOf n i = 0 then -x else x
def pointL (n : Int) (xs : List Int) : List Int := pointP n xs.length xs
theorem pointP_len (n : Int) (k : Nat) (xs : List Int) : (pointP n k xs).length = xs.length := by simp [pointP]
theorem pointP_get (n : Int) (k : Nat) (xs : List Int) (i : Nat) (hi : i < xs.length) : (pointP n k xs)[i]'(by rw [pointP_len]; exact hi) = if i < k ∧ bitOf n i = 0 then -xs[i] else xs[i] := by simp [pointP]
theorem pointP_zero (n : Int) (xs : List Int) : pointP n 0 xs = xs := by
 refine List.ext_getElem (pointP_len ..) fun i h1 h2 => ?_
 rw [pointP_get n 0 xs i h2, if_neg (by omega)]
theorem pointP_neg (n : Int) (k : Nat) (xs : List Int) (hk : k < xs.length) (hb : bitOf n k = 0) : pointP n (k + 1) xs = (pointP n k xs).set k (-xs[k]) := by
 refine List.ext_getElem (by simp [pointP_len]) fun i h1 h2 => ?_
 have hi : i < xs.length := by rw [pointP_len] at h1; exact h1
 rw [pointP_get n (k + 1) xs i hi, List.getElem_set]
 by_cases e : k = i
 · subst e; rw [if_pos ⟨by omega, hb⟩, if_pos rfl]
 · rw [if_neg e, pointP_get n k xs i hi]
   by_cases hl : i < k
   · simp [hl, show i < k + 1 by omega]
   · simp [hl, show ¬ i < k + 1 by omega]
theorem pointP_pos (n : Int) (k : Nat) (xs : List Int) (hb : bitOf n k ≠ 0) : pointP n (k + 1) xs = pointP n k xs := by
 refine List.ext_getElem (by simp [pointP_len]) fun i h1 h2 => ?_
 have hi : i < xs.length := by rw [pointP_len] at h1; exact h1
 rw [pointP_get n (k + 1) xs i hi, pointP_get n k xs i hi]
 by_cases e : k = i
 · subst e; simp [hb]
 · by_cases hl : i < k
   · simp [hl, show i < k + 1 by omega]
   · simp [hl, show ¬ i < k + 1 by omega]
theorem many_get {xs : List Int} (h : manyB xs = true) (k : Nat) (hk : k < xs.length) : 0 < xs[k] ∧ xs[k] ≤ 65536 := by
 unfold manyB at h
 simp only [Bool.and_eq_true, List.all_eq_true, decide_eq_true_eq] at h
 have h1 := h.2 _ (List.getElem_mem hk)
 have h2 := ((mayB_iff _).1 h.1.2).2 _ (List.getElem_mem hk)
 have h3 := varOf_range xs[k]
 have h4 := varOf_eq (n := xs[k]) (by omega)
 omega
set_option maxHeartbeats 1000000 in
theorem point_good (xs : List Int) (n : Int) (v : Value) (w : World) (h64 : All64 xs) (hr : RI w v xs) (hm : manyB xs = true) (hn : n / 2 ^ xs.length = 0) :
 Calls Tryz.prog 29 #[v, .int .u64 n] w fun e w' => ∃ v', e = .returned (.tuple #[v', .int .i64 0]) ∧ OwnI w' w.heap.size v' (pointL n xs) ∧ Ext w w' := by
 have HL := Lib.hid (many_any xs v w h64 hr)
 rw [hm] at HL
 have HM := Lib.hid hm
 have hml := many_len hm
 have HC := Lib.hid (cloneI_any v xs w hr (by omega))
 have hns : ¬ 0 < n / 2 ^ xs.length := by rw [hn]; omega
 obtain ⟨A, c, rfl, h1, h2, h3⟩ := hr
 clear hm h3 hn
 go_enter Tryz.func29, Tryz.ntmps29
 go_wp2_with (first
  | (go_at_call 75; refine HL.out.mono ?_; rintro e w' ⟨rfl, rfl⟩)
  | (go_at_call 59; refine HC.out.mono ?_; rintro e w1 ⟨v', rfl, hown, hE⟩; obtain ⟨OA, oc, rfl, ho1, ho2, -⟩ := hown.reads; have HOWN := Lib.hid hown; have HE := Lib.hid hE; clear hown hE))
 go_loopg [22] xs.length (fun gn i wr => ∃ k : Nat, k ≤ xs.length ∧ gn + k = xs.length ∧ i = .int .i64 k ∧ Hid (OwnI wr w.heap.size (.slice OA xs.length oc) (pointP n k xs) ∧ Ext w wr))
 case atStart => exact ⟨0, Nat.zero_le _, by omega, rfl, by rw [pointP_zero]; exact HOWN.out, HE.out⟩
 case round =>
  obtain ⟨k, hk, hgk, rfl, HS⟩ := hrel
  by_cases hlt : k < xs.length
  · obtain ⟨g, c', hv, hBg, hcell, hfree, hset⟩ := own_at (Value.int .i64) HS.out.1 k (by rw [pointP_len]; exact hlt)
    injection hv with e1 e2 e3
    subst e1 e3
    obtain ⟨hx0, hx1⟩ := many_get HM.out k hlt
    rw [pointP_get n k xs k hlt, if_neg (by omega)] at hcell
    have HSET := Lib.hid hset
    have HBG := Lib.hid hBg
    clear e2 hset hBg
    obtain ⟨x, hx⟩ : ∃ x, x = xs[k] := ⟨_, rfl⟩
    rw [← hx] at hcell hx0 hx1
    have HX := Lib.hid hx
    clear hx
    have hkm : min k 64 = k := by omega
    by_cases hb : bitOf n k = 0
    · have hbb : (Go.bits .and .u64 (n / 2 ^ k) 1 == 0) = true := by unfold bitOf at hb; rw [hkm] at hb; rw [hb]; rfl
      have HB := Lib.hid hb
      clear hb hkm
      go_wp2
      go_roundg (xs.length - (k + 1))
      case measure => omega
      case rel =>
       refine ⟨k + 1, by omega, by omega, by go_num, ?_, (Chg.set wr g k _).toExt HS.out.2 (fun i hi => hi ▸ HBG.out)⟩
       rw [pointP_neg n k xs hlt HB.out, ← HX.out]
       unfold OwnI
       rw [List.length_set]
       exact HSET.out (-x)
    · have hbb : (Go.bits .and .u64 (n / 2 ^ k) 1 == 0) = false := by unfold bitOf at hb; rw [hkm] at hb; rw [beq_eq_false_iff_ne]; exact hb
      have HB := Lib.hid hb
      clear hb hkm
      go_wp2
      go_roundg (xs.length - (k + 1))
      case measure => omega
      case rel => exact ⟨k + 1, by omega, by omega, by go_num, by rw [pointP_pos n k xs HB.out]; exact HS.out⟩
  · obtain rfl : k = xs.length := by omega
    go_wp2
    go_ret2
    exact ⟨_, rfl, HS.out.1, HS.out.2⟩
def PointV (n : Int) (xs : List Int) : List Int × Int := if manyB xs = true then (if n / 2 ^ xs.length = 0 then (pointL n xs, 0) else ([], 4)) else ([], 2)
set_option maxHeartbeats 1000000 in
theorem Point_any (xs : List Int) (n : Int) (hn0 : 0 ≤ n) (_hn1 : n < 18446744073709551616) (v : Value) (w : World) (h64 : All64 xs) (hr : RI w v xs) :
 Calls Tryz.prog 29 #[v, .int .u64 n] w fun e w' => ∃ v', e = .returned (.tuple #[v', .int .i64 (PointV n xs).2]) ∧ OwnI w' w.heap.size v' (PointV n xs).1 ∧ Ext w w' := by
 unfold PointV
 have HL := Lib.hid (many_any xs v w h64 hr)
 cases hm : manyB xs
 · rw [hm] at HL
   rw [if_neg (by decide)]
   obtain ⟨A, c, rfl, h1, h2, h3⟩ := hr
   clear hm h3
   go_enter Tryz.func29, Tryz.ntmps29
   go_wp2_with (go_at_call 75; refine HL.out.mono ?_; rintro e w' ⟨rfl, rfl⟩)
   go_ret2
   exact ⟨_, rfl, OwnI.nil _ _, Ext.refl _⟩
 · by_cases hn : n / 2 ^ xs.length = 0
   · rw [if_pos rfl, if_pos hn]
     exact point_good xs n v w h64 hr hm hn
   · rw [if_pos rfl, if_neg hn]
     rw [hm] at HL
     have hml := many_len hm
     have hpos : 0 ≤ n / 2 ^ xs.length := Int.ediv_nonneg hn0 (Int.le_of_lt (Int.pow_pos (by decide)))
     have hns : 0 < n / 2 ^ xs.length := by omega
     obtain ⟨A, c, rfl, h1, h2, h3⟩ := hr
     clear hm h3 hn hpos
     go_enter Tryz.func29, Tryz.ntmps29
     go_wp2_with (go_at_call 75; refine HL.out.mono ?_; rintro e w' ⟨rfl, rfl⟩)
     go_ret2
     exact ⟨_, rfl, OwnI.nil _ _, Ext.refl _⟩
end Go.Proofs.YtjecjaihficcdaaGreat
namespace Go.Proofs.YtjecjaihficcdaaGreat
def eachL (g : Int → Int) (xs : List Int) : List Int := (xs.map g).filter fun y => decide (y ≠ 0)
def EachV (g : Int → Int) (xs : List Int) : List Int := if mayB xs = true then eachL g xs else []
def WithinV (xs vs : List Int) : List Int := if mayB xs = true then xs.filter (fun x => decide (varOf x ∈ vs)) else []
theorem eachL_snoc (g : Int → Int) (xs : List Int) (k : Nat) (hk : k < xs.length) : eachL g (xs.take (k + 1)) = eachL g (xs.take k) ++ if g xs[k] = 0 then [] else [g xs[k]] := by
 unfold eachL
 rw [List.take_succ_eq_append_getElem hk, List.map_append, List.filter_append]
 by_cases h : g xs[k] = 0 <;> simp [h]
theorem eachL_len (g : Int → Int) (xs : List Int) : (eachL g xs).length ≤ xs.length := by
 unfold eachL
 exact Nat.le_trans (List.length_filter_le _ _) (by simp)
theorem lit_ne {x : Int} (h : 0 < varOf x) : x ≠ 0 := (varOf_eq (n := x) (by omega)).2
theorem each_if (c : Int → Bool) (xs : List Int) (h : ∀ x ∈ xs, x ≠ 0) : eachL (fun x => if c x = true then x else 0) xs = xs.filter c := by
 induction xs with
 | nil => rfl
 | cons x xs ih =>
   have ih := ih fun y hy => h y (by simp [hy])
   unfold eachL at *
   rw [List.map_cons, List.filter_cons, List.filter_cons]
   by_cases hc : c x = true
   · rw [if_pos hc, if_pos (by simpa using h x (by simp)), ih]
     simp [hc]
   · rw [if_neg hc, if_neg (by simp), ih, if_neg hc]
theorem each_within (xs vs : List Int) : EachV (fun x => if decide (varOf x ∈ vs) = true then x else 0) xs = WithinV xs vs := by
 unfold EachV WithinV
 by_cases hm : mayB xs = true
 · rw [if_pos hm, if_pos hm]
   exact each_if _ _ fun x hx => lit_ne (((mayB_iff xs).1 hm).2 x hx)
 · rw [if_neg hm, if_neg hm]
theorem Asc.filter {xs : List Int} (h : Asc xs) (c : Int → Bool) : Asc (xs.filter c) := ⟨h.1.filter _, fun x hx => h.2 x (List.mem_filter.1 hx).1⟩
theorem Asc.nodup {xs : List Int} (h : Asc xs) : xs.Nodup := by
 refine h.1.imp fun {a b} hab e => ?_
 rw [e] at hab; omega
end Go.Proofs.YtjecjaihficcdaaGreat
namespace Go.Proofs.YtjecjaihficcdaaGreat
open Go.RowKit
theorem lookI_one {xs : List Int} {x : Int} (hv : varOf x ≠ 0) : lookI xs x = 1 ↔ x ∈ xs := by
 unfold lookI
 rw [if_neg hv]
 constructor
 · intro h
   by_cases h1 : x ∈ xs
   · exact h1
   · rw [if_neg h1] at h
     split at h <;> simp at h
 · intro h; rw [if_pos h]
theorem lookI_two {xs : List Int} {x : Int} (hv : varOf x ≠ 0) : lookI xs x = 2 ↔ x ∉ xs ∧ -x ∈ xs := by
 unfold lookI
 rw [if_neg hv]
 by_cases h1 : x ∈ xs
 · rw [if_pos h1]; simp [h1]
 · rw [if_neg h1]
   by_cases h2 : -x ∈ xs
   · rw [if_pos h2]; simp [h1, h2]
   · rw [if_neg h2]; simp [h2]
theorem ex_getD {α : Type} (l : List α) (d : α) (q : α → Prop) : (∃ j, j < l.length ∧ q (l.getD j d)) ↔ ∃ x ∈ l, q x := by
 constructor
 · rintro ⟨j, hj, hq⟩
   exact ⟨l[j], List.getElem_mem hj, by simpa [hj] using hq⟩
 · rintro ⟨x, hx, hq⟩
   obtain ⟨j, hj, rfl⟩ := List.getElem_of_mem hx
   exact ⟨j, hj, by simpa [hj] using hq⟩
theorem searchG_list {α : Type} (g : α → Int) (l : List α) (d : α) (a b : Int) : searchG (fun k => g (l.getD k d)) l.length a b = if ∃ x ∈ l, g x = a then a else if ∃ x ∈ l, g x = 0 then 0 else b := by
 unfold searchG
 simp only [ex_getD l d (fun x => g x = a), ex_getD l d (fun x => g x = 0)]
open Classical in
theorem clauseV_eq (xs c : List Int) : clauseV xs c = if ∃ x ∈ c, lookI xs x = 1 then 1 else if ∃ x ∈ c, lookI xs x = 0 then 0 else 2 := by
 unfold clauseV
 have := searchG_list (lookI xs) c 0 1 2
 rw [this]
theorem clauseV_one {xs c : List Int} : clauseV xs c = 1 ↔ ∃ x ∈ c, lookI xs x = 1 := by
 rw [clauseV_eq]
 by_cases h : ∃ x ∈ c, lookI xs x = 1
 · rw [if_pos h]; simp [h]
 · rw [if_neg h]
   constructor
   · intro e; split at e <;> simp at e
   · intro e; exact absurd e h
theorem cnfV_eq (xs : List Int) (f : List (List Int)) : cnfV xs f = if ∃ c ∈ f, clauseV xs c = 2 then 2 else if ∃ c ∈ f, clauseV xs c = 0 then 0 else 1 := by
 unfold cnfV
 exact searchG_list (clauseV xs) f [] 2 1
theorem asc_lit {c : List Int} (h : Asc c) {x : Int} (hx : x ∈ c) : varOf x ≠ 0 := by have := h.2 x hx; omega
theorem lit_neA {x : Int} (h : varOf x ≠ 0) : x ≠ 0 := (varOf_eq h).2
theorem Asc.clash {a : List Int} (h : Asc a) {x : Int} (hx : x ∈ a) (hn : -x ∈ a) : False := by
 have := h.inj hx hn (varOf_neg x).symm
 have := lit_neA (asc_lit h hx)
 omega
theorem asc_all {f : List (List Int)} (hf : mayCnfB f = true) : ∀ c ∈ f, Asc c := fun c hc => by
 obtain ⟨j, hj, rfl⟩ := List.getElem_of_mem hc
 exact (mayB_iff _).1 (mayCnfB_get hf j hj)
theorem pointL_len (n : Int) (vs : List Int) : (pointL n vs).length = vs.length := by unfold pointL; rw [pointP_len]
theorem pointL_at (n : Int) (xs : List Int) (i : Nat) (hi : i < xs.length) : (pointL n xs)[i]'(by rw [pointL_len]; exact hi) = if bitOf n i = 0 then -xs[i] else xs[i] := by
 unfold pointL
 rw [pointP_get n xs.length xs i hi]
 by_cases h : bitOf n i = 0
 · rw [if_pos ⟨hi, h⟩, if_pos h]
 · rw [if_neg (fun h' => h h'.2), if_neg h]
theorem pointL_var (n : Int) (vs : List Int) : (pointL n vs).map varOf = vs.map varOf := by
 refine List.ext_getElem (by simp [pointL_len]) fun i h1 h2 => ?_
 have hi : i < vs.length := by simpa using h2
 rw [List.getElem_map, List.getElem_map, pointL_at n vs i hi]
 split
 · rw [varOf_neg]
 · rfl
theorem asc_of_map {xs ys : List Int} (h : Asc ys) (e : xs.map varOf = ys.map varOf) : Asc xs := by
 have h1 := asc_vars h
 rw [← e, List.pairwise_map] at h1
 refine ⟨h1, fun x hx => ?_⟩
 have : varOf x ∈ ys.map varOf := by rw [← e]; exact List.mem_map_of_mem hx
 obtain ⟨y, hy, he⟩ := List.mem_map.1 this
 rw [← he]; exact h.2 y hy
theorem many_asc {vs : List Int} (h : manyB vs = true) : Asc vs := by
 unfold manyB at h
 simp only [Bool.and_eq_true] at h
 exact (mayB_iff _).1 h.1.2
theorem many_var {vs : List Int} (h : manyB vs = true) : vs.map varOf = vs := by
 refine List.ext_getElem (by simp) fun i h1 h2 => ?_
 rw [List.getElem_map]
 have := many_get h i h2
 unfold varOf
 rw [if_pos (by omega)]
 omega
theorem cnf_one {p : List Int} {f : List (List Int)} (h : CnfV p f = 1) : mayB p = true ∧ mayCnfB f = true ∧ ∀ c ∈ f, ∃ y ∈ c, y ∈ p := by
 unfold CnfV at h
 by_cases hm : mayB p = true ∧ mayCnfB f = true
 · rw [if_pos hm, cnfV_eq] at h
   refine ⟨hm.1, hm.2, fun c hc => ?_⟩
   by_cases h2 : ∃ c ∈ f, clauseV p c = 2
   · rw [if_pos h2] at h; simp at h
   · rw [if_neg h2] at h
     by_cases h0 : ∃ c ∈ f, clauseV p c = 0
     · rw [if_pos h0] at h; simp at h
     · have h1 : clauseV p c = 1 := by
        have e := clauseV_eq p c
        have n2 : clauseV p c ≠ 2 := fun e => h2 ⟨c, hc, e⟩
        have n0 : clauseV p c ≠ 0 := fun e => h0 ⟨c, hc, e⟩
        split at e
        · exact e
        · split at e
          · exact absurd e n0
          · exact absurd e n2
       obtain ⟨y, hy, e⟩ := clauseV_one.1 h1
       exact ⟨y, hy, (lookI_one (asc_lit (asc_all hm.2 c hc) hy)).1 e⟩
 · rw [if_neg hm] at h
   simp at h
end Go.Proofs.YtjecjaihficcdaaGreat
namespace Go.Proofs.YtjecjaihficcdaaGreat
open Go.RowKit
theorem edge_true {f : List (List Int)} {p : List Int} (hA : Asc p) (hc : ∀ c ∈ f, ∃ y ∈ c, y ∈ p) {y z : Int} (hy : y ∈ p) (hz : z ∈ nbL f y) : z ∈ p := by
 unfold nbL at hz
 obtain ⟨c, hcf, hzc⟩ := List.mem_flatMap.1 hz
 obtain ⟨q, hq, hqp⟩ := hc c hcf
 match c, hzc, hq with
 | [a, b], hzc, hq =>
   unfold nbC at hzc
   rcases List.mem_append.1 hzc with h | h
   · split at h
     · rename_i e
       rw [List.mem_singleton] at h
       subst h
       simp only [List.mem_cons, List.not_mem_nil, or_false] at hq
       rcases hq with rfl | rfl
       · exact (hA.clash hqp (by rw [e]; exact hy)).elim
       · exact hqp
     · cases h
   · split at h
     · rename_i e
       rw [List.mem_singleton] at h
       subst h
       simp only [List.mem_cons, List.not_mem_nil, or_false] at hq
       rcases hq with rfl | rfl
       · exact hqp
       · exact (hA.clash hqp (by rw [e]; exact hy)).elim
     · cases h
 | [], hzc, _ => cases hzc
 | [_], hzc, _ => cases hzc
 | _ :: _ :: _ :: _, hzc, _ => cases hzc
theorem reach_true {f : List (List Int)} {p : List Int} (hA : Asc p) (hc : ∀ c ∈ f, ∃ y ∈ c, y ∈ p) {x z : Int} (hx : x ∈ p) (h : z ∈ reachL f x) : z ∈ p := by
 have := ((reachL_spec f x).2.2 z).1 h
 clear h
 induction this with
 | start => exact hx
 | step _ hz ih => exact edge_true hA hc ih hz
theorem many_vars {f : List (List Int)} (h : (VarsV f).length ≤ 64) : manyB (VarsV f) = true := by
 unfold manyB
 have hpos : ∀ x ∈ VarsV f, 0 < x ∧ varOf x = x := fun x hx => by
  obtain ⟨h0, c, -, y, -, he⟩ := (mem_VarsV f x).1 hx
  have hr := varOf_range y
  refine ⟨h0, ?_⟩
  unfold varOf
  rw [if_pos (by omega)]
  omega
 rw [Bool.and_eq_true, Bool.and_eq_true, decide_eq_true_eq, List.all_eq_true]
 refine ⟨⟨h, (mayB_iff _).2 ⟨?_, fun x hx => by have := hpos x hx; omega⟩⟩, fun x hx => decide_eq_true (by have := hpos x hx; omega)⟩
 refine List.Pairwise.imp_of_mem (fun {a b} ha hb hab => ?_) (varsTo_sorted f 65537)
 rw [(hpos a ha).2, (hpos b hb).2]
 exact hab
theorem point_all {f : List (List Int)} {n : Int} (hm : mayCnfB f = true) (h : (VarsV f).length ≤ 64) {c : List Int} (hc : c ∈ f) {x : Int} (hx : x ∈ c) : x ∈ pointL n (VarsV f) ∨ -x ∈ pointL n (VarsV f) := by
 have hv := mayCnf_var hm c hc x hx
 have hr := varOf_range x
 have hin : varOf x ∈ VarsV f := (mem_VarsV f _).2 ⟨by omega, c, hc, x, hx, rfl⟩
 have hmap := (pointL_var n (VarsV f)).trans (many_var (many_vars h))
 rw [← hmap] at hin
 obtain ⟨q, hq, e⟩ := List.mem_map.1 hin
 rcases varOf_inj (by rw [e]; exact hv) e with rfl | rfl
 · exact .inl hq
 · exact .inr (by rwa [] )
theorem point_asc {f : List (List Int)} {n : Int} (h : (VarsV f).length ≤ 64) : Asc (pointL n (VarsV f)) := asc_of_map (many_asc (many_vars h)) (pointL_var n (VarsV f))
structure HoldP (f : List (List Int)) (p : List Int) : Prop where
 fail : ∀ x ∈ FailV f, ValueV p x = 2
 cls : ∀ c ∈ RefClasses f, ∀ y ∈ c, ValueV p y = ValueV p (c.getD 0 0)
 cube : CubeV p (WithinV p (VarsV f)) = 1
 reach : ∀ x ∈ p, ∀ y ∈ ReachV f x, ValueV p y = 1
theorem mem_lits2 {f : List (List Int)} {x : Int} (h : x ∈ lits2 f) : ∃ c ∈ f, x ∈ c := by
 unfold lits2 at h
 obtain ⟨c, hc, hx⟩ := List.mem_flatMap.1 h
 split at hx
 · exact ⟨c, hc, hx⟩
 · cases hx
theorem holds_of {f : List (List Int)} {n : Int} {p : List Int} (hp : p = pointL n (VarsV f)) (h : (VarsV f).length ≤ 64) (hc : CnfV p f = 1) : HoldP f p := by
 obtain ⟨hmp, hm, hcl⟩ := cnf_one hc
 have hA : Asc p := (mayB_iff p).1 hmp
 have hall : ∀ c ∈ f, ∀ x ∈ c, x ∈ p ∨ -x ∈ p := fun c hc x hx => by rw [hp]; exact point_all hm h hc hx
 have hl2 : ∀ x ∈ lits2 f, x ∈ p ∨ -x ∈ p := fun x hx => by
  obtain ⟨c, hc, hxc⟩ := mem_lits2 hx
  exact hall c hc x hxc
 have hg : ∀ x ∈ graphLits f, x ∈ p ∨ -x ∈ p := fun x hx => by
  rcases (mem_graphLits f x).1 hx with h | h
  · exact hl2 x h
  · rcases hl2 _ h with h | h
    · exact .inr h
    · rw [Int.neg_neg] at h; exact .inl h
 have hv1 : ∀ x, x ∈ p → ValueV p x = 1 := fun x hx => by
  unfold ValueV
  rw [if_pos hmp]
  exact (lookI_one (asc_lit hA hx)).2 hx
 have hv2 : ∀ x, -x ∈ p → ValueV p x = 2 := fun x hx => by
  unfold ValueV
  rw [if_pos hmp]
  have hv : varOf x ≠ 0 := by rw [← varOf_neg]; exact asc_lit hA hx
  exact (lookI_two hv).2 ⟨fun h => hA.clash h hx, hx⟩
 refine ⟨fun x hx => ?_, fun c hc y hy => ?_, ?_, fun x hx y hy => ?_⟩
 · unfold FailV at hx
   rw [if_neg (by rw [hm]; simp), List.mem_filter, decide_eq_true_eq] at hx
   rcases hg x hx.1 with h | h
   · exact (hA.clash h (reach_true hA hcl h hx.2)).elim
   · exact hv2 x h
 · unfold RefClasses at hc
   obtain ⟨x, hxg, hx⟩ := List.mem_filterMap.1 hc
   unfold refTake at hx
   split at hx
   · rename_i hcond
     injection hx with hx
     have hd : c.getD 0 0 = x := by
      have := hcond.2.1
      rw [hx] at this
      rw [← this]
      unfold hdI
      cases c <;> rfl
     rw [hd]
     rw [← hx] at hy
     unfold refCl at hy
     rw [List.mem_filter, decide_eq_true_eq, mem_setL] at hy
     have hyx : y ∈ reachL f x := by
      rcases hy.1 with h | h
      · cases h
      · exact h
     rcases hg x hxg with h | h
     · rw [hv1 x h, hv1 y (reach_true hA hcl h hyx)]
     · have hny : y ∉ p := fun h2 => hA.clash (reach_true hA hcl h2 hy.2) h
       have hy2 : y ∈ p ∨ -y ∈ p := by
        rcases (reachL_spec f x).2.1 y hyx with rfl | h3
        · exact hg y hxg
        · exact hl2 y h3
       rw [hv2 x h, hv2 y (hy2.resolve_left hny)]
   · cases hx
 · have hw : WithinV p (VarsV f) = p := by
    unfold WithinV
    rw [if_pos hmp, List.filter_eq_self]
    intro x hx
    have hmap := (pointL_var n (VarsV f)).trans (many_var (many_vars h))
    have : varOf x ∈ VarsV f := by
     rw [← hmap, ← hp]
     exact List.mem_map.2 ⟨x, hx, rfl⟩
    exact decide_eq_true this
   rw [hw]
   unfold CubeV
   rw [if_pos ⟨hmp, hmp⟩]
   unfold cubeV
   rw [searchG_list, if_neg, if_neg]
   · rintro ⟨x, hx, e⟩
     rw [(lookI_one (asc_lit hA hx)).2 hx] at e
     simp at e
   · rintro ⟨x, hx, e⟩
     rw [(lookI_one (asc_lit hA hx)).2 hx] at e
     simp at e
 · unfold ReachV at hy
   split at hy
   · cases hy
   · rw [mem_setL] at hy
     rcases hy with h | h
     · cases h
     · exact hv1 y (reach_true hA hcl hx h)
theorem var_I64 {x : Int} (h : varOf x ≠ 0) : I64 x := by
 have h2 := varOf_range x
 have h3 := varOf_eq h
 unfold I64
 omega
theorem reach_I64 {f : List (List Int)} (hm : mayCnfB f = true) (x : Int) : All64 (ReachV f x) := fun y hy => by
 unfold ReachV at hy
 split at hy
 · cases hy
 · rename_i h
   rw [mem_setL] at hy
   rcases hy with h1 | h1
   · cases h1
   · exact var_I64 (reachL_var hm (fun h0 => h (.inl h0)) y h1)
theorem fail_I64 {f : List (List Int)} (hm : mayCnfB f = true) {x : Int} (hx : x ∈ FailV f) : I64 x := by
 unfold FailV at hx
 rw [if_neg (by rw [hm]; simp), List.mem_filter] at hx
 exact var_I64 (graphLits_var hm x hx.1)
theorem cls_I64 {f : List (List Int)} (hm : mayCnfB f = true) {c : List Int} (hc : c ∈ RefClasses f) : ∀ y ∈ c, I64 y := fun y hy => by
 unfold RefClasses at hc
 obtain ⟨x, hxg, hx⟩ := List.mem_filterMap.1 hc
 unfold refTake at hx
 split at hx
 · injection hx with hx
   rw [← hx] at hy
   unfold refCl at hy
   rw [List.mem_filter, mem_setL] at hy
   rcases hy.1 with h1 | h1
   · cases h1
   · exact var_I64 (reachL_var hm (graphLits_var hm x hxg) y h1)
 · cases hx
end Go.Proofs.YtjecjaihficcdaaGreat
