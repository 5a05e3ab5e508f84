/- Walks and plain laws that this claim uses. -/
import Derived.Test.YtjecjaihficcdaaGreatSxI
import Derived.Test.YtjecjaihficcdaaGreatSxE
import Derived.Test.YtjecjaihficcdaaGreatSxA
import Derived.Test.YtjecjaihficcdaaGreatSxG
import Derived.Deep.Cut
import Derived.Test.YtjecjaihficcdaaGreatSxF
import Derived.Test.YtjecjaihficcdaaGreatSxD
namespace Go.Proofs.YtjecjaihficcdaaGreat
set_option maxRecDepth 100000 in
theorem aw_cl1 : RefClasses [[1, 2], [1, -2], [-1, 2], [-1, -2]] = [[-1, 1, -2, 2]] := by decide +kernel
set_option maxRecDepth 100000 in
theorem aw_cl2 : RefClasses [[1, 2], [1, -2]] = [] := by decide +kernel
set_option maxRecDepth 100000 in
theorem aw_cl3 : RefClasses [[1, 2], [-1, -2]] = [[1, -2]] := by decide +kernel
set_option maxRecDepth 100000 in
theorem aw_f1 : FailV [[1, 2], [1, -2], [-1, 2], [-1, -2]] = [-1, 1, -2, 2] := by decide +kernel
set_option maxRecDepth 100000 in
theorem aw_f2 : FailV [[1, 2], [1, -2]] = [-1] := by decide +kernel
set_option maxRecDepth 100000 in
theorem aw_r1 : ReachV [[1, 2], [-2, 3]] (-1) = [-1, 2, 3] := by decide +kernel
set_option maxRecDepth 100000 in
theorem aw_m1 : (MakeV ⟨[1], [(2, [1]), (3, [1])], [[-2, 3], [2, -3], [2, 3]]⟩ ⟨6, 2, 3, 0, 1⟩).2 = 0 ∧ (MakeV ⟨[1], [(2, [1]), (3, [1])], [[-2, 3], [2, -3], [2, 3]]⟩ ⟨6, 2, 3, 0, 1⟩).1.clauses = [[3]] ∧ (MakeV ⟨[1], [(2, [1]), (3, [1])], [[-2, 3], [2, -3], [2, 3]]⟩ ⟨6, 2, 3, 0, 1⟩).1.exist.length = 1 := by decide +kernel
set_option maxRecDepth 100000 in
theorem aw_n1 : (nextP ⟨[1], [(2, [1]), (3, [1])], [[-2, 3], [2, -3], [2, 3]]⟩).map (fun c => (c.kind, c.lit, c.tz, c.pos, c.other)) = some (6, 2, 3, 0, 1) := by decide +kernel
set_option maxRecDepth 100000 in
theorem aw_n2 : (nextP ⟨[1], [(2, [])], [[-1, 2], [1, -2]]⟩).isSome = false := by decide +kernel
end Go.Proofs.YtjecjaihficcdaaGreat
namespace Go.Proofs.YtjecjaihficcdaaGreat
open Go.RowKit
theorem Ext.step {a b : World} (o : Obj) (h : Ext a b) : Ext a (b.alloc o) := h.trans (Ext.alloc b o)
theorem st1 (w : World) (n : Nat) (hn : w.heap.size = n) (x : Int) : ∃ W : World, W = w.alloc (.cells #[.int .i64 x] 3) ∧ RI W (.slice (some ⟨n, 0, none⟩) 1 1) [x] ∧ Ext w W ∧ W.heap.size = n + 1 :=
 ⟨_, rfl, hn ▸ lit0 w [x] (by simp), Ext.alloc w _, by simp [hn]⟩
theorem st2 (w : World) (n : Nat) (hn : w.heap.size = n) (x y : Int) : ∃ W : World, W = w.alloc (.cells #[.int .i64 x, .int .i64 y] 3) ∧ RI W (.slice (some ⟨n, 0, none⟩) 2 2) [x, y] ∧ Ext w W ∧ W.heap.size = n + 1 :=
 ⟨_, rfl, hn ▸ lit0 w [x, y] (by simp), Ext.alloc w _, by simp [hn]⟩
theorem stL (w : World) (n : Nat) (hn : w.heap.size = n) (vs : List Value) (k : Nat) (f : List (List Int)) (hk : vs.length = k) (hl : vs.length = f.length) (hm : k ≤ 1000000) (h : ∀ j (h : j < vs.length) (h' : j < f.length), RI w vs[j] f[j]) :
 ∃ W : World, W = w.alloc (.cells vs.toArray 24) ∧ RLL W (.slice (some ⟨n, 0, none⟩) k k) f ∧ Ext w W ∧ W.heap.size = n + 1 :=
 ⟨_, rfl, hk ▸ hn ▸ rll_lit w vs f hl (hk ▸ hm) h, Ext.alloc w _, by simp [hn]⟩
theorem encX_at : ∀ (ps : List (Int × Value)) (j : Nat) (h : j < ps.length), (encX ps)[j * 2]? = some (.int .i64 ps[j].1) ∧ (encX ps)[j * 2 + 1]? = some ps[j].2 := by
 intro ps
 induction ps with
 | nil => intro j h; exact absurd h (Nat.not_lt_zero j)
 | cons p ps ih =>
   intro j h
   have e : encX (p :: ps) = .int .i64 p.1 :: p.2 :: encX ps := rfl
   cases j with
   | zero => rw [e]; exact ⟨rfl, rfl⟩
   | succ j =>
     have := ih j (by simpa using h)
     rw [e, show (j + 1) * 2 = j * 2 + 1 + 1 by omega]
     simp only [List.getElem?_cons_succ, List.getElem_cons_succ]
     exact this
theorem stX (w : World) (n : Nat) (hn : w.heap.size = n) (ps : List (Int × Value)) (k : Nat) (X : List (Int × List Int)) (hk : ps.length = k) (hl : ps.length = X.length) (hm : k ≤ 1000000) (h : ∀ j (h : j < ps.length) (h' : j < X.length), ps[j].1 = X[j].1 ∧ RI w ps[j].2 X[j].2) :
 ∃ W : World, W = w.alloc (.cells (encX ps).toArray 61) ∧ RX W (.slice (some ⟨n, 0, none⟩) k k) X ∧ Ext w W ∧ W.heap.size = n + 1 := by
 subst hn hk
 refine ⟨_, rfl, ⟨_, ps.length, ps.map Prod.snd, by rw [hl], by omega, by omega, by rw [List.length_map, hl], fun j hj hj' => ⟨_, rfl, ?_, ?_, ?_⟩⟩, Ext.alloc w _, by simp⟩
 · obtain ⟨q1, q2⟩ := encX_at ps j (by omega)
   rw [addr0, (Blk.new w 61 (encX ps)).cell, q1, (h j (by omega) hj).1]
 · obtain ⟨q1, q2⟩ := encX_at ps j (by omega)
   rw [addr0]
   show World.cell? _ ⟨w.heap.size, j * 2 + 1, none⟩ = _
   rw [(Blk.new w 61 (encX ps)).cell, q2, List.getElem_map]
 · rw [List.getElem_map]
   exact (h j (by omega) hj).2.ext (Ext.alloc w _)
def awD1 : DqV := ⟨[1], [(2, [1]), (3, [1])], [[-2, 3], [2, -3], [2, 3]]⟩
def awD2 : DqV := ⟨[1], [(2, [])], [[-1, 2], [1, -2]]⟩
def awF : List (List Int) := [[1, 2], [1, -2], [-1, 2], [-1, -2]]
theorem dok_of (d : DqV) (h1 : (d.univ.all fun x => decide (-9223372036854775808 ≤ x ∧ x ≤ 9223372036854775807)) = true) (h2 : (d.exist.all fun p => decide (-9223372036854775808 ≤ p.1 ∧ p.1 ≤ 9223372036854775807) && p.2.all fun x => decide (-9223372036854775808 ≤ x ∧ x ≤ 9223372036854775807)) = true)
 (h3 : (d.clauses.all fun xs => xs.all fun x => decide (-9223372036854775808 ≤ x ∧ x ≤ 9223372036854775807)) = true) (h4 : d.univ.length ≤ 1000000) (h5 : d.exist.length ≤ 1000000) (h6 : (d.exist.all fun p => decide (p.2.length ≤ 1000000)) = true) (h7 : d.clauses.length ≤ 1000000) (h8 : total d.clauses ≤ 1000000) : DOk d :=
 ⟨all64_of _ h1, fun x hx => by
  have := List.all_eq_true.1 h2 x hx
  rw [Bool.and_eq_true] at this
  have h9 := of_decide_eq_true this.1
  exact ⟨h9, all64_of _ this.2⟩, all64L_of _ h3, h4, h5, fun x hx => of_decide_eq_true (List.all_eq_true.1 h6 x hx), h7, h8⟩
theorem awD1_ok : DOk awD1 := dok_of _ (by decide) (by decide) (by decide) (by decide) (by decide) (by decide) (by decide) (by decide)
theorem awD2_ok : DOk awD2 := dok_of _ (by decide) (by decide) (by decide) (by decide) (by decide) (by decide) (by decide) (by decide)
theorem aw_next1 : nextP awD1 = some ⟨6, 2, 3, 0, 1⟩ := by
 have h := aw_n1
 change (nextP awD1).map _ = _ at h
 cases hn : nextP awD1 with
 | none => rw [hn] at h; cases h
 | some c =>
   rw [hn] at h
   simp only [Option.map_some, Option.some.injEq, Prod.mk.injEq] at h
   obtain ⟨h1, h2, h3, h4, h5⟩ := h
   obtain ⟨k, l, t, p, o⟩ := c
   simp only at h1 h2 h3 h4 h5
   rw [h1, h2, h3, h4, h5]
theorem aw_next2 : nextP awD2 = none := by
 have h := aw_n2
 change (nextP awD2).isSome = false at h
 cases hn : nextP awD2 with
 | none => rfl
 | some c => rw [hn] at h; cases h
theorem aw_new1 (w : World) : ∃ W : World, W = ((((((((w.alloc (.cells #[.int .i64 1] 3)).alloc (.cells #[.int .i64 1] 3)).alloc (.cells #[.int .i64 1] 3)).alloc
 (.cells #[.int .i64 2, .slice (some ⟨w.heap.size + 1, 0, none⟩) 1 1, .int .i64 3, .slice (some ⟨w.heap.size + 1 + 1, 0, none⟩) 1 1] 61)).alloc
 (.cells #[.int .i64 (-2), .int .i64 3] 3)).alloc (.cells #[.int .i64 2, .int .i64 (-3)] 3)).alloc (.cells #[.int .i64 2, .int .i64 3] 3)).alloc
 (.cells #[.slice (some ⟨w.heap.size + 1 + 1 + 1 + 1, 0, none⟩) 2 2, .slice (some ⟨w.heap.size + 1 + 1 + 1 + 1 + 1, 0, none⟩) 2 2, .slice (some ⟨w.heap.size + 1 + 1 + 1 + 1 + 1 + 1, 0, none⟩) 2 2] 24)).alloc
 (.cells #[.slice (some ⟨w.heap.size, 0, none⟩) 1 1, .slice (some ⟨w.heap.size + 1 + 1 + 1, 0, none⟩) 2 2, .slice (some ⟨w.heap.size + 1 + 1 + 1 + 1 + 1 + 1 + 1, 0, none⟩) 3 3] 27) ∧
 RD W (.slice (some ⟨w.heap.size, 0, none⟩) 1 1) (.slice (some ⟨w.heap.size + 1 + 1 + 1, 0, none⟩) 2 2) (.slice (some ⟨w.heap.size + 1 + 1 + 1 + 1 + 1 + 1 + 1, 0, none⟩) 3 3) awD1 ∧
 Blk W (w.heap.size + 1 + 1 + 1 + 1 + 1 + 1 + 1 + 1) 27 [.slice (some ⟨w.heap.size, 0, none⟩) 1 1, .slice (some ⟨w.heap.size + 1 + 1 + 1, 0, none⟩) 2 2, .slice (some ⟨w.heap.size + 1 + 1 + 1 + 1 + 1 + 1 + 1, 0, none⟩) 3 3] ∧ Ext w W := by
 obtain ⟨w1, h1, r1, e1, s1⟩ := st1 w _ rfl 1
 obtain ⟨w2, h2, r2, e2, s2⟩ := st1 w1 _ s1 1
 obtain ⟨w3, h3, r3, e3, s3⟩ := st1 w2 _ s2 1
 obtain ⟨w4, h4, r4, e4, s4⟩ := stX w3 _ s3 [(2, .slice (some ⟨w.heap.size + 1, 0, none⟩) 1 1), (3, .slice (some ⟨w.heap.size + 1 + 1, 0, none⟩) 1 1)] 2 [(2, [1]), (3, [1])] rfl rfl (by decide) fun j hj hj' => by
  match j, hj with
  | 0, _ => exact ⟨rfl, r2.ext e3⟩
  | 1, _ => exact ⟨rfl, r3⟩
 obtain ⟨w5, h5, r5, e5, s5⟩ := st2 w4 _ s4 (-2) 3
 obtain ⟨w6, h6, r6, e6, s6⟩ := st2 w5 _ s5 2 (-3)
 obtain ⟨w7, h7, r7, e7, s7⟩ := st2 w6 _ s6 2 3
 obtain ⟨w8, h8, r8, e8, s8⟩ := stL w7 _ s7 [.slice (some ⟨w.heap.size + 1 + 1 + 1 + 1, 0, none⟩) 2 2, .slice (some ⟨w.heap.size + 1 + 1 + 1 + 1 + 1, 0, none⟩) 2 2, .slice (some ⟨w.heap.size + 1 + 1 + 1 + 1 + 1 + 1, 0, none⟩) 2 2] 3 [[-2, 3], [2, -3], [2, 3]] rfl rfl (by decide) fun j hj hj' => by
  match j, hj with
  | 0, _ => exact r5.ext (e6.trans e7)
  | 1, _ => exact r6.ext e7
  | 2, _ => exact r7
 have e9 := Ext.alloc w8 (.cells #[.slice (some ⟨w.heap.size, 0, none⟩) 1 1, .slice (some ⟨w.heap.size + 1 + 1 + 1, 0, none⟩) 2 2, .slice (some ⟨w.heap.size + 1 + 1 + 1 + 1 + 1 + 1 + 1, 0, none⟩) 3 3] 27)
 have e59 := ((((e5.trans e6).trans e7).trans e8).trans e9)
 have e29 := ((e2.trans e3).trans e4).trans e59
 refine ⟨_, ?_, ⟨r1.ext e29, r4.ext e59, RLL.ext' r8 e9⟩, ?_, e1.trans e29⟩
 · rw [h8, h7, h6, h5, h4, h3, h2, h1]; rfl
 · exact Blk.new' (by rw [s8])
theorem aw_new2 (w : World) : ∃ W : World, W = ((((w.alloc (.cells #[.int .i64 1] 3)).alloc (.cells #[.int .i64 2, .slice none 0 0] 61)).alloc
 (.cells #[.int .i64 (-1), .int .i64 2] 3)).alloc (.cells #[.int .i64 1, .int .i64 (-2)] 3)).alloc
 (.cells #[.slice (some ⟨w.heap.size + 1 + 1, 0, none⟩) 2 2, .slice (some ⟨w.heap.size + 1 + 1 + 1, 0, none⟩) 2 2] 24) ∧
 RD W (.slice (some ⟨w.heap.size, 0, none⟩) 1 1) (.slice (some ⟨w.heap.size + 1, 0, none⟩) 1 1) (.slice (some ⟨w.heap.size + 1 + 1 + 1 + 1, 0, none⟩) 2 2) awD2 ∧ Ext w W := by
 obtain ⟨w1, h1, r1, e1, s1⟩ := st1 w _ rfl 1
 obtain ⟨w2, h2, r2, e2, s2⟩ := stX w1 _ s1 [(2, .slice none 0 0)] 1 [(2, [])] rfl rfl (by decide) fun j hj hj' => by
  match j, hj with
  | 0, _ => exact ⟨rfl, RI.none _⟩
 obtain ⟨w3, h3, r3, e3, s3⟩ := st2 w2 _ s2 (-1) 2
 obtain ⟨w4, h4, r4, e4, s4⟩ := st2 w3 _ s3 1 (-2)
 obtain ⟨w5, h5, r5, e5, s5⟩ := stL w4 _ s4 [.slice (some ⟨w.heap.size + 1 + 1, 0, none⟩) 2 2, .slice (some ⟨w.heap.size + 1 + 1 + 1, 0, none⟩) 2 2] 2 [[-1, 2], [1, -2]] rfl rfl (by decide) fun j hj hj' => by
  match j, hj with
  | 0, _ => exact r3.ext e4
  | 1, _ => exact r4
 refine ⟨_, ?_, ⟨r1.ext (e2.trans (e3.trans (e4.trans e5))), r2.ext (e3.trans (e4.trans e5)), r5⟩, e1.trans (e2.trans (e3.trans (e4.trans e5)))⟩
 rw [h5, h4, h3, h2, h1]; rfl
theorem aw_new3 (w : World) : ∃ W : World, W = ((((w.alloc (.cells #[.int .i64 1, .int .i64 2] 3)).alloc (.cells #[.int .i64 1, .int .i64 (-2)] 3)).alloc
 (.cells #[.int .i64 (-1), .int .i64 2] 3)).alloc (.cells #[.int .i64 (-1), .int .i64 (-2)] 3)).alloc
 (.cells #[.slice (some ⟨w.heap.size, 0, none⟩) 2 2, .slice (some ⟨w.heap.size + 1, 0, none⟩) 2 2, .slice (some ⟨w.heap.size + 1 + 1, 0, none⟩) 2 2, .slice (some ⟨w.heap.size + 1 + 1 + 1, 0, none⟩) 2 2] 24) ∧
 RLL W (.slice (some ⟨w.heap.size + 1 + 1 + 1 + 1, 0, none⟩) 4 4) awF ∧ Ext w W := by
 obtain ⟨w1, h1, r1, e1, s1⟩ := st2 w _ rfl 1 2
 obtain ⟨w2, h2, r2, e2, s2⟩ := st2 w1 _ s1 1 (-2)
 obtain ⟨w3, h3, r3, e3, s3⟩ := st2 w2 _ s2 (-1) 2
 obtain ⟨w4, h4, r4, e4, s4⟩ := st2 w3 _ s3 (-1) (-2)
 obtain ⟨w5, h5, r5, e5, s5⟩ := stL w4 _ s4 [.slice (some ⟨w.heap.size, 0, none⟩) 2 2, .slice (some ⟨w.heap.size + 1, 0, none⟩) 2 2, .slice (some ⟨w.heap.size + 1 + 1, 0, none⟩) 2 2, .slice (some ⟨w.heap.size + 1 + 1 + 1, 0, none⟩) 2 2] 4 awF rfl rfl (by decide) fun j hj hj' => by
  match j, hj with
  | 0, _ => exact r1.ext (e2.trans (e3.trans e4))
  | 1, _ => exact r2.ext (e3.trans e4)
  | 2, _ => exact r3.ext e4
  | 3, _ => exact r4
 refine ⟨_, ?_, r5, e1.trans (e2.trans (e3.trans (e4.trans e5)))⟩
 rw [h5, h4, h3, h2, h1]
theorem RLL.take {w : World} {A : Option Addr} {n c : Nat} {f : List (List Int)} (h : RLL w (.slice A n c) f) (k : Nat) (hk : k ≤ f.length) : RLL w (.slice A k c) (f.take k) := by
 obtain ⟨A', c', vs, e, h1, h2, h3, h4, h5⟩ := h
 injection e with e1 e2 e3
 subst e1 e3
 refine ⟨A, c, vs.take k, by rw [List.length_take]; congr 1; omega, by rw [List.length_take]; omega, by rw [List.length_take]; omega, fun j hj => ?_, by rw [List.length_take, List.length_take]; omega, fun j hj hj' => ?_⟩
 · rw [List.length_take] at hj
   obtain ⟨ad, h6, h7⟩ := h3 j (by omega)
   exact ⟨ad, h6, by rw [h7, List.getElem_take]⟩
 · simp only [List.getElem_take]
   rw [List.length_take] at hj hj'
   exact h5 j (by omega) (by omega)
end Go.Proofs.YtjecjaihficcdaaGreat
namespace Go.Proofs.YtjecjaihficcdaaGreat
open Go.RowKit
set_option maxHeartbeats 2000000 in
theorem Same_q (xs ys : List Int) (v u : Value) (w : World) (hr : RI w v xs) (kr : RI w u ys) :
 Calls Tryz.prog 11 #[v, u] w fun e w' => e = .returned (.bool (decide (xs = ys))) ∧ ∃ n, w' = w.drewN n := by
 have HR := Lib.hid hr
 have KR := Lib.hid kr
 obtain ⟨A, c, rfl, h1, h2, h3⟩ := hr
 obtain ⟨B, d, rfl, k1, k2, k3⟩ := kr
 clear h3 k3
 by_cases hl : xs.length = ys.length
 · obtain ⟨m, hm⟩ : ∃ m, m = ys.length := ⟨_, rfl⟩
   have HM := Lib.hid hm
   rw [← hm] at hl k1 k2 KR ⊢
   rw [hl] at HR h1 h2 ⊢
   have HL := Lib.hid hl
   clear hl hm
   have hnm : ((m : Int) != (m : Int)) = false := by simp
   go_enter Tryz.func11, Tryz.ntmps11
   go_wp2
   go_loopg [5] m (fun gn i wr => ∃ k : Nat, k ≤ m ∧ gn + k = m ∧ i = .int .i64 k ∧ Hid ((∃ n, wr = w.drewN n) ∧ xs.take k = ys.take k))
   case atStart => exact ⟨0, Nat.zero_le _, by omega, rfl, ⟨0, rfl⟩, by simp⟩
   case round =>
    obtain ⟨k, hk, hgk, rfl, HI⟩ := hrel
    obtain ⟨wk, rfl⟩ : ∃ wk : World, wk = wr := ⟨_, rfl⟩
    have HE : Hid (Ext w wk) := Lib.hid (by obtain ⟨n, e⟩ := HI.out.1; rw [e]; exact Ext.drewN _ _)
    by_cases hlt : k < m
    · have hlx : k < xs.length := by have := HL.out; omega
      have hly : k < ys.length := by have := HM.out; omega
      obtain ⟨ad, rfl, hx0⟩ := (HR.out.ext HE.out).row.2.2.2.int k hlx
      obtain ⟨bd, rfl, hy0⟩ := (KR.out.ext HE.out).row.2.2.2.int k hly
      have hsx := List.take_succ_eq_append_getElem hlx
      have hsy := List.take_succ_eq_append_getElem hly
      obtain ⟨x, hx⟩ : ∃ x, x = xs[k] := ⟨_, rfl⟩
      obtain ⟨y, hy⟩ : ∃ y, y = ys[k] := ⟨_, rfl⟩
      rw [← hx] at hx0 hsx
      rw [← hy] at hy0 hsy
      have HSX := Lib.hid hsx
      have HSY := Lib.hid hsy
      clear hx hy hsx hsy hlx hly
      by_cases hxy : x = y
      · subst hxy
        have hxx : (x != x) = false := by simp
        go_wp2
        go_quiet (fail)
        go_wp2
        go_roundg (m - (k + 1))
        case measure => omega
        case rel =>
         refine ⟨k + 1, by omega, by omega, by go_num, ?_, by rw [HSX.out, HSY.out, HI.out.2]⟩
         obtain ⟨n, e⟩ := HI.out.1
         exact ⟨_, by rw [e, drewN_two]⟩
      · have hxx : (x != y) = true := by simpa using hxy
        have HXY := Lib.hid hxy
        clear hxy
        go_wp2
        go_quiet (fail)
        go_wp2
        go_ret
        refine ⟨ret_bool ?_, ?_⟩
        · symm
          rw [decide_eq_false_iff_not]
          intro e
          have h5 := congrArg (List.take (k + 1)) e
          rw [HSX.out, HSY.out, HI.out.2] at h5
          exact HXY.out (by simpa using h5)
        · obtain ⟨n, e⟩ := HI.out.1
          exact ⟨_, by rw [e, drewN_two]⟩
    · obtain rfl : k = m := by omega
      go_wp2
      go_ret
      refine ⟨ret_bool ?_, HI.out.1⟩
      symm
      rw [decide_eq_true_eq]
      have h5 := HI.out.2
      rwa [List.take_of_length_le (by have := HL.out; omega), List.take_of_length_le (by have := HM.out; omega)] at h5
 · have hnb : ((xs.length : Int) != (ys.length : Int)) = true := by simp; omega
   have HL := Lib.hid hl
   clear hl
   go_enter Tryz.func11, Tryz.ntmps11
   go_wp2
   go_ret
   refine ⟨ret_bool ?_, 0, rfl⟩
   symm
   rw [decide_eq_false_iff_not]
   intro e
   exact HL.out (by rw [e])
theorem Same_any (xs ys : List Int) (v u : Value) (w : World) (hr : RI w v xs) (kr : RI w u ys) : Calls Tryz.prog 11 #[v, u] w fun e w' => e = .returned (.bool (decide (xs = ys))) ∧ Ext w w' :=
 (Same_q xs ys v u w hr kr).mono fun _ _ ⟨h, n, e⟩ => ⟨h, e ▸ Ext.drewN w n⟩
theorem Same_refl (r : List Int) (v u : Value) (w : World) (hr : RI w v r) (kr : RI w u r) : Calls Tryz.prog 11 #[v, u] w fun e w' => e = .returned (.bool true) ∧ Ext w w' := by
 have := Same_any r r v u w hr kr
 rw [decide_eq_true rfl] at this
 exact this
set_option maxHeartbeats 2000000 in
theorem SameAll_any (xs ys : List (List Int)) (v u : Value) (w : World) (hr : RLL w v xs) (kr : RLL w u ys) :
 Calls Tryz.prog 16 #[v, u] w fun e w' => e = .returned (.bool (decide (xs = ys))) ∧ Ext w w' := by
 obtain ⟨A, c, vs, rfl, h1, h2, h3, h4, h5⟩ := hr
 obtain ⟨B, d, us, rfl, k1, k2, k3, k4, k5⟩ := kr
 have H3 := Lib.hid h3
 have H4 := Lib.hid h4
 have H5 := Lib.hid h5
 have K3 := Lib.hid k3
 have K4 := Lib.hid k4
 have K5 := Lib.hid k5
 clear h3 h4 h5 k3 k4 k5
 by_cases hl : vs.length = us.length
 · obtain ⟨m, hm⟩ : ∃ m, m = us.length := ⟨_, rfl⟩
   have HM := Lib.hid hm
   rw [← hm] at hl k1 k2 ⊢
   rw [hl] at h1 h2 ⊢
   have HL := Lib.hid hl
   clear hl hm
   have hnm : ((m : Int) != (m : Int)) = false := by simp
   go_enter Tryz.func16, Tryz.ntmps16
   go_wp2
   go_loopg [5] m (fun gn i wr => ∃ k : Nat, k ≤ m ∧ gn + k = m ∧ i = .int .i64 k ∧ Hid (Ext w wr ∧ xs.take k = ys.take k))
   case atStart => exact ⟨0, Nat.zero_le _, by omega, rfl, Ext.refl _, by simp⟩
   case round =>
    obtain ⟨k, hk, hgk, rfl, HI⟩ := hrel
    obtain ⟨wk, rfl⟩ : ∃ wk : World, wk = wr := ⟨_, rfl⟩
    by_cases hlt : k < m
    · have hlv : k < vs.length := by have := HL.out; omega
      have hlu : k < us.length := by have := HM.out; omega
      have hlx : k < xs.length := by have := H4.out; omega
      have hly : k < ys.length := by have := K4.out; omega
      obtain ⟨ad, rfl, hx0⟩ := (H3.out.ext HI.out.1) k hlv
      obtain ⟨bd, rfl, hy0⟩ := (K3.out.ext HI.out.1) k hlu
      have hsx := List.take_succ_eq_append_getElem hlx
      have hsy := List.take_succ_eq_append_getElem hly
      have hcl : ∀ n, Calls Tryz.prog 11 #[vs[k], us[k]] (wk.drewN n) fun e w' => e = .returned (.bool (decide (xs[k] = ys[k]))) ∧ ∃ q, w' = wk.drewN q := fun n => by
       have e0 : Ext w (wk.drewN n) := HI.out.1.trans (Ext.drewN _ _)
       refine (Same_q xs[k] ys[k] vs[k] us[k] _ ((H5.out k hlv hlx).ext e0) ((K5.out k hlu hly).ext e0)).mono ?_
       rintro e w' ⟨he, q, rfl⟩
       exact ⟨he, n + q, drewN_two _ _ _⟩
      obtain ⟨E, ce, he, -⟩ := H5.out k hlv hlx
      obtain ⟨D, de, hd, -⟩ := K5.out k hlu hly
      obtain ⟨x, hx⟩ : ∃ x, x = xs[k] := ⟨_, rfl⟩
      obtain ⟨y, hy⟩ : ∃ y, y = ys[k] := ⟨_, rfl⟩
      rw [he] at hx0 hcl
      rw [hd] at hy0 hcl
      rw [← hx] at hsx hx0 hcl
      rw [← hy] at hsy hy0 hcl
      have HSX := Lib.hid hsx
      have HSY := Lib.hid hsy
      obtain ⟨a, ha⟩ : ∃ a, a = x.length := ⟨_, rfl⟩
      obtain ⟨b, hb⟩ : ∃ b, b = y.length := ⟨_, rfl⟩
      rw [← ha] at hx0 hcl
      rw [← hb] at hy0 hcl
      clear hx hy hsx hsy hlx hly hlv hlu he hd ha hb
      by_cases hxy : x = y
      · rw [decide_eq_true hxy] at hcl
        have HXY := Lib.hid hxy
        have HCL := Lib.hid hcl
        clear hxy hcl
        go_wp2
        go_quiet ((go_at_call 11; exact HCL.out _))
        go_wp2
        go_roundg (m - (k + 1))
        case measure => omega
        case rel => exact ⟨k + 1, by omega, by omega, by go_num, HI.out.1.trans (Ext.drewN _ _), by rw [HSX.out, HSY.out, HI.out.2, HXY.out]⟩
      · rw [decide_eq_false hxy] at hcl
        have HXY := Lib.hid hxy
        have HCL := Lib.hid hcl
        clear hxy hcl
        go_wp2
        go_quiet ((go_at_call 11; exact HCL.out _))
        go_wp2
        go_ret
        refine ⟨ret_bool ?_, HI.out.1.trans (Ext.drewN _ _)⟩
        symm
        rw [decide_eq_false_iff_not]
        intro e
        have h5 := congrArg (List.take (k + 1)) e
        rw [HSX.out, HSY.out, HI.out.2] at h5
        exact HXY.out (by simpa using h5)
    · obtain rfl : k = m := by omega
      go_wp2
      go_ret
      refine ⟨ret_bool ?_, HI.out.1⟩
      symm
      rw [decide_eq_true_eq]
      have h5 := HI.out.2
      rwa [List.take_of_length_le (by have := HL.out; have := H4.out; omega), List.take_of_length_le (by have := HM.out; have := K4.out; omega)] at h5
 · have hnb : ((vs.length : Int) != (us.length : Int)) = true := by simp; omega
   have HL := Lib.hid hl
   clear hl
   go_enter Tryz.func16, Tryz.ntmps16
   go_wp2
   go_ret
   refine ⟨ret_bool ?_, Ext.refl _⟩
   symm
   rw [decide_eq_false_iff_not]
   intro e
   exact HL.out (by have := H4.out; have := K4.out; have := congrArg List.length e; omega)
end Go.Proofs.YtjecjaihficcdaaGreat
namespace Go.Proofs.YtjecjaihficcdaaGreat
open Go.RowKit
theorem aw_class (f L : List (List Int)) (u : Value) (w : World) (kr : RLL w u f) (h64 : All64L f) (hm : mayCnfB f = true) (ht : total f ≤ 1000000) (hL : RefClasses f = L) :
 Calls Tryz.prog 17 #[u] w fun e w' => ∃ v, e = .returned v ∧ RLL w' v L ∧ Ext w w' := by
 refine (classes_any f u w kr h64 (fun _ => by omega)).mono ?_
 rintro e w' ⟨v, L', rfl, hr, hE, -, hc⟩
 rw [classes_ref hm (hc hm), hL] at hr
 exact ⟨v, rfl, hr, hE⟩
theorem SameAll_refl (f : List (List Int)) (v u : Value) (w : World) (hr : RLL w v f) (kr : RLL w u f) : Calls Tryz.prog 16 #[v, u] w fun e w' => e = .returned (.bool true) ∧ Ext w w' := by
 have := SameAll_any f f v u w hr kr
 rwa [decide_eq_true rfl] at this
theorem RLL.nil_form {w : World} {v : Value} (h : RLL w v []) : ∃ A c, v = .slice A 0 c := by
 obtain ⟨A, c, vs, rfl, -, -, -, hl, -⟩ := h
 exact ⟨A, c, by rw [show vs.length = 0 from hl]⟩
theorem aw_fail (f : List (List Int)) (xs : List Int) (u : Value) (w : World) (kr : RLL w u f) (h64 : All64L f) (ht : total f ≤ 1000000) (hL : FailV f = xs) :
 Calls Tryz.prog 14 #[u] w fun e w' => ∃ v, e = .returned v ∧ RI w' v xs ∧ Ext w w' := by
 refine (Failed_any f u w h64 kr (fun _ => by omega)).mono ?_
 rintro e w' ⟨v, rfl, hr, hE⟩
 rw [hL] at hr
 exact ⟨v, rfl, hr.reads, hE⟩
set_option maxRecDepth 100000 in
set_option maxHeartbeats 20000000 in
theorem awake_any (w : World) : Calls Tryz.prog 10 #[] w fun e w' => e = .returned (.bool true) ∧ Ext w w' := by
 obtain ⟨w1, h1, hRD1, hB1, hE1⟩ := aw_new1 w
 have HRD1 := Lib.hid hRD1
 have HB1 := Lib.hid hB1
 have HE1 := Lib.hid hE1
 go_enter Tryz.func10, Tryz.ntmps10
 go_upto_region 2 with fail
 rw [← h1]
 have d0 := hB1.cell 0
 have d1 := hB1.cell 1
 have d2 := hB1.cell 2
 simp only [List.getElem?_cons_zero, List.getElem?_cons_succ] at d0 d1 d2
 clear h1 hRD1 hB1 hE1
 generalize w.heap.size = b at HRD1 HB1 d0 d1 d2 ⊢
 generalize hb8 : b + 1 + 1 + 1 + 1 + 1 + 1 + 1 + 1 = b8 at HB1 d0 d1 d2 ⊢
 generalize Value.slice (some ⟨b, 0, none⟩) 1 1 = vu at *
 generalize Value.slice (some ⟨b + 1 + 1 + 1, 0, none⟩) 2 2 = vx at *
 generalize Value.slice (some ⟨b + 1 + 1 + 1 + 1 + 1 + 1 + 1, 0, none⟩) 3 3 = vc at *
 have HN : Hid (∀ w', Ext w1 w' → Calls Tryz.prog 19 #[.agg #[vu, vx, vc]] w' fun e w'' => e = .returned (.tuple #[.agg #[.int .u8 6, .int .i64 2, .int .i64 3, .int .i64 0, .int .i64 1], .bool true]) ∧ Ext w' w'') := Lib.hid (fun w' h => by
  have := Next_any awD1 _ _ _ w' (HRD1.out.ext h) awD1_ok
  rw [aw_next1] at this
  exact this)
 have HMK : Hid (∀ w', Ext w1 w' → Calls Tryz.prog 21 #[.agg #[vu, vx, vc], .agg #[.int .u8 6, .int .i64 2, .int .i64 3, .int .i64 0, .int .i64 1]] w' (PostMake w' (MakeV awD1 ⟨6, 2, 3, 0, 1⟩))) := Lib.hid (fun w' h => Make_any awD1 ⟨6, 2, 3, 0, 1⟩ _ _ _ w' (HRD1.out.ext h) awD1_ok ⟨by show I64 2; unfold I64; omega, by show I64 3; unfold I64; omega, by show I64 0; unfold I64; omega, by show I64 1; unfold I64; omega⟩)
 clear hb8
 go_upto_region 3 with (go_at_call 19; refine (HN.out _ (Ext.refl _)).mono ?_; rintro e w2 ⟨rfl, hE⟩; have HE2 := Lib.hid hE; clear hE)
 have e3 := Ext.alloc w2 (.cells #[.int .u8 6, .int .i64 2, .int .i64 3, .int .i64 0, .int .i64 1] 37)
 have B3 := Blk.new w2 37 [.int .u8 6, .int .i64 2, .int .i64 3, .int .i64 0, .int .i64 1]
 have HB3 := Lib.hid B3
 have HE3 := Lib.hid (HE2.out.trans e3)
 have hbD := (HE3.out.chg (fun _ => False)).blk HB1.out id
 have f0 := hbD.cell 0
 have f1 := hbD.cell 1
 have f2 := hbD.cell 2
 have k0 := B3.cell 0
 have k1 := B3.cell 1
 have k2 := B3.cell 2
 have k3 := B3.cell 3
 have k4 := B3.cell 4
 simp only [List.getElem?_cons_zero, List.getElem?_cons_succ] at f0 f1 f2 k0 k1 k2 k3 k4
 clear e3 B3 hbD d0 d1 d2
 generalize w2.heap.size = b3 at HB3 k0 k1 k2 k3 k4 ⊢
 generalize w2.alloc _ = w3 at HB3 HE3 f0 f1 f2 k0 k1 k2 k3 k4 ⊢
 obtain ⟨hm2, hmc, hml⟩ := aw_m1
 change (MakeV awD1 _).2 = 0 at hm2
 change (MakeV awD1 _).1.clauses = _ at hmc
 change (MakeV awD1 _).1.exist.length = 1 at hml
 generalize MakeV awD1 ⟨6, 2, 3, 0, 1⟩ = MV at HMK hm2 hmc hml
 obtain ⟨MD, ME⟩ := MV
 simp only at hm2 hmc hml
 subst hm2
 go_upto_region 4 with (go_at_call 21; refine (HMK.out _ HE3.out).mono ?_; rintro e w4 ⟨mu, mx, mc, rfl, hr, hE⟩; obtain ⟨uA, uN, uC, rfl⟩ := slice_of hr.u; obtain ⟨xA, xC, rfl⟩ : ∃ A c, mx = .slice A 1 c := (by obtain ⟨A, c, us, h, -⟩ := hr.x; exact ⟨A, c, by rw [h, hml]⟩); obtain ⟨cA, cN, cC, rfl⟩ : ∃ A n c, mc = .slice A n c := (by obtain ⟨A, c, us, h, -⟩ := hr.c; exact ⟨A, _, c, h⟩); have HE4 := Lib.hid hE; have HMX := Lib.hid hr.x; have HMC := Lib.hid hr.c; rw [hmc] at HMC; clear hE hr)
 have e5 := Ext.alloc w4 (.cells #[.slice uA uN uC, .slice xA 1 xC, .slice cA cN cC] 27)
 have HB5 := Lib.hid (Blk.new w4 27 [.slice uA uN uC, .slice xA 1 xC, .slice cA cN cC])
 have HE5 := Lib.hid (HE4.out.trans e5)
 have HEA := Lib.hid (HE1.out.trans (HE3.out.trans HE5.out))
 have HMX5 := Lib.hid (HMX.out.ext e5)
 have HMC5 := Lib.hid (RLL.ext' HMC.out e5)
 have hbC := (HE5.out.chg (fun _ => False)).blk HB3.out id
 have HBC := Lib.hid hbC
 clear e5 hbC k0 k1 k2 k3 k4 f0 f1 f2 HMX HMC hmc HE4
 generalize w4.heap.size = b5 at HB5 ⊢
 generalize w4.alloc _ = w5 at HB5 HE5 HEA HMX5 HMC5 HBC ⊢
 clear HE5 HE3 HE2 HMK HN HB1 HB3 HE1 HRD1
 obtain ⟨w6, h6, hRD6, hE6⟩ := aw_new2 w5
 have HN2 : Hid (∀ w', Ext w6 w' → Calls Tryz.prog 19 #[.agg #[.slice (some ⟨w5.heap.size, 0, none⟩) 1 1, .slice (some ⟨w5.heap.size + 1, 0, none⟩) 1 1, .slice (some ⟨w5.heap.size + 1 + 1 + 1 + 1, 0, none⟩) 2 2]] w' fun e w'' => e = .returned (.tuple #[.agg #[.int .u8 0, .int .i64 0, .int .i64 0, .int .i64 0, .int .i64 0], .bool false]) ∧ Ext w' w'') := Lib.hid (fun w' h => by
  have := Next_any awD2 _ _ _ w' (hRD6.ext h) awD2_ok
  rw [aw_next2] at this
  exact this)
 have HE6 := Lib.hid hE6
 have H6 := Lib.hid h6
 clear hRD6 hE6 h6
 go_upto_region 5 with (go_at_call 19; rw [← H6.out]; refine (HN2.out _ (Ext.refl _)).mono ?_; rintro e w7 ⟨rfl, hE⟩; have HE7 := Lib.hid hE; clear hE)
 have HE8 := Lib.hid (HE6.out.trans (HE7.out.trans (Ext.alloc w7 (.cells #[.int .u8 0, .int .i64 0, .int .i64 0, .int .i64 0, .int .i64 0] 37))))
 generalize w7.alloc _ = w8 at HE8 ⊢
 clear H6 HN2 HE7 HE6
 go_upto_region 6 with fail
 obtain ⟨w9, h9, hF, hE9⟩ := aw_new3 w8
 rw [← h9]
 have HF := Lib.hid hF
 have HE59 := Lib.hid (HE8.out.trans hE9)
 generalize w8.heap.size = b9 at HF ⊢
 clear h9 hF hE9 HE8
 have hb3 := (HE59.out.chg (fun _ => False)).blk HBC.out id
 have hb5 := (HE59.out.chg (fun _ => False)).blk HB5.out id
 have HB59 := Lib.hid hb5
 have k0 := hb3.cell 0
 have k1 := hb3.cell 1
 have k2 := hb3.cell 2
 have k3 := hb3.cell 3
 have k4 := hb3.cell 4
 have m2 := hb5.cell 2
 simp only [List.getElem?_cons_zero, List.getElem?_cons_succ] at k0 k1 k2 k3 k4 m2
 have HM9 := Lib.hid (RLL.ext' HMC5.out HE59.out)
 have HE9 := Lib.hid (HEA.out.trans HE59.out)
 clear hb3 hb5 HBC HB5 HMC5 HMX5 HEA HE59
 go_upto_region 7 with (go_at_call 16; refine (SameAll_refl [[3]] _ _ _ (RLL.ext' HM9.out ((Ext.alloc _ _).trans (Ext.alloc _ _))) (lit1 w9 [3] (by decide))).mono ?_; rintro e w10 ⟨rfl, hE⟩; have HE910 := Lib.hid (((Ext.alloc _ _).trans (Ext.alloc _ _)).trans hE); have m1 := ((HE910.out.chg (fun _ => False)).blk HB59.out id).cell 1; simp only [List.getElem?_cons_zero, List.getElem?_cons_succ] at m1; clear hE)
 clear k0 k1 k2 k3 k4 m1 m2 HM9 HB59
 have HF10 := Lib.hid (RLL.ext' HF.out HE910.out)
 have HF2 : Hid (RLL w10 (.slice (some ⟨b9 + 1 + 1 + 1 + 1, 0, none⟩) 2 4) [[1, 2], [1, -2]]) := Lib.hid (RLL.take HF10.out 2 (by decide))
 have HE10 := Lib.hid (HE9.out.trans HE910.out)
 have hsl := slice_to Tryz.underlying22 info_ints (some ⟨b9 + 1 + 1 + 1 + 1, 0, none⟩) 4 4 2 (by omega)
 clear HF HE9 HE910
 go_upto_region 8 with (go_at_call 17; refine (aw_class awF _ _ _ HF10.out (all64L_of _ (by decide)) (by decide +kernel) (by decide) aw_cl1).mono ?_; rintro e w11 ⟨v11, rfl, hr, hE⟩; have HR11 := Lib.hid hr; have HE11 := Lib.hid hE; clear hr hE)
 go_upto_region 8 with (go_at_call 16; refine (SameAll_refl [[-1, 1, -2, 2]] _ _ _ (RLL.ext' HR11.out ((Ext.alloc _ _).trans (Ext.alloc _ _))) (lit1 w11 [-1, 1, -2, 2] (by decide))).mono ?_; rintro e w12 ⟨rfl, hE⟩; have HE12 := Lib.hid (HE11.out.trans (((Ext.alloc _ _).trans (Ext.alloc _ _)).trans hE)); clear hE HE11)
 go_upto_region 8 with (go_at_call 14; refine (aw_fail awF _ _ _ (RLL.ext' HF10.out HE12.out) (all64L_of _ (by decide)) (by decide) aw_f1).mono ?_; rintro e w13 ⟨v13, rfl, hr, hE⟩; have HR13 := Lib.hid hr; have HE13 := Lib.hid (HE12.out.trans hE); clear hr hE HE12)
 go_upto_region 8 with (go_at_call 11; refine (Same_refl [-1, 1, -2, 2] _ _ _ (HR13.out.ext (Ext.alloc _ _)) (lit0 w13 [-1, 1, -2, 2] (by decide))).mono ?_; rintro e w14 ⟨rfl, hE⟩; have HE14 := Lib.hid (HE13.out.trans ((Ext.alloc _ _).trans hE)); clear hE HE13)
 go_upto_region 8 with (go_at_call 14; refine (aw_fail [[1, 2], [1, -2]] _ _ _ (RLL.ext' HF2.out HE14.out) (all64L_of _ (by decide)) (by decide) aw_f2).mono ?_; rintro e w15 ⟨v15, rfl, hr, hE⟩; have HR15 := Lib.hid hr; have HE15 := Lib.hid (HE14.out.trans hE); clear hr hE HE14)
 go_upto_region 8 with (go_at_call 11; refine (Same_refl [-1] _ _ _ (HR15.out.ext (Ext.alloc _ _)) (lit0 w15 [-1] (by decide))).mono ?_; rintro e w16 ⟨rfl, hE⟩; have HE16 := Lib.hid (HE15.out.trans ((Ext.alloc _ _).trans hE)); clear hE HE15)
 go_upto_region 8 with (go_at_call 17; refine (aw_class [[1, 2], [1, -2]] _ _ _ (RLL.ext' HF2.out HE16.out) (all64L_of _ (by decide)) (by decide +kernel) (by decide) aw_cl2).mono ?_; rintro e w17 ⟨v17, rfl, hr, hE⟩; obtain ⟨A17, c17, rfl⟩ := RLL.nil_form hr; have HE17 := Lib.hid (HE16.out.trans hE); clear hr hE HE16)
 have HEB := Lib.hid (HE10.out.trans HE17.out)
 clear HE10 HE17 HF10 HF2 hsl
 go_wp2_with (go_at_call 17; refine (aw_class [[1, 2], [-1, -2]] _ _ _ (lit2 w17 [1, 2] [-1, -2] (by decide) (by decide)) (all64L_of _ (by decide)) (by decide +kernel) (by decide) aw_cl3).mono ?_; rintro e w18 ⟨v18, rfl, hr, hE⟩; have HR18 := Lib.hid hr; have HE18 := Lib.hid (HEB.out.trans ((((Ext.alloc _ _).trans (Ext.alloc _ _)).trans (Ext.alloc _ _)).trans hE)); clear hr hE)
 go_wp2_with (go_at_call 16; refine (SameAll_refl [[1, -2]] _ _ _ (RLL.ext' HR18.out ((Ext.alloc _ _).trans (Ext.alloc _ _))) (lit1 w18 [1, -2] (by decide))).mono ?_; rintro e w19 ⟨rfl, hE⟩; have HE19 := Lib.hid (HE18.out.trans (((Ext.alloc _ _).trans (Ext.alloc _ _)).trans hE)); clear hE)
 go_wp2_with (go_at_call 12; refine (Reaches_any [[1, 2], [-2, 3]] (-1) _ _ (by unfold I64; omega) (all64L_of _ (by decide)) (lit2 w19 [1, 2] [-2, 3] (by decide) (by decide)) (fun _ => by decide)).mono ?_; rintro e w20 ⟨v20, rfl, hr, hE⟩; rw [aw_r1] at hr; have HR20 := Lib.hid hr.reads; have HE20 := Lib.hid (HE19.out.trans ((((Ext.alloc _ _).trans (Ext.alloc _ _)).trans (Ext.alloc _ _)).trans hE)); clear hr hE)
 go_wp2_with (go_at_call 11; refine (Same_refl [-1, 2, 3] _ _ _ (HR20.out.ext (Ext.alloc _ _)) (lit0 w20 [-1, 2, 3] (by decide))).mono ?_; rintro e w21 ⟨rfl, hE⟩; have HE21 := Lib.hid (HE20.out.trans ((Ext.alloc _ _).trans hE)); clear hE)
 go_ret
 exact ⟨rfl, HE21.out⟩
end Go.Proofs.YtjecjaihficcdaaGreat
namespace Go.Proofs.YtjecjaihficcdaaGreat
open Go.RowKit
attribute [local go_sem ↓] Go.wp_at_zero Go.wp_at_succ
theorem ow_new (w : World) (u x c : Value) : ∃ W : World, W = (w.alloc (.cells #[u, x, c] 27)).alloc (.cells #[.slice none 0 0, .slice none 0 0, .slice none 0 0] 27) ∧
 Blk W w.heap.size 27 [u, x, c] ∧ Blk W (w.heap.size + 1) 27 [.slice none 0 0, .slice none 0 0, .slice none 0 0] ∧ Ext w W ∧ W.heap.size = w.heap.size + 2 := by
 refine ⟨_, rfl, ?_, ?_, (Ext.alloc w _).trans (Ext.alloc _ _), by simp⟩
 · have h := Blk.new w 27 [u, x, c]
   exact ((Ext.alloc _ _).chg (fun _ => False)).blk h id
 · have h := Blk.new (w.alloc (.cells #[u, x, c] 27)) 27 [.slice none 0 0, .slice none 0 0, .slice none 0 0]
   rw [World.size_alloc] at h
   exact h
set_option maxRecDepth 100000 in
set_option maxHeartbeats 8000000 in
theorem own_any (d : DqV) (vu vx vc : Value) (w : World) (hd : RD w vu vx vc d) (ok : DOk d) : Calls Tryz.prog 71 #[.agg #[vu, vx, vc]] w fun e w' => ∃ vu vx vc, e = .returned (.agg #[vu, vx, vc]) ∧ OwnD w' w.heap.size vu vx vc d ∧ Ext w w' := by
 have HD := Lib.hid hd
 have OK := Lib.hid ok
 obtain ⟨⟨UA, uc, hue, -⟩, ⟨XA, xc, ons, hxe, -⟩, ⟨CA, cc, us, hce, -, -, -, hcl4, -⟩⟩ := hd
 subst hue hxe hce
 have HCL4 := Lib.hid hcl4
 clear ok hcl4
 obtain ⟨W, hW, B0, B2, hEW, hsW⟩ := ow_new w (.slice UA d.univ.length uc) (.slice XA d.exist.length xc) (.slice CA us.length cc)
 have HB0 := Lib.hid B0
 have HB2 := Lib.hid B2
 have HEW := Lib.hid hEW
 have HW := Lib.hid hW
 have HSW := Lib.hid hsW
 clear B0 B2 hEW hsW hW
 go_enter Tryz.func71, Tryz.ntmps71
 go_upto_region 2 with (go_at_call 59; rw [← HW.out]; refine (cloneI_any _ d.univ _ (HD.out.u.ext HEW.out) (by have := OK.out.ul; omega)).mono ?_; rintro e w6 ⟨v6, rfl, ho6, hE6⟩; obtain ⟨VA, vcap, hv6, -⟩ := OwnI.reads ho6; subst hv6; have HO6 := Lib.hid ho6; have HE6 := Lib.hid hE6; have hbD := (hE6.chg (fun _ => False)).blk HB0.out id; have d0e := hbD.cell 0; have d1e := hbD.cell 1; have d2e := hbD.cell 2; simp only [List.getElem?_cons_zero, List.getElem?_cons_succ] at d0e d1e d2e; clear hbD hE6 ho6)
 have hB7 := Blk.new w6 27 [.slice VA d.univ.length vcap, .slice none 0 0, .slice none 0 0]
 have hO7 : OwnI (w6.alloc (.cells #[.slice VA d.univ.length vcap, .slice none 0 0, .slice none 0 0] 27)) W.heap.size (.slice VA d.univ.length vcap) d.univ := own_ext HO6.out (Ext.alloc w6 _)
 have hb7 : W.heap.size ≤ w6.heap.size := HE6.out.size
 have hE7 : Ext W (w6.alloc (.cells #[.slice VA d.univ.length vcap, .slice none 0 0, .slice none 0 0] 27)) := HE6.out.trans (Ext.alloc w6 _)
 obtain ⟨b7, hb7e⟩ : ∃ b7, b7 = w6.heap.size := ⟨_, rfl⟩
 rw [← hb7e] at hB7 hb7 ⊢
 clear hb7e d0e d1e d2e HO6 HE6
 generalize w6.alloc (.cells #[.slice VA d.univ.length vcap, .slice none 0 0, .slice none 0 0] 27) = w7 at hE7 hB7 hO7 ⊢
 have HE7 := Lib.hid hE7
 have HB7 := Lib.hid hB7
 have HO7 := Lib.hid hO7
 have d17 := ((hE7.chg (fun _ => False)).blk HB0.out id).cell 1
 simp only [List.getElem?_cons_zero, List.getElem?_cons_succ] at d17
 obtain ⟨m, hm⟩ : ∃ m, m = d.exist.length := ⟨_, rfl⟩
 have HMX := Lib.hid hm
 rw [← hm] at d17
 have hml : m ≤ 1000000 := by rw [hm]; exact OK.out.xl
 clear hE7 hB7 hO7 hm
 go_wp2
 go_loopg [15] m (fun gn i wr => ∃ (k : Nat) (xv : Value), k ≤ m ∧ gn + k = m ∧ i = .int .i64 (k : Int) ∧ Hid (Blk wr b7 27 [.slice VA d.univ.length vcap, xv, .slice none 0 0]) ∧ Hid (OwnX wr W.heap.size xv (d.exist.take k)) ∧ Hid (OwnI wr W.heap.size (.slice VA d.univ.length vcap) d.univ) ∧ Hid (Chg (fun i => W.heap.size ≤ i) W wr))
 case atStart => exact ⟨0, _, Nat.zero_le _, by omega, rfl, HB7, Lib.hid (OwnX.nil _ _), HO7, Lib.hid (HE7.out.chg _)⟩
 case round =>
  obtain ⟨k, xv, hk, hgk, rfl, HBr, HXr, HUr, HCr⟩ := hrel
  obtain ⟨w8, rfl⟩ : ∃ w8 : World, w8 = wr := ⟨_, rfl⟩
  by_cases hlt : k < m
  · have hkf : k < d.exist.length := Nat.lt_of_lt_of_le hlt (Nat.le_of_eq HMX.out)
    have hEw8 : Ext w w8 := HCr.out.toExt HEW.out (fun i hi => Nat.le_trans HEW.out.size hi)
    obtain ⟨A', c', ons', e1, -, -, e4, e5⟩ := HD.out.x.ext hEw8
    injection e1 with a1 a2 a3
    subst a1
    obtain ⟨ad, had, hc0, hc1, hri⟩ := e5 k hkf (by rw [e4]; exact hkf)
    subst had
    have hx64k := (OK.out.x64 _ (List.getElem_mem hkf))
    have hol := OK.out.ol _ (List.getElem_mem hkf)
    have hfil : d.exist.take (k + 1) = d.exist.take k ++ [d.exist[k]] := List.take_succ_eq_append_getElem hkf
    generalize d.exist[k] = X at hc0 hri hx64k hol hfil
    generalize ons'[k]'(by rw [e4]; exact hkf) = on at hc1 hri
    have hri2 := hri
    obtain ⟨OA, oc, hone, -⟩ := hri
    obtain ⟨ol, hole⟩ : ∃ ol, ol = X.2.length := ⟨_, rfl⟩
    rw [← hole] at hone
    subst hone
    obtain ⟨v, hv⟩ : ∃ v, v = X.1 := ⟨_, rfl⟩
    rw [← hv] at hc0
    have HRI := Lib.hid hri2
    have HV := Lib.hid hv
    have HFI := Lib.hid hfil
    have HX64 := Lib.hid hx64k
    have HOL := Lib.hid hol
    have HOLE := Lib.hid hole
    have hwrk : IntKind.i64.wrap ((k : Int) + 1) = (k : Int) + 1 := IntWalk.i64_in _ (by omega)
    clear hri2 hkf hEw8 e4 e5 a2 a3 hx64k hol hfil hole hv
    go_wp2
    have e9 := Ext.alloc w8 (.cells #[.int .i64 v, .slice OA ol oc] 61)
    have bA := (e9.chg (fun _ => False)).blk HBr.out id
    have HUA := Lib.hid (own_ext HUr.out e9)
    have HCA : Hid (Chg (fun i => W.heap.size ≤ i) W _) := Lib.hid (HCr.out.trans (e9.chg _))
    have b9 := Blk.new w8 61 [.int .i64 v, .slice OA ol oc]
    have HRA := Lib.hid (HRI.out.ext e9)
    have HXA := Lib.hid (HXr.out.ext e9)
    have hsz8 : W.heap.size ≤ w8.heap.size := HCr.out.size
    clear e9 hc0 hc1 d17
    obtain ⟨n8, hn8⟩ : ∃ n8, n8 = w8.heap.size := ⟨_, rfl⟩
    rw [← hn8] at b9 hsz8 ⊢
    clear hn8
    generalize w8.alloc (.cells #[.int .i64 v, .slice OA ol oc] 61) = wA at bA HUA HCA b9 HRA HXA ⊢
    have a1 := bA.cell 1
    have a90 := b9.cell 0
    have a91 := b9.cell 1
    simp only [List.getElem?_cons_zero, List.getElem?_cons_succ] at a1 a90 a91
    obtain ⟨ps, p1, p2, p3⟩ := HXA.out
    obtain ⟨nX, hnX⟩ : ∃ nX, nX = (d.exist.take k).length := ⟨_, rfl⟩
    rw [← hnX] at p1 p2
    have hnXl : nX ≤ 1000000 := by
     rw [hnX, List.length_take]; omega
    have HBA := Lib.hid bA
    have HP1 := Lib.hid p1
    have HP2 := Lib.hid p2
    have HP3 := Lib.hid p3
    have HNX := Lib.hid hnX
    obtain ⟨i0, hi, hz0, hz1, hz2⟩ := info_parts info_dep
    have HI := Lib.hid hi
    have HZ := Lib.hid hz0
    have HZ1 := Lib.hid hz1
    have HZ2 := Lib.hid hz2
    clear hi hz0 hz1 hz2 bA b9 p1 p2 p3 hnX
    go_region_law (first
     | (refine step_append_lies _ rfl (.tmp 20) (.tmp 27) 25 rfl W.heap.size 61 i0 (.agg #[.int .i64 0, .slice none 0 0]) 2 32 Tryz.underlying25 HI.out HZ.out HZ1.out HZ2.out rfl (by decide) xv nX (encX ps) rfl ?c1 ⟨wB.heap.size, 0, none⟩ 1 1 [.int .i64 v, .slice BA nb bc] rfl rfl ?c2 (by simp [Value.oneCell']) (by omega) (by unfold maxLen; omega) (by omega) (by have := HSB.out; simp; omega) (wB.heap.size + 1) (by simp) ?_
        case c1 => exact own_ext HP1.out (HAB.out.trans (Ext.alloc wB _))
        case c2 => exact two_cells wB _ _ _
        intro gC capC wC hown hgr hat hlt
        have hcC : Chg (fun i => some i = xv.ownBlock) wB wC := ((Ext.alloc wB _).chg _).trans (grown_chg hgr)
        have hbC := hcC.blk HBB.out (fun h => fin_neq HBB.out (own_ext HP1.out HAB.out) (by decide) h.symm)
        have c1C := hbC.cell 1
        have f1C := hbC.free 1
        simp only [List.getElem?_cons_zero, List.getElem?_cons_succ] at c1C
        have HFN := Lib.hid (depX (x := X) HNX.out HP1.out HP2.out HP3.out HAB.out HBB.out HOB.out (by rw [← HV.out]; exact hown) hcC hb7)
        clear hown hgr hcC hbC hat hlt)
     | (go_simp
        go_at_call 59
        refine (cloneI_any _ X.2 _ (HRA.out.ext (Ext.drew wA)) (by have := HOL.out; omega)).mono ?_
        rintro e wB ⟨vB, rfl, hoB, hEB⟩
        obtain ⟨BA, bc, hvB, -⟩ := OwnI.reads hoB
        obtain ⟨nb, hnb⟩ : ∃ nb, nb = X.2.length := ⟨_, rfl⟩
        rw [← hnb] at hvB
        subst hvB
        have hAB : Ext wA wB := (Ext.drew wA).trans hEB
        have HOB := Lib.hid (own_lower hoB (Nat.le_trans HCA.out.size (Ext.drew wA).size))
        have HAB := Lib.hid hAB
        have HBB := Lib.hid ((hAB.chg (fun _ => False)).blk HBA.out id)
        have HSB : Hid (W.heap.size ≤ wB.heap.size) := Lib.hid (Nat.le_trans HCA.out.size hAB.size)
        have b1 := hAB.cell a1
        have b90 := hAB.cell a90
        have b91 := hAB.cell a91
        have b1a : (wB.alloc (.cells #[.int .i64 v, .slice BA nb bc] 61)).cell? ⟨b7, 1, none⟩ = some xv := (Ext.alloc wB _).cell b1
        clear hoB hEB hAB hnb))
    all_goals
     go_wp2
     go_roundg (m - (k + 1))
     case measure => omega
     case rel =>
      exact ⟨k + 1, _, by omega, by omega, by go_num, Lib.hid HFN.out.1, Lib.hid (by rw [HFI.out]; exact HFN.out.2.1), Lib.hid (HFN.out.2.2.2 _ _ HUA.out), Lib.hid (HCA.out.trans ((HAB.out.chg _).trans HFN.out.2.2.1))⟩
  · obtain rfl : k = m := by omega
    have htk : d.exist.take k = d.exist := by rw [HMX.out, List.take_length]
    rw [htk] at HXr
    have hsw := HSW.out
    have d28 := (HCr.out.blk HB0.out (fun h => by omega)).cell 2
    simp only [List.getElem?_cons_zero, List.getElem?_cons_succ] at d28
    obtain ⟨nC, hnC⟩ : ∃ nC, nC = us.length := ⟨_, rfl⟩
    have HNC := Lib.hid hnC
    have hnCl : nC ≤ 1000000 := by rw [hnC, HCL4.out]; exact OK.out.cl
    rw [← hnC] at d28
    have HSW2 := Lib.hid hsw
    clear htk hsw hnC d17
    go_wp2
    go_loopg [34] nC (fun gn i wr => ∃ (k2 : Nat) (cv : Value), k2 ≤ nC ∧ gn + k2 = nC ∧ i = .int .i64 (k2 : Int) ∧ Hid (Blk wr b7 27 [.slice VA d.univ.length vcap, xv, cv]) ∧ Hid (OwnX wr W.heap.size xv d.exist) ∧ Hid (OwnI wr W.heap.size (.slice VA d.univ.length vcap) d.univ) ∧ Hid (OwnLL wr W.heap.size cv (d.clauses.take k2)) ∧ Hid (Chg (fun i => W.heap.size ≤ i) W wr))
    case atStart => exact ⟨0, _, Nat.zero_le _, by omega, rfl, HBr, HXr, HUr, Lib.hid ⟨[], World.ownsRow_nil _ _ _ 1, rfl, fun j hj => absurd hj (Nat.not_lt_zero j)⟩, HCr⟩
    case round =>
     obtain ⟨k2, cv, hk2, hgk2, rfl, GBr, GXr, GUr, GLr, GCr⟩ := hrel
     obtain ⟨w9, rfl⟩ : ∃ w9 : World, w9 = wr := ⟨_, rfl⟩
     by_cases hlt2 : k2 < nC
     · have hEw9 : Ext w w9 := GCr.out.toExt HEW.out (fun i hi => Nat.le_trans HEW.out.size hi)
       obtain ⟨A', c', us', e1, -, -, e4, e5, e6⟩ := RLL.ext' HD.out.c hEw9
       injection e1 with a1 a2 a3
       subst a1
       have hku : k2 < us'.length := by rw [← a2, ← HNC.out]; exact hlt2
       have hkc : k2 < d.clauses.length := by rw [← e5]; exact hku
       obtain ⟨ad, had, hcell⟩ := e4 k2 hku
       subst had
       have hri := e6 k2 hku hkc
       have hll : d.clauses[k2].length ≤ 1000000 := Nat.le_trans (len_le_total (List.getElem_mem hkc)) OK.out.tot
       have hfm : d.clauses.take (k2 + 1) = d.clauses.take k2 ++ [d.clauses[k2]] := List.take_succ_eq_append_getElem hkc
       generalize d.clauses[k2] = l at hri hll hfm
       generalize us'[k2] = uk at hcell hri
       have hri2 := hri
       obtain ⟨KA, kc, huk, -⟩ := hri
       obtain ⟨nl, hnl⟩ : ∃ nl, nl = l.length := ⟨_, rfl⟩
       rw [← hnl] at huk
       subst huk
       have HRI := Lib.hid hri2
       have HFM := Lib.hid hfm
       have HNL := Lib.hid hnl
       have hnl1 : nl ≤ 1000000 := by rw [hnl]; exact hll
       have HLL := Lib.hid hll
       have hwrk : IntKind.i64.wrap ((k2 : Int) + 1) = (k2 : Int) + 1 := IntWalk.i64_in _ (by omega)
       clear hEw9 e4 e5 e6 a2 a3 hku hkc hri2 hfm hnl hll
       go_wp2
       obtain ⟨vs, v1, v2, v3⟩ := GLr.out
       have hvl : vs.length ≤ 1000000 := by
        rw [v2, List.length_take]; omega
       have z2 := GBr.out.cell 2
       simp only [List.getElem?_cons_zero, List.getElem?_cons_succ] at z2
       have HV1 := Lib.hid v1
       have HV2 := Lib.hid v2
       have HV3 := Lib.hid v3
       obtain ⟨i1, hi, hz0, hz1, hz2⟩ := info_parts info_ints
       have HI := Lib.hid hi
       have HZ := Lib.hid hz0
       have HZ1 := Lib.hid hz1
       have HZ2 := Lib.hid hz2
       clear hi hz0 hz1 hz2 v1 v2 v3
       go_region_law (first
        | (refine step_append_lies _ rfl (.tmp 39) (.tmp 42) 22 rfl W.heap.size 24 i1 (.slice none 0 0) 1 24 Tryz.underlying22 HI.out HZ.out HZ1.out HZ2.out rfl (by decide) cv vs.length vs rfl ?c1 ⟨wB.heap.size, 0, none⟩ 1 1 [.slice BA nl bc] rfl rfl ?c2 (by simp [Value.oneCell']) (by omega) (by unfold maxLen; omega) (by omega) (by have := HSB.out; simp; omega) (wB.heap.size + 1) (by simp) ?_
           case c1 => exact own_ext HV1.out (HAB.out.trans (Ext.alloc wB _))
           case c2 => exact one_cell wB _ _
           intro gC capC wC hown hgr hat hlt
           have hcC : Chg (fun i => some i = cv.ownBlock) wB wC := ((Ext.alloc wB _).chg _).trans (grown_chg hgr)
           have hbC := hcC.blk HBB.out (fun h => fin_neq HBB.out (own_ext HV1.out HAB.out) (by decide) h.symm)
           have c2C := hbC.cell 2
           have f2C := hbC.free 2
           simp only [List.getElem?_cons_zero, List.getElem?_cons_succ] at c2C
           have HOP := Lib.hid hown
           have HGP := Lib.hid hgr
           have HCP := Lib.hid hcC
           have HBP := Lib.hid hbC
           clear hown hgr hcC hbC hat hlt)
        | (go_simp
           go_at_call 59
           refine (cloneI_any _ l _ (HRI.out.ext (Ext.drew w9)) (by have := HLL.out; omega)).mono ?_
           rintro e wB ⟨vB, rfl, hoB, hEB⟩
           obtain ⟨BA, bc, hvB, -⟩ := OwnI.reads hoB
           rw [← HNL.out] at hvB
           subst hvB
           have hAB : Ext w9 wB := (Ext.drew w9).trans hEB
           have HOB := Lib.hid (own_lower hoB (Nat.le_trans GCr.out.size (Ext.drew w9).size))
           have HAB := Lib.hid hAB
           have HBB := Lib.hid ((hAB.chg (fun _ => False)).blk GBr.out id)
           have HSB : Hid (W.heap.size ≤ wB.heap.size) := Lib.hid (Nat.le_trans GCr.out.size hAB.size)
           have b2 := hAB.cell z2
           have b2a : (wB.alloc (.cells #[.slice BA nl bc] 24)).cell? ⟨b7, 2, none⟩ = some cv := (Ext.alloc wB _).cell b2
           clear hoB hEB hAB))
       all_goals
        go_wp2
        go_roundg (nC - (k2 + 1))
        case measure => omega
        case rel =>
         have hset := Chg.set wC b7 2 (.slice (some ⟨gC, 0, none⟩) (vs.length + 1) capC)
         have hrow := own_ext HV1.out HAB.out
         have hall : Chg (fun i => some i = cv.ownBlock ∨ i = b7) wB (wC.setCell ⟨b7, 2, none⟩ (.slice (some ⟨gC, 0, none⟩) (vs.length + 1) capC)) := (HCP.out.mono fun i hi => .inl hi).trans (hset.mono fun i hi => .inr hi)
         have hne : ∀ i, (some i = cv.ownBlock ∨ i = b7) → ∀ cur : Array Value, wB.heap[i]? = some (.cells cur 3 (0, 0)) ∨ wB.heap[i]? = some (.cells cur 61 (0, 0)) → False := fun i hi cur hh => by
          rcases hi with hi | hi
          · obtain ⟨-, -, c9, h9⟩ := own_typed hrow hi.symm
            rw [h9] at hh
            rcases hh with hh | hh <;> injection hh with hh <;> injection hh with _ hh <;> exact absurd hh (by decide)
          · have h9 := HBB.out
            unfold Blk at h9
            rw [hi, h9] at hh
            rcases hh with hh | hh <;> injection hh with hh <;> injection hh with _ hh <;> exact absurd hh (by decide)
         refine ⟨k2 + 1, _, by omega, by omega, by go_num, Lib.hid (HBP.out.set 2 _), Lib.hid ((GXr.out.ext HAB.out).keep hall hne), Lib.hid (hall.own (own_ext GUr.out HAB.out) (fun b hb hs => ?_)), Lib.hid ?_, Lib.hid (GCr.out.trans ((HAB.out.chg _).trans (hall.mono fun i hi => ?_)))⟩
         · obtain ⟨-, -, c9, h9⟩ := own_typed (own_ext GUr.out HAB.out) hb
           exact hne b hs c9 (.inl h9)
         · rw [HFM.out]
           have hs := OwnLL.snoc (w := wB.alloc (.cells #[.slice BA nl bc] 24)) HV2.out (fun j hj hj' => own_ext (HV3.out j hj hj') (HAB.out.trans (Ext.alloc wB _))) (own_ext HV1.out (HAB.out.trans (Ext.alloc wB _))) (own_ext HOB.out (Ext.alloc wB _)) HOP.out HGP.out
           refine hs.keep hset (fun i hi cur hh => ?_)
           have h9 := HBP.out
           unfold Blk at h9
           rw [hi, h9] at hh
           rcases hh with hh | hh <;> injection hh with hh <;> injection hh with _ hh <;> exact absurd hh (by decide)
         · rcases hi with hi | hi
           · exact (own_typed hrow hi.symm).1
           · rw [hi]; exact hb7
     · obtain rfl : k2 = nC := by omega
       have htk2 : d.clauses.take k2 = d.clauses := by rw [HNC.out, HCL4.out, List.take_length]
       rw [htk2] at GLr
       have r0 := (GCr.out.blk HB2.out (fun h => by have := HSW2.out; omega)).cell 0
       have r1 := (GCr.out.blk HB2.out (fun h => by have := HSW2.out; omega)).cell 1
       have r2 := (GCr.out.blk HB2.out (fun h => by have := HSW2.out; omega)).cell 2
       have q0 := (GCr.out.blk HB2.out (fun h => by have := HSW2.out; omega)).free 0
       have q1 := (GCr.out.blk HB2.out (fun h => by have := HSW2.out; omega)).free 1
       have q2 := (GCr.out.blk HB2.out (fun h => by have := HSW2.out; omega)).free 2
       have s0 := GBr.out.cell 0
       have s1 := GBr.out.cell 1
       have s2 := GBr.out.cell 2
       simp only [List.getElem?_cons_zero, List.getElem?_cons_succ] at r0 r1 r2 s0 s1 s2
       obtain ⟨A1, c1, hxve, -⟩ : ∃ A1 c1, xv = .slice A1 d.exist.length c1 ∧ True := by
        obtain ⟨A, c, ons, e, -⟩ := GXr.out.reads
        exact ⟨A, c, e, trivial⟩
       obtain ⟨A2, n2, c2, hcve⟩ : ∃ A2 n2 c2, cv = .slice A2 n2 c2 := by
        obtain ⟨vs, h1, -⟩ := GLr.out
        obtain ⟨A, c, e, -⟩ := own_row h1
        exact ⟨A, _, c, e⟩
       obtain ⟨n1, hn1⟩ : ∃ n1, n1 = d.exist.length := ⟨_, rfl⟩
       rw [← hn1] at hxve
       have HXV := Lib.hid hxve
       have HCVE := Lib.hid hcve
       rw [hxve] at s1
       rw [hcve] at s2
       clear hxve hcve hn1 htk2
       go_wp2
       refine bodyPost_ret (v := .agg #[.slice VA d.univ.length vcap, .slice A1 n1 c1, .slice A2 n2 c2]) (by simp [results, Tryz.results71, go_sem, r0, r1, r2]) rfl ⟨_, _, _, rfl, ?_, ?_⟩
       · have hset : Chg (fun i => i = w.heap.size + 1) w9 ((((w9.setCell ⟨w.heap.size + 1, 0, none⟩ (.slice VA d.univ.length vcap)).setCell ⟨w.heap.size + 1, 1, none⟩ (.slice A1 n1 c1)).setCell ⟨w.heap.size + 1, 2, none⟩ (.slice A2 n2 c2))) := ((Chg.set w9 _ _ _).trans (Chg.set _ _ _ _)).trans (Chg.set _ _ _ _)
         have hbR := GCr.out.blk HB2.out (fun h => by have := HSW2.out; omega)
         show OwnD ((((w9.setCell ⟨w.heap.size + 1, 0, none⟩ (.slice VA d.univ.length vcap)).setCell ⟨w.heap.size + 1, 1, none⟩ (.slice A1 n1 c1)).setCell ⟨w.heap.size + 1, 2, none⟩ (.slice A2 n2 c2))) w.heap.size _ _ _ d
         have hno : ∀ i, i = w.heap.size + 1 → ∀ cur : Array Value, w9.heap[i]? = some (.cells cur 3 (0, 0)) ∨ w9.heap[i]? = some (.cells cur 24 (0, 0)) → False := fun i hi cur hh => by
          subst hi
          unfold Blk at hbR
          rw [hbR] at hh
          rcases hh with hh | hh <;> injection hh with hh <;> injection hh with _ hh <;> exact absurd hh (by decide)
         have hno2 : ∀ i, i = w.heap.size + 1 → ∀ cur : Array Value, w9.heap[i]? = some (.cells cur 3 (0, 0)) ∨ w9.heap[i]? = some (.cells cur 61 (0, 0)) → False := fun i hi cur hh => by
          subst hi
          unfold Blk at hbR
          rw [hbR] at hh
          rcases hh with hh | hh <;> injection hh with hh <;> injection hh with _ hh <;> exact absurd hh (by decide)
         refine OwnD.lower (base := W.heap.size) ⟨hset.own GUr.out (fun b hb hs => fin_neq hbR GUr.out (by decide) (hs ▸ hb)), ?_, ?_⟩ HEW.out.size
         · have h9 := GXr.out.keep hset hno2
           have h8 : OwnX _ W.heap.size (.slice A1 n1 c1) d.exist := HXV.out ▸ h9
           exact h8
         · have h9 := GLr.out.keep hset hno
           have h8 : OwnLL _ W.heap.size (.slice A2 n2 c2) d.clauses := HCVE.out ▸ h9
           exact h8
       · have he := GCr.out.toExt HEW.out (fun i hi => Nat.le_trans HEW.out.size hi)
         repeat (refine Below.setCell ?_ (by simp <;> omega) _)
         exact he
end Go.Proofs.YtjecjaihficcdaaGreat
namespace Go.Proofs.YtjecjaihficcdaaGreat
theorem find_some_mem {α β : Type} {f : α → Option β} {l : List α} {b : β} (h : l.findSome? f = some b) : ∃ a ∈ l, f a = some b := List.exists_of_findSome?_eq_some h
theorem next_ok {d : DqV} {c : ChV} (hn : nextP d = some c) : mayD d = true ∧ okCh d c = true := by
 unfold nextP at hn
 split at hn
 · rename_i hm
   refine ⟨hm, ?_⟩
   obtain ⟨i, hi, hs⟩ := find_some_mem hn
   have hil : i < d.clauses.length := by simpa using hi
   unfold stepP at hs
   split at hs
   · rename_i h2
     obtain ⟨b, hb, hp⟩ := Option.bind_eq_some_iff.1 hs
     have hbl : b < d.clauses.length := by
      have := List.mem_of_find?_eq_some hb
      simpa using this
     have hrow : d.row b = [-((d.row i).getD 0 0), -((d.row i).getD 1 0)] := by
      have := List.find?_some hb
      simpa using this
     obtain ⟨p, q, hpq⟩ := two_of h2
     unfold pairP at hp
     obtain ⟨j, hj, hj2⟩ := find_some_mem hp
     split at hj2
     · rename_i hc
       injection hj2 with hj2
       subst hj2
       rw [hpq] at hc hrow
       simp only [Bool.and_eq_true, decide_eq_true_eq] at hc
       unfold okCh hasR
       simp only [Bool.and_eq_true, decide_eq_true_eq, Int.toNat_natCast, hpq, hrow]
       simp only [List.mem_cons, List.not_mem_nil, or_false] at hj
       rcases hj with rfl | rfl
       · simp only [List.getD_cons_zero, List.getD_cons_succ, Nat.sub_zero] at hc ⊢
         refine ⟨trivial, hc.1, hc.2, ?_, ?_⟩ <;> simp <;> omega
       · simp only [List.getD_cons_zero, List.getD_cons_succ, Nat.sub_self] at hc ⊢
         refine ⟨trivial, hc.1, hc.2, ?_, ?_⟩ <;> simp <;> omega
     · cases hj2
   · cases hs
 · cases hn
theorem strike_len {X : List (Int × List Int)} {v : Int} (h : (X.map Prod.fst).Nodup) (hv : v ∈ X.map Prod.fst) : (X.filter fun x => !decide (x.1 = v)).length + 1 = X.length := by
 induction X with
 | nil => cases hv
 | cons a X ih =>
   rw [List.map_cons, List.nodup_cons] at h
   by_cases ha : a.1 = v
   · have hall : X.filter (fun x => !decide (x.1 = v)) = X := by
      rw [List.filter_eq_self]
      intro x hx
      have : x.1 ≠ v := fun e => h.1 (by rw [ha, ← e]; exact List.mem_map.2 ⟨x, hx, rfl⟩)
      simp [this]
     rw [List.filter_cons, if_neg (by simp [ha]), hall]
     rfl
   · have hv' : v ∈ X.map Prod.fst := by
      rw [List.map_cons, List.mem_cons] at hv
      rcases hv with rfl | hv
      · exact absurd rfl ha
      · exact hv
     rw [List.filter_cons, if_pos (by simp [ha]), List.length_cons, ih h.2 hv', List.length_cons]
theorem normC_some {x t : Int} {l r : List Int} (h : normC x t l = some r) : mayB r = true ∧ r.length ≤ l.length ∧ ∀ y ∈ r, ∃ z ∈ l, y = subst1 x t z := by
 unfold normC at h
 split at h
 · rename_i h0
   injection h with h
   unfold NormV at h0 h
   split at h0
   · cases h0
   · rename_i hv
     rw [if_neg hv] at h
     split at h0
     · rename_i hm
       rw [if_pos hm] at h
       simp only at h
       subst h
       refine ⟨hm, ?_, fun y hy => ?_⟩
       · have := setL_len (l.map (subst1 x t)) []
         simpa using this
       · have := (mem_setL _ _ _).1 hy
         rcases this with h | h
         · cases h
         · obtain ⟨z, hz, rfl⟩ := List.mem_map.1 h
           exact ⟨z, hz, rfl⟩
     · cases h0
 · cases h
theorem total_filterMap {f : List Int → Option (List Int)} (hf : ∀ l r, f l = some r → r.length ≤ l.length) (F : List (List Int)) : total (F.filterMap f) ≤ total F := by
 unfold total lens
 rw [List.take_length, List.take_length]
 induction F with
 | nil => simp
 | cons a F ih =>
   rw [List.filterMap_cons]
   split
   · simp only [List.map_cons, List.sum_cons]; omega
   · rename_i b hb
     have := hf a b hb
     simp only [List.map_cons, List.sum_cons]; omega
theorem mayCnf_total {F : List (List Int)} (h : mayCnfB F = true) : total F ≤ 200000 := by
 unfold mayCnfB at h
 rw [Bool.and_eq_true, List.all_eq_true] at h
 by_cases h0 : F.length = 0
 · unfold total lens
   rw [List.length_eq_zero_iff.1 h0]; simp
 · have := h.2 (F.length - 1) (by simp; omega)
   rw [Bool.and_eq_true, decide_eq_true_eq] at this
   unfold total
   rw [show F.length - 1 + 1 = F.length by omega] at this
   exact this.1
theorem mayCnf_of {F : List (List Int)} (h1 : F.length ≤ 20000) (h2 : total F ≤ 200000) (h3 : ∀ c ∈ F, mayB c = true) : mayCnfB F = true := by
 unfold mayCnfB
 rw [Bool.and_eq_true, decide_eq_true_eq, List.all_eq_true]
 refine ⟨h1, fun k hk => ?_⟩
 have hk' : k < F.length := by simpa using hk
 rw [Bool.and_eq_true, decide_eq_true_eq]
 have := lens_le F (k + 1)
 refine ⟨by omega, ?_⟩
 rw [getD_of F k hk']
 exact h3 _ (List.getElem_mem hk')
theorem mayD_iff (d : DqV) : mayD d = true ↔ (∀ x ∈ d.exist, (x.1 ∉ d.univ ∧ risesB x.2 = true) ∧ ∀ v ∈ x.2, v ∈ d.univ) ∧ risesB d.univ = true ∧ risesB d.vars = true ∧ d.univ.length + d.exist.length ≤ 1024 ∧ mayCnfB d.clauses = true ∧ ∀ c ∈ d.clauses, ∀ x ∈ c, varOf x ∈ d.univ ++ d.vars := by
 unfold mayD
 simp only [Bool.and_eq_true, List.all_eq_true, Bool.not_eq_true', decide_eq_false_iff_not, decide_eq_true_eq, and_assoc]
theorem subst_var {d : DqV} (hm : mayD d = true) {x t : Int} (hx : 0 < x) (ha : allowP d x t = true) (z : Int) (hz : varOf z ∈ d.univ ++ d.vars) : varOf (subst1 x t z) ∈ d.univ ++ (d.exist.filter fun y => !decide (y.1 = x)).map Prod.fst := by
 obtain ⟨h1, h2, h3, h4, h5, h6⟩ := (mayD_iff d).1 hm
 unfold allowP at ha
 cases hd : d.deps x with
 | none => rw [hd] at ha; cases ha
 | some on =>
   rw [hd] at ha
   simp only [Bool.and_eq_true, Bool.not_eq_true', decide_eq_false_iff_not] at ha
   have hxe := deps_mem hd
   have hxu := (h1 _ hxe).1.1
   have hx1 : x ∈ d.vars := List.mem_map.2 ⟨_, hxe, rfl⟩
   have hxr := ((risesB_iff _).1 h3).1 x hx1
   have ht : varOf t ∈ d.univ ++ (d.exist.filter fun y => !decide (y.1 = x)).map Prod.fst := by
    cases hdt : d.deps (varOf t) with
    | none =>
      rw [hdt] at ha
      exact List.mem_append_left _ ((h1 _ hxe).2 _ (by simpa using ha.2))
    | some mine =>
      refine List.mem_append_right _ (List.mem_map.2 ⟨_, List.mem_filter.2 ⟨deps_mem hdt, ?_⟩, rfl⟩)
      simp [ha.1]
   unfold subst1
   split
   · exact ht
   · split
     · rw [varOf_neg]; exact ht
     · rename_i hz1 hz2
       rcases List.mem_append.1 hz with h | h
       · exact List.mem_append_left _ h
       · obtain ⟨y, hy, hye⟩ := List.mem_map.1 h
         refine List.mem_append_right _ (List.mem_map.2 ⟨y, List.mem_filter.2 ⟨hy, ?_⟩, hye⟩)
         have : y.1 ≠ x := fun e => by
          have hv : varOf z = x := by rw [← hye, e]
          have h0 : varOf z ≠ 0 := by omega
          have := (varOf_eq h0).1
          omega
         simp [this]
theorem made_may {d : DqV} {c : ChV} (hm : mayD d = true) (hc : okCh d c = true) : mayD (madeV d c) = true ∧ (madeV d c).exist.length + 1 = d.exist.length := by
 obtain ⟨h1, h2, h3, h4, h5, h6⟩ := (mayD_iff d).1 hm
 unfold okCh at hc
 simp only [Bool.and_eq_true, decide_eq_true_eq] at hc
 obtain ⟨-, hx, ha, -, -⟩ := hc
 have hl : (madeV d c).exist.length + 1 = d.exist.length := by
  refine strike_len (rises_nodup ((risesB_iff _).1 h3).2) ?_
  unfold allowP at ha
  cases hd : d.deps c.lit with
  | none => rw [hd] at ha; cases ha
  | some on => exact List.mem_map.2 ⟨_, deps_mem hd, rfl⟩
 refine ⟨(mayD_iff _).2 ⟨fun x hx => h1 x ((List.mem_filter.1 hx).1), h2, ?_, ?_, ?_, ?_⟩, hl⟩
 · obtain ⟨r1, r2⟩ := (risesB_iff _).1 h3
   have hsub : (madeV d c).vars.Sublist d.vars := List.filter_sublist.map _
   exact (risesB_iff _).2 ⟨fun x hx => r1 x (hsub.subset hx), r2.sublist hsub⟩
 · have : (madeV d c).univ = d.univ := rfl
   rw [this]; omega
 · refine mayCnf_of ?_ ?_ ?_
   · exact Nat.le_trans (List.length_filterMap_le _ _) (mayCnfB_len h5)
   · exact Nat.le_trans (total_filterMap (fun l r h => (normC_some h).2.1) _) (mayCnf_total h5)
   · intro r hr
     obtain ⟨l, -, hl⟩ := List.mem_filterMap.1 hr
     exact (normC_some hl).1
 · intro r hr y hy
   obtain ⟨l, hlm, hlr⟩ := List.mem_filterMap.1 hr
   obtain ⟨z, hz, rfl⟩ := (normC_some hlr).2.2 y hy
   exact subst_var hm hx ha z (h6 l hlm z hz)
theorem made_ok {d : DqV} {c : ChV} (hm : mayD d = true) (hc : okCh d c = true) (ok : DOk d) : DOk (madeV d c) := by
 obtain ⟨hmm, hl⟩ := made_may hm hc
 obtain ⟨h1, h2, h3, h4, h5, h6⟩ := (mayD_iff _).1 hmm
 refine ⟨ok.u64, fun x hx => ok.x64 x ((List.mem_filter.1 hx).1), fun r hr y hy => ?_, ok.ul, by have := ok.xl; omega, fun x hx => ok.ol x ((List.mem_filter.1 hx).1), Nat.le_trans (List.length_filterMap_le _ _) ok.cl, Nat.le_trans (total_filterMap (fun l r h => (normC_some h).2.1) _) ok.tot⟩
 have := h6 r hr y hy
 have h0 : varOf y ≠ 0 := by
  rcases List.mem_append.1 this with h | h
  · have := ((risesB_iff _).1 h2).1 _ h; omega
  · have := ((risesB_iff _).1 h3).1 _ h; omega
 have hr := varOf_range y
 have := (varOf_eq h0).1
 unfold I64
 omega
end Go.Proofs.YtjecjaihficcdaaGreat
namespace Go.Proofs.YtjecjaihficcdaaGreat
def runC (d : DqV) (l : List ChV) : DqV := l.foldl madeV d
theorem runC_nil (d : DqV) : runC d [] = d := rfl
theorem runC_snoc (d : DqV) (l : List ChV) (c : ChV) : runC d (l ++ [c]) = madeV (runC d l) c := by unfold runC; rw [List.foldl_append]; rfl
def Chain (d : DqV) (l : List ChV) : Prop := ∀ i (h : i < l.length), nextP (runC d (l.take i)) = some l[i]
theorem Chain.nil (d : DqV) : Chain d [] := fun i h => absurd h (Nat.not_lt_zero i)
theorem Chain.snoc {d : DqV} {l : List ChV} {c : ChV} (h : Chain d l) (hc : nextP (runC d l) = some c) : Chain d (l ++ [c]) := fun i hi => by
 rw [List.length_append, List.length_singleton] at hi
 by_cases hl : i < l.length
 · rw [List.take_append_of_le_length (by omega), List.getElem_append_left hl]; exact h i hl
 · obtain rfl : i = l.length := by omega
   rw [List.take_append_of_le_length (by omega), List.take_length, List.getElem_append_right (by omega)]
   simpa using hc
theorem next_cok {d : DqV} {c : ChV} (hm : mayD d = true) (hc : okCh d c = true) : COk c := by
 obtain ⟨h1, h2, h3, h4, h5, h6⟩ := (mayD_iff d).1 hm
 have hcl := mayCnfB_len h5
 unfold okCh at hc
 simp only [Bool.and_eq_true, decide_eq_true_eq] at hc
 obtain ⟨-, hx, ha, hp, hq⟩ := hc
 obtain ⟨q1, q2⟩ := hasR_lit hm hp
 have r1 := varOf_range (-c.lit)
 have e1 := (varOf_eq q1).1
 have r2 := varOf_range c.tz
 have e2 := (varOf_eq q2).1
 unfold hasR at hp hq
 simp only [Bool.and_eq_true, decide_eq_true_eq] at hp hq
 exact ⟨by unfold I64; omega, by unfold I64; omega, by unfold I64; omega, by unfold I64; omega⟩
theorem runC_take {d : DqV} {l : List ChV} {i : Nat} (h : i < l.length) : runC d (l.take (i + 1)) = madeV (runC d (l.take i)) l[i] := by
 rw [List.take_succ_eq_append_getElem h, runC_snoc]
theorem chain_at {d : DqV} (hm : mayD d = true) (ok : DOk d) (l : List ChV) (h : Chain d l) : ∀ i, i ≤ l.length → mayD (runC d (l.take i)) = true ∧ DOk (runC d (l.take i)) ∧ (runC d (l.take i)).exist.length + i = d.exist.length := by
 intro i
 induction i with
 | zero => exact fun _ => ⟨hm, ok, rfl⟩
 | succ i ih =>
   intro hi
   obtain ⟨i1, i2, i3⟩ := ih (by omega)
   have hk := (next_ok (h i hi)).2
   obtain ⟨m1, m2⟩ := made_may i1 hk
   rw [runC_take hi]
   exact ⟨m1, made_ok i1 hk i2, by omega⟩
theorem chain_may {d : DqV} (hm : mayD d = true) (ok : DOk d) (l : List ChV) (h : Chain d l) : mayD (runC d l) = true ∧ DOk (runC d l) ∧ (runC d l).exist.length + l.length = d.exist.length := by
 have := chain_at hm ok l h l.length (Nat.le_refl _)
 rwa [List.take_length] at this
theorem chain_step {d : DqV} {l : List ChV} {c : ChV} (hm : mayD d = true) (ok : DOk d) (h : Chain d l) (hc : nextP (runC d l) = some c) : COk c ∧ okCh (runC d l) c = true ∧ MakeV (runC d l) c = (runC d (l ++ [c]), 0) ∧ Chain d (l ++ [c]) := by
 obtain ⟨i1, i2, i3⟩ := chain_may hm ok l h
 have hk := (next_ok hc).2
 refine ⟨next_cok i1 hk, hk, ?_, h.snoc hc⟩
 unfold MakeV
 rw [if_neg (by rw [i1]; simp), if_neg (by rw [hk]; simp), runC_snoc]
end Go.Proofs.YtjecjaihficcdaaGreat
