/- Walks and plain laws that this claim uses. -/
import Derived.Test.YtjecjaihficcdaaGreatTxI
import Derived.Test.YtjecjaihficcdaaGreatTxE
import Derived.Test.YtjecjaihficcdaaGreatTxA
import Derived.Test.YtjecjaihficcdaaGreatTxG
import Derived.Deep.Cut
import Derived.Test.YtjecjaihficcdaaGreatTxF
import Derived.Test.YtjecjaihficcdaaGreatTxD
import Derived.Test.YtjecjaihficcdaaGreatTxPEquivNextx44
import Derived.Laws.BitsLemmas
namespace Go.Proofs.YtjecjaihficcdaaGreat
set_option maxRecDepth 100000 in
theorem aw_cl1 : RefClasses [[1, 2], [1, -2], [-1, 2], [-1, -2]] = [[-1, 1, -2, 2]] := by decide +kernel
set_option maxRecDepth 100000 in
theorem aw_cl2 : RefClasses [[1, 2], [1, -2]] = [] := by decide +kernel
set_option maxRecDepth 100000 in
theorem aw_cl3 : RefClasses [[1, 2], [-1, -2]] = [[1, -2]] := by decide +kernel
set_option maxRecDepth 100000 in
theorem aw_f1 : FailV [[1, 2], [1, -2], [-1, 2], [-1, -2]] = [-1, 1, -2, 2] := by decide +kernel
set_option maxRecDepth 100000 in
theorem aw_f2 : FailV [[1, 2], [1, -2]] = [-1] := by decide +kernel
set_option maxRecDepth 100000 in
theorem aw_r1 : ReachV [[1, 2], [-2, 3]] (-1) = [-1, 2, 3] := by decide +kernel
set_option maxRecDepth 100000 in
theorem aw_m1 : (MakeV ⟨[1], [(2, [1]), (3, [1])], [[-2, 3], [2, -3], [2, 3]]⟩ ⟨6, 2, 3, 0, 1⟩).2 = 0 ∧ (MakeV ⟨[1], [(2, [1]), (3, [1])], [[-2, 3], [2, -3], [2, 3]]⟩ ⟨6, 2, 3, 0, 1⟩).1.clauses = [[3]] ∧ (MakeV ⟨[1], [(2, [1]), (3, [1])], [[-2, 3], [2, -3], [2, 3]]⟩ ⟨6, 2, 3, 0, 1⟩).1.exist.length = 1 := by decide +kernel
set_option maxRecDepth 100000 in
theorem aw_n1 : (nextP ⟨[1], [(2, [1]), (3, [1])], [[-2, 3], [2, -3], [2, 3]]⟩).map (fun c => (c.kind, c.lit, c.tz, c.pos, c.other)) = some (6, 2, 3, 0, 1) := by decide +kernel
set_option maxRecDepth 100000 in
theorem aw_n2 : (nextP ⟨[1], [(2, [])], [[-1, 2], [1, -2]]⟩).isSome = false := by decide +kernel
end Go.Proofs.YtjecjaihficcdaaGreat
namespace Go.Proofs.YtjecjaihficcdaaGreat
open Go.RowKit
theorem Ext.step {a b : World} (o : Obj) (h : Ext a b) : Ext a (b.alloc o) := h.trans (Ext.alloc b o)
theorem st1 (w : World) (n : Nat) (hn : w.heap.size = n) (x : Int) : ∃ W : World, W = w.alloc (.cells #[.int .i64 x] 3) ∧ RI W (.slice (some ⟨n, 0, none⟩) 1 1) [x] ∧ Ext w W ∧ W.heap.size = n + 1 :=
 ⟨_, rfl, hn ▸ lit0 w [x] (by simp), Ext.alloc w _, by simp [hn]⟩
theorem st2 (w : World) (n : Nat) (hn : w.heap.size = n) (x y : Int) : ∃ W : World, W = w.alloc (.cells #[.int .i64 x, .int .i64 y] 3) ∧ RI W (.slice (some ⟨n, 0, none⟩) 2 2) [x, y] ∧ Ext w W ∧ W.heap.size = n + 1 :=
 ⟨_, rfl, hn ▸ lit0 w [x, y] (by simp), Ext.alloc w _, by simp [hn]⟩
theorem stL (w : World) (n : Nat) (hn : w.heap.size = n) (vs : List Value) (k : Nat) (f : List (List Int)) (hk : vs.length = k) (hl : vs.length = f.length) (hm : k ≤ 1000000) (h : ∀ j (h : j < vs.length) (h' : j < f.length), RI w vs[j] f[j]) :
 ∃ W : World, W = w.alloc (.cells vs.toArray 24) ∧ RLL W (.slice (some ⟨n, 0, none⟩) k k) f ∧ Ext w W ∧ W.heap.size = n + 1 :=
 ⟨_, rfl, hk ▸ hn ▸ rll_lit w vs f hl (hk ▸ hm) h, Ext.alloc w _, by simp [hn]⟩
theorem encX_at : ∀ (ps : List (Int × Value)) (j : Nat) (h : j < ps.length), (encX ps)[j * 2]? = some (.int .i64 ps[j].1) ∧ (encX ps)[j * 2 + 1]? = some ps[j].2 := by
 intro ps
 induction ps with
 | nil => intro j h; exact absurd h (Nat.not_lt_zero j)
 | cons p ps ih =>
   intro j h
   have e : encX (p :: ps) = .int .i64 p.1 :: p.2 :: encX ps := rfl
   cases j with
   | zero => rw [e]; exact ⟨rfl, rfl⟩
   | succ j =>
     have := ih j (by simpa using h)
     rw [e, show (j + 1) * 2 = j * 2 + 1 + 1 by omega]
     simp only [List.getElem?_cons_succ, List.getElem_cons_succ]
     exact this
theorem stX (w : World) (n : Nat) (hn : w.heap.size = n) (ps : List (Int × Value)) (k : Nat) (X : List (Int × List Int)) (hk : ps.length = k) (hl : ps.length = X.length) (hm : k ≤ 1000000) (h : ∀ j (h : j < ps.length) (h' : j < X.length), ps[j].1 = X[j].1 ∧ RI w ps[j].2 X[j].2) :
 ∃ W : World, W = w.alloc (.cells (encX ps).toArray 61) ∧ RX W (.slice (some ⟨n, 0, none⟩) k k) X ∧ Ext w W ∧ W.heap.size = n + 1 := by
 subst hn hk
 refine ⟨_, rfl, ⟨_, ps.length, ps.map Prod.snd, by rw [hl], by omega, by omega, by rw [List.length_map, hl], fun j hj hj' => ⟨_, rfl, ?_, ?_, ?_⟩⟩, Ext.alloc w _, by simp⟩
 · obtain ⟨q1, q2⟩ := encX_at ps j (by omega)
   rw [addr0, (Blk.new w 61 (encX ps)).cell, q1, (h j (by omega) hj).1]
 · obtain ⟨q1, q2⟩ := encX_at ps j (by omega)
   rw [addr0]
   show World.cell? _ ⟨w.heap.size, j * 2 + 1, none⟩ = _
   rw [(Blk.new w 61 (encX ps)).cell, q2, List.getElem_map]
 · rw [List.getElem_map]
   exact (h j (by omega) hj).2.ext (Ext.alloc w _)
def awD1 : DqV := ⟨[1], [(2, [1]), (3, [1])], [[-2, 3], [2, -3], [2, 3]]⟩
def awD2 : DqV := ⟨[1], [(2, [])], [[-1, 2], [1, -2]]⟩
def awF : List (List Int) := [[1, 2], [1, -2], [-1, 2], [-1, -2]]
theorem dok_of (d : DqV) (h1 : (d.univ.all fun x => decide (-9223372036854775808 ≤ x ∧ x ≤ 9223372036854775807)) = true) (h2 : (d.exist.all fun p => decide (-9223372036854775808 ≤ p.1 ∧ p.1 ≤ 9223372036854775807) && p.2.all fun x => decide (-9223372036854775808 ≤ x ∧ x ≤ 9223372036854775807)) = true)
 (h3 : (d.clauses.all fun xs => xs.all fun x => decide (-9223372036854775808 ≤ x ∧ x ≤ 9223372036854775807)) = true) (h4 : d.univ.length ≤ 1000000) (h5 : d.exist.length ≤ 1000000) (h6 : (d.exist.all fun p => decide (p.2.length ≤ 1000000)) = true) (h7 : d.clauses.length ≤ 1000000) (h8 : total d.clauses ≤ 1000000) : DOk d :=
 ⟨all64_of _ h1, fun x hx => by
  have := List.all_eq_true.1 h2 x hx
  rw [Bool.and_eq_true] at this
  have h9 := of_decide_eq_true this.1
  exact ⟨h9, all64_of _ this.2⟩, all64L_of _ h3, h4, h5, fun x hx => of_decide_eq_true (List.all_eq_true.1 h6 x hx), h7, h8⟩
theorem awD1_ok : DOk awD1 := dok_of _ (by decide) (by decide) (by decide) (by decide) (by decide) (by decide) (by decide) (by decide)
theorem awD2_ok : DOk awD2 := dok_of _ (by decide) (by decide) (by decide) (by decide) (by decide) (by decide) (by decide) (by decide)
theorem aw_next1 : nextP awD1 = some ⟨6, 2, 3, 0, 1⟩ := by
 have h := aw_n1
 change (nextP awD1).map _ = _ at h
 cases hn : nextP awD1 with
 | none => rw [hn] at h; cases h
 | some c =>
   rw [hn] at h
   simp only [Option.map_some, Option.some.injEq, Prod.mk.injEq] at h
   obtain ⟨h1, h2, h3, h4, h5⟩ := h
   obtain ⟨k, l, t, p, o⟩ := c
   simp only at h1 h2 h3 h4 h5
   rw [h1, h2, h3, h4, h5]
theorem aw_next2 : nextP awD2 = none := by
 have h := aw_n2
 change (nextP awD2).isSome = false at h
 cases hn : nextP awD2 with
 | none => rfl
 | some c => rw [hn] at h; cases h
theorem aw_new1 (w : World) : ∃ W : World, W = ((((((((w.alloc (.cells #[.int .i64 1] 3)).alloc (.cells #[.int .i64 1] 3)).alloc (.cells #[.int .i64 1] 3)).alloc
 (.cells #[.int .i64 2, .slice (some ⟨w.heap.size + 1, 0, none⟩) 1 1, .int .i64 3, .slice (some ⟨w.heap.size + 1 + 1, 0, none⟩) 1 1] 61)).alloc
 (.cells #[.int .i64 (-2), .int .i64 3] 3)).alloc (.cells #[.int .i64 2, .int .i64 (-3)] 3)).alloc (.cells #[.int .i64 2, .int .i64 3] 3)).alloc
 (.cells #[.slice (some ⟨w.heap.size + 1 + 1 + 1 + 1, 0, none⟩) 2 2, .slice (some ⟨w.heap.size + 1 + 1 + 1 + 1 + 1, 0, none⟩) 2 2, .slice (some ⟨w.heap.size + 1 + 1 + 1 + 1 + 1 + 1, 0, none⟩) 2 2] 24)).alloc
 (.cells #[.slice (some ⟨w.heap.size, 0, none⟩) 1 1, .slice (some ⟨w.heap.size + 1 + 1 + 1, 0, none⟩) 2 2, .slice (some ⟨w.heap.size + 1 + 1 + 1 + 1 + 1 + 1 + 1, 0, none⟩) 3 3] 27) ∧
 RD W (.slice (some ⟨w.heap.size, 0, none⟩) 1 1) (.slice (some ⟨w.heap.size + 1 + 1 + 1, 0, none⟩) 2 2) (.slice (some ⟨w.heap.size + 1 + 1 + 1 + 1 + 1 + 1 + 1, 0, none⟩) 3 3) awD1 ∧
 Blk W (w.heap.size + 1 + 1 + 1 + 1 + 1 + 1 + 1 + 1) 27 [.slice (some ⟨w.heap.size, 0, none⟩) 1 1, .slice (some ⟨w.heap.size + 1 + 1 + 1, 0, none⟩) 2 2, .slice (some ⟨w.heap.size + 1 + 1 + 1 + 1 + 1 + 1 + 1, 0, none⟩) 3 3] ∧ Ext w W := by
 obtain ⟨w1, h1, r1, e1, s1⟩ := st1 w _ rfl 1
 obtain ⟨w2, h2, r2, e2, s2⟩ := st1 w1 _ s1 1
 obtain ⟨w3, h3, r3, e3, s3⟩ := st1 w2 _ s2 1
 obtain ⟨w4, h4, r4, e4, s4⟩ := stX w3 _ s3 [(2, .slice (some ⟨w.heap.size + 1, 0, none⟩) 1 1), (3, .slice (some ⟨w.heap.size + 1 + 1, 0, none⟩) 1 1)] 2 [(2, [1]), (3, [1])] rfl rfl (by decide) fun j hj hj' => by
  match j, hj with
  | 0, _ => exact ⟨rfl, r2.ext e3⟩
  | 1, _ => exact ⟨rfl, r3⟩
 obtain ⟨w5, h5, r5, e5, s5⟩ := st2 w4 _ s4 (-2) 3
 obtain ⟨w6, h6, r6, e6, s6⟩ := st2 w5 _ s5 2 (-3)
 obtain ⟨w7, h7, r7, e7, s7⟩ := st2 w6 _ s6 2 3
 obtain ⟨w8, h8, r8, e8, s8⟩ := stL w7 _ s7 [.slice (some ⟨w.heap.size + 1 + 1 + 1 + 1, 0, none⟩) 2 2, .slice (some ⟨w.heap.size + 1 + 1 + 1 + 1 + 1, 0, none⟩) 2 2, .slice (some ⟨w.heap.size + 1 + 1 + 1 + 1 + 1 + 1, 0, none⟩) 2 2] 3 [[-2, 3], [2, -3], [2, 3]] rfl rfl (by decide) fun j hj hj' => by
  match j, hj with
  | 0, _ => exact r5.ext (e6.trans e7)
  | 1, _ => exact r6.ext e7
  | 2, _ => exact r7
 have e9 := Ext.alloc w8 (.cells #[.slice (some ⟨w.heap.size, 0, none⟩) 1 1, .slice (some ⟨w.heap.size + 1 + 1 + 1, 0, none⟩) 2 2, .slice (some ⟨w.heap.size + 1 + 1 + 1 + 1 + 1 + 1 + 1, 0, none⟩) 3 3] 27)
 have e59 := ((((e5.trans e6).trans e7).trans e8).trans e9)
 have e29 := ((e2.trans e3).trans e4).trans e59
 refine ⟨_, ?_, ⟨r1.ext e29, r4.ext e59, RLL.ext' r8 e9⟩, ?_, e1.trans e29⟩
 · rw [h8, h7, h6, h5, h4, h3, h2, h1]; rfl
 · exact Blk.new' (by rw [s8])
theorem aw_new2 (w : World) : ∃ W : World, W = ((((w.alloc (.cells #[.int .i64 1] 3)).alloc (.cells #[.int .i64 2, .slice none 0 0] 61)).alloc
 (.cells #[.int .i64 (-1), .int .i64 2] 3)).alloc (.cells #[.int .i64 1, .int .i64 (-2)] 3)).alloc
 (.cells #[.slice (some ⟨w.heap.size + 1 + 1, 0, none⟩) 2 2, .slice (some ⟨w.heap.size + 1 + 1 + 1, 0, none⟩) 2 2] 24) ∧
 RD W (.slice (some ⟨w.heap.size, 0, none⟩) 1 1) (.slice (some ⟨w.heap.size + 1, 0, none⟩) 1 1) (.slice (some ⟨w.heap.size + 1 + 1 + 1 + 1, 0, none⟩) 2 2) awD2 ∧ Ext w W := by
 obtain ⟨w1, h1, r1, e1, s1⟩ := st1 w _ rfl 1
 obtain ⟨w2, h2, r2, e2, s2⟩ := stX w1 _ s1 [(2, .slice none 0 0)] 1 [(2, [])] rfl rfl (by decide) fun j hj hj' => by
  match j, hj with
  | 0, _ => exact ⟨rfl, RI.none _⟩
 obtain ⟨w3, h3, r3, e3, s3⟩ := st2 w2 _ s2 (-1) 2
 obtain ⟨w4, h4, r4, e4, s4⟩ := st2 w3 _ s3 1 (-2)
 obtain ⟨w5, h5, r5, e5, s5⟩ := stL w4 _ s4 [.slice (some ⟨w.heap.size + 1 + 1, 0, none⟩) 2 2, .slice (some ⟨w.heap.size + 1 + 1 + 1, 0, none⟩) 2 2] 2 [[-1, 2], [1, -2]] rfl rfl (by decide) fun j hj hj' => by
  match j, hj with
  | 0, _ => exact r3.ext e4
  | 1, _ => exact r4
 refine ⟨_, ?_, ⟨r1.ext (e2.trans (e3.trans (e4.trans e5))), r2.ext (e3.trans (e4.trans e5)), r5⟩, e1.trans (e2.trans (e3.trans (e4.trans e5)))⟩
 rw [h5, h4, h3, h2, h1]; rfl
theorem aw_new3 (w : World) : ∃ W : World, W = ((((w.alloc (.cells #[.int .i64 1, .int .i64 2] 3)).alloc (.cells #[.int .i64 1, .int .i64 (-2)] 3)).alloc
 (.cells #[.int .i64 (-1), .int .i64 2] 3)).alloc (.cells #[.int .i64 (-1), .int .i64 (-2)] 3)).alloc
 (.cells #[.slice (some ⟨w.heap.size, 0, none⟩) 2 2, .slice (some ⟨w.heap.size + 1, 0, none⟩) 2 2, .slice (some ⟨w.heap.size + 1 + 1, 0, none⟩) 2 2, .slice (some ⟨w.heap.size + 1 + 1 + 1, 0, none⟩) 2 2] 24) ∧
 RLL W (.slice (some ⟨w.heap.size + 1 + 1 + 1 + 1, 0, none⟩) 4 4) awF ∧ Ext w W := by
 obtain ⟨w1, h1, r1, e1, s1⟩ := st2 w _ rfl 1 2
 obtain ⟨w2, h2, r2, e2, s2⟩ := st2 w1 _ s1 1 (-2)
 obtain ⟨w3, h3, r3, e3, s3⟩ := st2 w2 _ s2 (-1) 2
 obtain ⟨w4, h4, r4, e4, s4⟩ := st2 w3 _ s3 (-1) (-2)
 obtain ⟨w5, h5, r5, e5, s5⟩ := stL w4 _ s4 [.slice (some ⟨w.heap.size, 0, none⟩) 2 2, .slice (some ⟨w.heap.size + 1, 0, none⟩) 2 2, .slice (some ⟨w.heap.size + 1 + 1, 0, none⟩) 2 2, .slice (some ⟨w.heap.size + 1 + 1 + 1, 0, none⟩) 2 2] 4 awF rfl rfl (by decide) fun j hj hj' => by
  match j, hj with
  | 0, _ => exact r1.ext (e2.trans (e3.trans e4))
  | 1, _ => exact r2.ext (e3.trans e4)
  | 2, _ => exact r3.ext e4
  | 3, _ => exact r4
 refine ⟨_, ?_, r5, e1.trans (e2.trans (e3.trans (e4.trans e5)))⟩
 rw [h5, h4, h3, h2, h1]
theorem RLL.take {w : World} {A : Option Addr} {n c : Nat} {f : List (List Int)} (h : RLL w (.slice A n c) f) (k : Nat) (hk : k ≤ f.length) : RLL w (.slice A k c) (f.take k) := by
 obtain ⟨A', c', vs, e, h1, h2, h3, h4, h5⟩ := h
 injection e with e1 e2 e3
 subst e1 e3
 refine ⟨A, c, vs.take k, by rw [List.length_take]; congr 1; omega, by rw [List.length_take]; omega, by rw [List.length_take]; omega, fun j hj => ?_, by rw [List.length_take, List.length_take]; omega, fun j hj hj' => ?_⟩
 · rw [List.length_take] at hj
   obtain ⟨ad, h6, h7⟩ := h3 j (by omega)
   exact ⟨ad, h6, by rw [h7, List.getElem_take]⟩
 · simp only [List.getElem_take]
   rw [List.length_take] at hj hj'
   exact h5 j (by omega) (by omega)
end Go.Proofs.YtjecjaihficcdaaGreat
namespace Go.Proofs.YtjecjaihficcdaaGreat
open Go.RowKit
set_option maxHeartbeats 2000000 in
theorem Same_q (xs ys : List Int) (v u : Value) (w : World) (hr : RI w v xs) (kr : RI w u ys) :
 Calls Tryz.prog 11 #[v, u] w fun e w' => e = .returned (.bool (decide (xs = ys))) ∧ ∃ n, w' = w.drewN n := by
 have HR := Lib.hid hr
 have KR := Lib.hid kr
 obtain ⟨A, c, rfl, h1, h2, h3⟩ := hr
 obtain ⟨B, d, rfl, k1, k2, k3⟩ := kr
 clear h3 k3
 by_cases hl : xs.length = ys.length
 · obtain ⟨m, hm⟩ : ∃ m, m = ys.length := ⟨_, rfl⟩
   have HM := Lib.hid hm
   rw [← hm] at hl k1 k2 KR ⊢
   rw [hl] at HR h1 h2 ⊢
   have HL := Lib.hid hl
   clear hl hm
   have hnm : ((m : Int) != (m : Int)) = false := by simp
   go_enter Tryz.func11, Tryz.ntmps11
   go_wp2
   go_loopg [5] m (fun gn i wr => ∃ k : Nat, k ≤ m ∧ gn + k = m ∧ i = .int .i64 k ∧ Hid ((∃ n, wr = w.drewN n) ∧ xs.take k = ys.take k))
   case atStart => exact ⟨0, Nat.zero_le _, by omega, rfl, ⟨0, rfl⟩, by simp⟩
   case round =>
    obtain ⟨k, hk, hgk, rfl, HI⟩ := hrel
    obtain ⟨wk, rfl⟩ : ∃ wk : World, wk = wr := ⟨_, rfl⟩
    have HE : Hid (Ext w wk) := Lib.hid (by obtain ⟨n, e⟩ := HI.out.1; rw [e]; exact Ext.drewN _ _)
    by_cases hlt : k < m
    · have hlx : k < xs.length := by have := HL.out; omega
      have hly : k < ys.length := by have := HM.out; omega
      obtain ⟨ad, rfl, hx0⟩ := (HR.out.ext HE.out).row.2.2.2.int k hlx
      obtain ⟨bd, rfl, hy0⟩ := (KR.out.ext HE.out).row.2.2.2.int k hly
      have hsx := List.take_succ_eq_append_getElem hlx
      have hsy := List.take_succ_eq_append_getElem hly
      obtain ⟨x, hx⟩ : ∃ x, x = xs[k] := ⟨_, rfl⟩
      obtain ⟨y, hy⟩ : ∃ y, y = ys[k] := ⟨_, rfl⟩
      rw [← hx] at hx0 hsx
      rw [← hy] at hy0 hsy
      have HSX := Lib.hid hsx
      have HSY := Lib.hid hsy
      clear hx hy hsx hsy hlx hly
      by_cases hxy : x = y
      · subst hxy
        have hxx : (x != x) = false := by simp
        go_wp2
        go_quiet (fail)
        go_wp2
        go_roundg (m - (k + 1))
        case measure => omega
        case rel =>
         refine ⟨k + 1, by omega, by omega, by go_num, ?_, by rw [HSX.out, HSY.out, HI.out.2]⟩
         obtain ⟨n, e⟩ := HI.out.1
         exact ⟨_, by rw [e, drewN_two]⟩
      · have hxx : (x != y) = true := by simpa using hxy
        have HXY := Lib.hid hxy
        clear hxy
        go_wp2
        go_quiet (fail)
        go_wp2
        go_ret
        refine ⟨ret_bool ?_, ?_⟩
        · symm
          rw [decide_eq_false_iff_not]
          intro e
          have h5 := congrArg (List.take (k + 1)) e
          rw [HSX.out, HSY.out, HI.out.2] at h5
          exact HXY.out (by simpa using h5)
        · obtain ⟨n, e⟩ := HI.out.1
          exact ⟨_, by rw [e, drewN_two]⟩
    · obtain rfl : k = m := by omega
      go_wp2
      go_ret
      refine ⟨ret_bool ?_, HI.out.1⟩
      symm
      rw [decide_eq_true_eq]
      have h5 := HI.out.2
      rwa [List.take_of_length_le (by have := HL.out; omega), List.take_of_length_le (by have := HM.out; omega)] at h5
 · have hnb : ((xs.length : Int) != (ys.length : Int)) = true := by simp; omega
   have HL := Lib.hid hl
   clear hl
   go_enter Tryz.func11, Tryz.ntmps11
   go_wp2
   go_ret
   refine ⟨ret_bool ?_, 0, rfl⟩
   symm
   rw [decide_eq_false_iff_not]
   intro e
   exact HL.out (by rw [e])
theorem Same_any (xs ys : List Int) (v u : Value) (w : World) (hr : RI w v xs) (kr : RI w u ys) : Calls Tryz.prog 11 #[v, u] w fun e w' => e = .returned (.bool (decide (xs = ys))) ∧ Ext w w' :=
 (Same_q xs ys v u w hr kr).mono fun _ _ ⟨h, n, e⟩ => ⟨h, e ▸ Ext.drewN w n⟩
theorem Same_refl (r : List Int) (v u : Value) (w : World) (hr : RI w v r) (kr : RI w u r) : Calls Tryz.prog 11 #[v, u] w fun e w' => e = .returned (.bool true) ∧ Ext w w' := by
 have := Same_any r r v u w hr kr
 rw [decide_eq_true rfl] at this
 exact this
set_option maxHeartbeats 2000000 in
theorem SameAll_any (xs ys : List (List Int)) (v u : Value) (w : World) (hr : RLL w v xs) (kr : RLL w u ys) :
 Calls Tryz.prog 16 #[v, u] w fun e w' => e = .returned (.bool (decide (xs = ys))) ∧ Ext w w' := by
 obtain ⟨A, c, vs, rfl, h1, h2, h3, h4, h5⟩ := hr
 obtain ⟨B, d, us, rfl, k1, k2, k3, k4, k5⟩ := kr
 have H3 := Lib.hid h3
 have H4 := Lib.hid h4
 have H5 := Lib.hid h5
 have K3 := Lib.hid k3
 have K4 := Lib.hid k4
 have K5 := Lib.hid k5
 clear h3 h4 h5 k3 k4 k5
 by_cases hl : vs.length = us.length
 · obtain ⟨m, hm⟩ : ∃ m, m = us.length := ⟨_, rfl⟩
   have HM := Lib.hid hm
   rw [← hm] at hl k1 k2 ⊢
   rw [hl] at h1 h2 ⊢
   have HL := Lib.hid hl
   clear hl hm
   have hnm : ((m : Int) != (m : Int)) = false := by simp
   go_enter Tryz.func16, Tryz.ntmps16
   go_wp2
   go_loopg [5] m (fun gn i wr => ∃ k : Nat, k ≤ m ∧ gn + k = m ∧ i = .int .i64 k ∧ Hid (Ext w wr ∧ xs.take k = ys.take k))
   case atStart => exact ⟨0, Nat.zero_le _, by omega, rfl, Ext.refl _, by simp⟩
   case round =>
    obtain ⟨k, hk, hgk, rfl, HI⟩ := hrel
    obtain ⟨wk, rfl⟩ : ∃ wk : World, wk = wr := ⟨_, rfl⟩
    by_cases hlt : k < m
    · have hlv : k < vs.length := by have := HL.out; omega
      have hlu : k < us.length := by have := HM.out; omega
      have hlx : k < xs.length := by have := H4.out; omega
      have hly : k < ys.length := by have := K4.out; omega
      obtain ⟨ad, rfl, hx0⟩ := (H3.out.ext HI.out.1) k hlv
      obtain ⟨bd, rfl, hy0⟩ := (K3.out.ext HI.out.1) k hlu
      have hsx := List.take_succ_eq_append_getElem hlx
      have hsy := List.take_succ_eq_append_getElem hly
      have hcl : ∀ n, Calls Tryz.prog 11 #[vs[k], us[k]] (wk.drewN n) fun e w' => e = .returned (.bool (decide (xs[k] = ys[k]))) ∧ ∃ q, w' = wk.drewN q := fun n => by
       have e0 : Ext w (wk.drewN n) := HI.out.1.trans (Ext.drewN _ _)
       refine (Same_q xs[k] ys[k] vs[k] us[k] _ ((H5.out k hlv hlx).ext e0) ((K5.out k hlu hly).ext e0)).mono ?_
       rintro e w' ⟨he, q, rfl⟩
       exact ⟨he, n + q, drewN_two _ _ _⟩
      obtain ⟨E, ce, he, -⟩ := H5.out k hlv hlx
      obtain ⟨D, de, hd, -⟩ := K5.out k hlu hly
      obtain ⟨x, hx⟩ : ∃ x, x = xs[k] := ⟨_, rfl⟩
      obtain ⟨y, hy⟩ : ∃ y, y = ys[k] := ⟨_, rfl⟩
      rw [he] at hx0 hcl
      rw [hd] at hy0 hcl
      rw [← hx] at hsx hx0 hcl
      rw [← hy] at hsy hy0 hcl
      have HSX := Lib.hid hsx
      have HSY := Lib.hid hsy
      obtain ⟨a, ha⟩ : ∃ a, a = x.length := ⟨_, rfl⟩
      obtain ⟨b, hb⟩ : ∃ b, b = y.length := ⟨_, rfl⟩
      rw [← ha] at hx0 hcl
      rw [← hb] at hy0 hcl
      clear hx hy hsx hsy hlx hly hlv hlu he hd ha hb
      by_cases hxy : x = y
      · rw [decide_eq_true hxy] at hcl
        have HXY := Lib.hid hxy
        have HCL := Lib.hid hcl
        clear hxy hcl
        go_wp2
        go_quiet ((go_at_call 11; exact HCL.out _))
        go_wp2
        go_roundg (m - (k + 1))
        case measure => omega
        case rel => exact ⟨k + 1, by omega, by omega, by go_num, HI.out.1.trans (Ext.drewN _ _), by rw [HSX.out, HSY.out, HI.out.2, HXY.out]⟩
      · rw [decide_eq_false hxy] at hcl
        have HXY := Lib.hid hxy
        have HCL := Lib.hid hcl
        clear hxy hcl
        go_wp2
        go_quiet ((go_at_call 11; exact HCL.out _))
        go_wp2
        go_ret
        refine ⟨ret_bool ?_, HI.out.1.trans (Ext.drewN _ _)⟩
        symm
        rw [decide_eq_false_iff_not]
        intro e
        have h5 := congrArg (List.take (k + 1)) e
        rw [HSX.out, HSY.out, HI.out.2] at h5
        exact HXY.out (by simpa using h5)
    · obtain rfl : k = m := by omega
      go_wp2
      go_ret
      refine ⟨ret_bool ?_, HI.out.1⟩
      symm
      rw [decide_eq_true_eq]
      have h5 := HI.out.2
      rwa [List.take_of_length_le (by have := HL.out; have := H4.out; omega), List.take_of_length_le (by have := HM.out; have := K4.out; omega)] at h5
 · have hnb : ((vs.length : Int) != (us.length : Int)) = true := by simp; omega
   have HL := Lib.hid hl
   clear hl
   go_enter Tryz.func16, Tryz.ntmps16
   go_wp2
   go_ret
   refine ⟨ret_bool ?_, Ext.refl _⟩
   symm
   rw [decide_eq_false_iff_not]
   intro e
   exact HL.out (by have := H4.out; have := K4.out; have := congrArg List.length e; omega)
end Go.Proofs.YtjecjaihficcdaaGreat
namespace Go.Proofs.YtjecjaihficcdaaGreat
open Go.RowKit
theorem aw_class (f L : List (List Int)) (u : Value) (w : World) (kr : RLL w u f) (h64 : All64L f) (hm : mayCnfB f = true) (ht : total f ≤ 1000000) (hL : RefClasses f = L) :
 Calls Tryz.prog 17 #[u] w fun e w' => ∃ v, e = .returned v ∧ RLL w' v L ∧ Ext w w' := by
 refine (classes_any f u w kr h64 (fun _ => by omega)).mono ?_
 rintro e w' ⟨v, L', rfl, hr, hE, -, hc⟩
 rw [classes_ref hm (hc hm), hL] at hr
 exact ⟨v, rfl, hr, hE⟩
theorem SameAll_refl (f : List (List Int)) (v u : Value) (w : World) (hr : RLL w v f) (kr : RLL w u f) : Calls Tryz.prog 16 #[v, u] w fun e w' => e = .returned (.bool true) ∧ Ext w w' := by
 have := SameAll_any f f v u w hr kr
 rwa [decide_eq_true rfl] at this
theorem RLL.nil_form {w : World} {v : Value} (h : RLL w v []) : ∃ A c, v = .slice A 0 c := by
 obtain ⟨A, c, vs, rfl, -, -, -, hl, -⟩ := h
 exact ⟨A, c, by rw [show vs.length = 0 from hl]⟩
theorem aw_fail (f : List (List Int)) (xs : List Int) (u : Value) (w : World) (kr : RLL w u f) (h64 : All64L f) (ht : total f ≤ 1000000) (hL : FailV f = xs) :
 Calls Tryz.prog 14 #[u] w fun e w' => ∃ v, e = .returned v ∧ RI w' v xs ∧ Ext w w' := by
 refine (Failed_any f u w h64 kr (fun _ => by omega)).mono ?_
 rintro e w' ⟨v, rfl, hr, hE⟩
 rw [hL] at hr
 exact ⟨v, rfl, hr.reads, hE⟩
set_option maxRecDepth 100000 in
set_option maxHeartbeats 20000000 in
theorem awake_any (w : World) : Calls Tryz.prog 10 #[] w fun e w' => e = .returned (.bool true) ∧ Ext w w' := by
 obtain ⟨w1, h1, hRD1, hB1, hE1⟩ := aw_new1 w
 have HRD1 := Lib.hid hRD1
 have HB1 := Lib.hid hB1
 have HE1 := Lib.hid hE1
 go_enter Tryz.func10, Tryz.ntmps10
 go_upto_region 2 with fail
 rw [← h1]
 have d0 := hB1.cell 0
 have d1 := hB1.cell 1
 have d2 := hB1.cell 2
 simp only [List.getElem?_cons_zero, List.getElem?_cons_succ] at d0 d1 d2
 clear h1 hRD1 hB1 hE1
 generalize w.heap.size = b at HRD1 HB1 d0 d1 d2 ⊢
 generalize hb8 : b + 1 + 1 + 1 + 1 + 1 + 1 + 1 + 1 = b8 at HB1 d0 d1 d2 ⊢
 generalize Value.slice (some ⟨b, 0, none⟩) 1 1 = vu at *
 generalize Value.slice (some ⟨b + 1 + 1 + 1, 0, none⟩) 2 2 = vx at *
 generalize Value.slice (some ⟨b + 1 + 1 + 1 + 1 + 1 + 1 + 1, 0, none⟩) 3 3 = vc at *
 have HN : Hid (∀ w', Ext w1 w' → Calls Tryz.prog 19 #[.agg #[vu, vx, vc]] w' fun e w'' => e = .returned (.tuple #[.agg #[.int .u8 6, .int .i64 2, .int .i64 3, .int .i64 0, .int .i64 1], .bool true]) ∧ Ext w' w'') := Lib.hid (fun w' h => by
  have := Next_any awD1 _ _ _ w' (HRD1.out.ext h) awD1_ok
  rw [aw_next1] at this
  exact this)
 have HMK : Hid (∀ w', Ext w1 w' → Calls Tryz.prog 21 #[.agg #[vu, vx, vc], .agg #[.int .u8 6, .int .i64 2, .int .i64 3, .int .i64 0, .int .i64 1]] w' (PostMake w' (MakeV awD1 ⟨6, 2, 3, 0, 1⟩))) := Lib.hid (fun w' h => Make_any awD1 ⟨6, 2, 3, 0, 1⟩ _ _ _ w' (HRD1.out.ext h) awD1_ok ⟨by show I64 2; unfold I64; omega, by show I64 3; unfold I64; omega, by show I64 0; unfold I64; omega, by show I64 1; unfold I64; omega⟩)
 clear hb8
 go_upto_region 3 with (go_at_call 19; refine (HN.out _ (Ext.refl _)).mono ?_; rintro e w2 ⟨rfl, hE⟩; have HE2 := Lib.hid hE; clear hE)
 have e3 := Ext.alloc w2 (.cells #[.int .u8 6, .int .i64 2, .int .i64 3, .int .i64 0, .int .i64 1] 37)
 have B3 := Blk.new w2 37 [.int .u8 6, .int .i64 2, .int .i64 3, .int .i64 0, .int .i64 1]
 have HB3 := Lib.hid B3
 have HE3 := Lib.hid (HE2.out.trans e3)
 have hbD := (HE3.out.chg (fun _ => False)).blk HB1.out id
 have f0 := hbD.cell 0
 have f1 := hbD.cell 1
 have f2 := hbD.cell 2
 have k0 := B3.cell 0
 have k1 := B3.cell 1
 have k2 := B3.cell 2
 have k3 := B3.cell 3
 have k4 := B3.cell 4
 simp only [List.getElem?_cons_zero, List.getElem?_cons_succ] at f0 f1 f2 k0 k1 k2 k3 k4
 clear e3 B3 hbD d0 d1 d2
 generalize w2.heap.size = b3 at HB3 k0 k1 k2 k3 k4 ⊢
 generalize w2.alloc _ = w3 at HB3 HE3 f0 f1 f2 k0 k1 k2 k3 k4 ⊢
 obtain ⟨hm2, hmc, hml⟩ := aw_m1
 change (MakeV awD1 _).2 = 0 at hm2
 change (MakeV awD1 _).1.clauses = _ at hmc
 change (MakeV awD1 _).1.exist.length = 1 at hml
 generalize MakeV awD1 ⟨6, 2, 3, 0, 1⟩ = MV at HMK hm2 hmc hml
 obtain ⟨MD, ME⟩ := MV
 simp only at hm2 hmc hml
 subst hm2
 go_upto_region 4 with (go_at_call 21; refine (HMK.out _ HE3.out).mono ?_; rintro e w4 ⟨mu, mx, mc, rfl, hr, hE⟩; obtain ⟨uA, uN, uC, rfl⟩ := slice_of hr.u; obtain ⟨xA, xC, rfl⟩ : ∃ A c, mx = .slice A 1 c := (by obtain ⟨A, c, us, h, -⟩ := hr.x; exact ⟨A, c, by rw [h, hml]⟩); obtain ⟨cA, cN, cC, rfl⟩ : ∃ A n c, mc = .slice A n c := (by obtain ⟨A, c, us, h, -⟩ := hr.c; exact ⟨A, _, c, h⟩); have HE4 := Lib.hid hE; have HMX := Lib.hid hr.x; have HMC := Lib.hid hr.c; rw [hmc] at HMC; clear hE hr)
 have e5 := Ext.alloc w4 (.cells #[.slice uA uN uC, .slice xA 1 xC, .slice cA cN cC] 27)
 have HB5 := Lib.hid (Blk.new w4 27 [.slice uA uN uC, .slice xA 1 xC, .slice cA cN cC])
 have HE5 := Lib.hid (HE4.out.trans e5)
 have HEA := Lib.hid (HE1.out.trans (HE3.out.trans HE5.out))
 have HMX5 := Lib.hid (HMX.out.ext e5)
 have HMC5 := Lib.hid (RLL.ext' HMC.out e5)
 have hbC := (HE5.out.chg (fun _ => False)).blk HB3.out id
 have HBC := Lib.hid hbC
 clear e5 hbC k0 k1 k2 k3 k4 f0 f1 f2 HMX HMC hmc HE4
 generalize w4.heap.size = b5 at HB5 ⊢
 generalize w4.alloc _ = w5 at HB5 HE5 HEA HMX5 HMC5 HBC ⊢
 clear HE5 HE3 HE2 HMK HN HB1 HB3 HE1 HRD1
 obtain ⟨w6, h6, hRD6, hE6⟩ := aw_new2 w5
 have HN2 : Hid (∀ w', Ext w6 w' → Calls Tryz.prog 19 #[.agg #[.slice (some ⟨w5.heap.size, 0, none⟩) 1 1, .slice (some ⟨w5.heap.size + 1, 0, none⟩) 1 1, .slice (some ⟨w5.heap.size + 1 + 1 + 1 + 1, 0, none⟩) 2 2]] w' fun e w'' => e = .returned (.tuple #[.agg #[.int .u8 0, .int .i64 0, .int .i64 0, .int .i64 0, .int .i64 0], .bool false]) ∧ Ext w' w'') := Lib.hid (fun w' h => by
  have := Next_any awD2 _ _ _ w' (hRD6.ext h) awD2_ok
  rw [aw_next2] at this
  exact this)
 have HE6 := Lib.hid hE6
 have H6 := Lib.hid h6
 clear hRD6 hE6 h6
 go_upto_region 5 with (go_at_call 19; rw [← H6.out]; refine (HN2.out _ (Ext.refl _)).mono ?_; rintro e w7 ⟨rfl, hE⟩; have HE7 := Lib.hid hE; clear hE)
 have HE8 := Lib.hid (HE6.out.trans (HE7.out.trans (Ext.alloc w7 (.cells #[.int .u8 0, .int .i64 0, .int .i64 0, .int .i64 0, .int .i64 0] 37))))
 generalize w7.alloc _ = w8 at HE8 ⊢
 clear H6 HN2 HE7 HE6
 go_upto_region 6 with fail
 obtain ⟨w9, h9, hF, hE9⟩ := aw_new3 w8
 rw [← h9]
 have HF := Lib.hid hF
 have HE59 := Lib.hid (HE8.out.trans hE9)
 generalize w8.heap.size = b9 at HF ⊢
 clear h9 hF hE9 HE8
 have hb3 := (HE59.out.chg (fun _ => False)).blk HBC.out id
 have hb5 := (HE59.out.chg (fun _ => False)).blk HB5.out id
 have HB59 := Lib.hid hb5
 have k0 := hb3.cell 0
 have k1 := hb3.cell 1
 have k2 := hb3.cell 2
 have k3 := hb3.cell 3
 have k4 := hb3.cell 4
 have m2 := hb5.cell 2
 simp only [List.getElem?_cons_zero, List.getElem?_cons_succ] at k0 k1 k2 k3 k4 m2
 have HM9 := Lib.hid (RLL.ext' HMC5.out HE59.out)
 have HE9 := Lib.hid (HEA.out.trans HE59.out)
 clear hb3 hb5 HBC HB5 HMC5 HMX5 HEA HE59
 go_upto_region 7 with (go_at_call 16; refine (SameAll_refl [[3]] _ _ _ (RLL.ext' HM9.out ((Ext.alloc _ _).trans (Ext.alloc _ _))) (lit1 w9 [3] (by decide))).mono ?_; rintro e w10 ⟨rfl, hE⟩; have HE910 := Lib.hid (((Ext.alloc _ _).trans (Ext.alloc _ _)).trans hE); have m1 := ((HE910.out.chg (fun _ => False)).blk HB59.out id).cell 1; simp only [List.getElem?_cons_zero, List.getElem?_cons_succ] at m1; clear hE)
 clear k0 k1 k2 k3 k4 m1 m2 HM9 HB59
 have HF10 := Lib.hid (RLL.ext' HF.out HE910.out)
 have HF2 : Hid (RLL w10 (.slice (some ⟨b9 + 1 + 1 + 1 + 1, 0, none⟩) 2 4) [[1, 2], [1, -2]]) := Lib.hid (RLL.take HF10.out 2 (by decide))
 have HE10 := Lib.hid (HE9.out.trans HE910.out)
 have hsl := slice_to Tryz.underlying22 info_ints (some ⟨b9 + 1 + 1 + 1 + 1, 0, none⟩) 4 4 2 (by omega)
 clear HF HE9 HE910
 go_upto_region 8 with (go_at_call 17; refine (aw_class awF _ _ _ HF10.out (all64L_of _ (by decide)) (by decide +kernel) (by decide) aw_cl1).mono ?_; rintro e w11 ⟨v11, rfl, hr, hE⟩; have HR11 := Lib.hid hr; have HE11 := Lib.hid hE; clear hr hE)
 go_upto_region 8 with (go_at_call 16; refine (SameAll_refl [[-1, 1, -2, 2]] _ _ _ (RLL.ext' HR11.out ((Ext.alloc _ _).trans (Ext.alloc _ _))) (lit1 w11 [-1, 1, -2, 2] (by decide))).mono ?_; rintro e w12 ⟨rfl, hE⟩; have HE12 := Lib.hid (HE11.out.trans (((Ext.alloc _ _).trans (Ext.alloc _ _)).trans hE)); clear hE HE11)
 go_upto_region 8 with (go_at_call 14; refine (aw_fail awF _ _ _ (RLL.ext' HF10.out HE12.out) (all64L_of _ (by decide)) (by decide) aw_f1).mono ?_; rintro e w13 ⟨v13, rfl, hr, hE⟩; have HR13 := Lib.hid hr; have HE13 := Lib.hid (HE12.out.trans hE); clear hr hE HE12)
 go_upto_region 8 with (go_at_call 11; refine (Same_refl [-1, 1, -2, 2] _ _ _ (HR13.out.ext (Ext.alloc _ _)) (lit0 w13 [-1, 1, -2, 2] (by decide))).mono ?_; rintro e w14 ⟨rfl, hE⟩; have HE14 := Lib.hid (HE13.out.trans ((Ext.alloc _ _).trans hE)); clear hE HE13)
 go_upto_region 8 with (go_at_call 14; refine (aw_fail [[1, 2], [1, -2]] _ _ _ (RLL.ext' HF2.out HE14.out) (all64L_of _ (by decide)) (by decide) aw_f2).mono ?_; rintro e w15 ⟨v15, rfl, hr, hE⟩; have HR15 := Lib.hid hr; have HE15 := Lib.hid (HE14.out.trans hE); clear hr hE HE14)
 go_upto_region 8 with (go_at_call 11; refine (Same_refl [-1] _ _ _ (HR15.out.ext (Ext.alloc _ _)) (lit0 w15 [-1] (by decide))).mono ?_; rintro e w16 ⟨rfl, hE⟩; have HE16 := Lib.hid (HE15.out.trans ((Ext.alloc _ _).trans hE)); clear hE HE15)
 go_upto_region 8 with (go_at_call 17; refine (aw_class [[1, 2], [1, -2]] _ _ _ (RLL.ext' HF2.out HE16.out) (all64L_of _ (by decide)) (by decide +kernel) (by decide) aw_cl2).mono ?_; rintro e w17 ⟨v17, rfl, hr, hE⟩; obtain ⟨A17, c17, rfl⟩ := RLL.nil_form hr; have HE17 := Lib.hid (HE16.out.trans hE); clear hr hE HE16)
 have HEB := Lib.hid (HE10.out.trans HE17.out)
 clear HE10 HE17 HF10 HF2 hsl
 go_wp2_with (go_at_call 17; refine (aw_class [[1, 2], [-1, -2]] _ _ _ (lit2 w17 [1, 2] [-1, -2] (by decide) (by decide)) (all64L_of _ (by decide)) (by decide +kernel) (by decide) aw_cl3).mono ?_; rintro e w18 ⟨v18, rfl, hr, hE⟩; have HR18 := Lib.hid hr; have HE18 := Lib.hid (HEB.out.trans ((((Ext.alloc _ _).trans (Ext.alloc _ _)).trans (Ext.alloc _ _)).trans hE)); clear hr hE)
 go_wp2_with (go_at_call 16; refine (SameAll_refl [[1, -2]] _ _ _ (RLL.ext' HR18.out ((Ext.alloc _ _).trans (Ext.alloc _ _))) (lit1 w18 [1, -2] (by decide))).mono ?_; rintro e w19 ⟨rfl, hE⟩; have HE19 := Lib.hid (HE18.out.trans (((Ext.alloc _ _).trans (Ext.alloc _ _)).trans hE)); clear hE)
 go_wp2_with (go_at_call 12; refine (Reaches_any [[1, 2], [-2, 3]] (-1) _ _ (by unfold I64; omega) (all64L_of _ (by decide)) (lit2 w19 [1, 2] [-2, 3] (by decide) (by decide)) (fun _ => by decide)).mono ?_; rintro e w20 ⟨v20, rfl, hr, hE⟩; rw [aw_r1] at hr; have HR20 := Lib.hid hr.reads; have HE20 := Lib.hid (HE19.out.trans ((((Ext.alloc _ _).trans (Ext.alloc _ _)).trans (Ext.alloc _ _)).trans hE)); clear hr hE)
 go_wp2_with (go_at_call 11; refine (Same_refl [-1, 2, 3] _ _ _ (HR20.out.ext (Ext.alloc _ _)) (lit0 w20 [-1, 2, 3] (by decide))).mono ?_; rintro e w21 ⟨rfl, hE⟩; have HE21 := Lib.hid (HE20.out.trans ((Ext.alloc _ _).trans hE)); clear hE)
 go_ret
 exact ⟨rfl, HE21.out⟩
end Go.Proofs.YtjecjaihficcdaaGreat
namespace Go.Proofs.YtjecjaihficcdaaGreat
theorem strike_len {X : List (Int × List Int)} {v : Int} (h : (X.map Prod.fst).Nodup) (hv : v ∈ X.map Prod.fst) : (X.filter fun x => !decide (x.1 = v)).length + 1 = X.length := by
 induction X with
 | nil => cases hv
 | cons a X ih =>
   rw [List.map_cons, List.nodup_cons] at h
   by_cases ha : a.1 = v
   · have hall : X.filter (fun x => !decide (x.1 = v)) = X := by
      rw [List.filter_eq_self]
      intro x hx
      have : x.1 ≠ v := fun e => h.1 (by rw [ha, ← e]; exact List.mem_map.2 ⟨x, hx, rfl⟩)
      simp [this]
     rw [List.filter_cons, if_neg (by simp [ha]), hall]
     rfl
   · have hv' : v ∈ X.map Prod.fst := by
      rw [List.map_cons, List.mem_cons] at hv
      rcases hv with rfl | hv
      · exact absurd rfl ha
      · exact hv
     rw [List.filter_cons, if_pos (by simp [ha]), List.length_cons, ih h.2 hv', List.length_cons]
theorem normC_some {x t : Int} {l r : List Int} (h : normC x t l = some r) : mayB r = true ∧ r.length ≤ l.length ∧ ∀ y ∈ r, ∃ z ∈ l, y = subst1 x t z := by
 unfold normC at h
 split at h
 · rename_i h0
   injection h with h
   unfold NormV at h0 h
   split at h0
   · cases h0
   · rename_i hv
     rw [if_neg hv] at h
     split at h0
     · rename_i hm
       rw [if_pos hm] at h
       simp only at h
       subst h
       refine ⟨hm, ?_, fun y hy => ?_⟩
       · have := setL_len (l.map (subst1 x t)) []
         simpa using this
       · have := (mem_setL _ _ _).1 hy
         rcases this with h | h
         · cases h
         · obtain ⟨z, hz, rfl⟩ := List.mem_map.1 h
           exact ⟨z, hz, rfl⟩
     · cases h0
 · cases h
theorem total_filterMap {f : List Int → Option (List Int)} (hf : ∀ l r, f l = some r → r.length ≤ l.length) (F : List (List Int)) : total (F.filterMap f) ≤ total F := by
 unfold total lens
 rw [List.take_length, List.take_length]
 induction F with
 | nil => simp
 | cons a F ih =>
   rw [List.filterMap_cons]
   split
   · simp only [List.map_cons, List.sum_cons]; omega
   · rename_i b hb
     have := hf a b hb
     simp only [List.map_cons, List.sum_cons]; omega
theorem mayCnf_total {F : List (List Int)} (h : mayCnfB F = true) : total F ≤ 200000 := by
 unfold mayCnfB at h
 rw [Bool.and_eq_true, List.all_eq_true] at h
 by_cases h0 : F.length = 0
 · unfold total lens
   rw [List.length_eq_zero_iff.1 h0]; simp
 · have := h.2 (F.length - 1) (by simp; omega)
   rw [Bool.and_eq_true, decide_eq_true_eq] at this
   unfold total
   rw [show F.length - 1 + 1 = F.length by omega] at this
   exact this.1
theorem mayCnf_of {F : List (List Int)} (h1 : F.length ≤ 20000) (h2 : total F ≤ 200000) (h3 : ∀ c ∈ F, mayB c = true) : mayCnfB F = true := by
 unfold mayCnfB
 rw [Bool.and_eq_true, decide_eq_true_eq, List.all_eq_true]
 refine ⟨h1, fun k hk => ?_⟩
 have hk' : k < F.length := by simpa using hk
 rw [Bool.and_eq_true, decide_eq_true_eq]
 have := lens_le F (k + 1)
 refine ⟨by omega, ?_⟩
 rw [getD_of F k hk']
 exact h3 _ (List.getElem_mem hk')
theorem mayD_iff (d : DqV) : mayD d = true ↔ (∀ x ∈ d.exist, (x.1 ∉ d.univ ∧ risesB x.2 = true) ∧ ∀ v ∈ x.2, v ∈ d.univ) ∧ risesB d.univ = true ∧ risesB d.vars = true ∧ d.univ.length + d.exist.length ≤ 1024 ∧ mayCnfB d.clauses = true ∧ ∀ c ∈ d.clauses, ∀ x ∈ c, varOf x ∈ d.univ ++ d.vars := by
 unfold mayD
 simp only [Bool.and_eq_true, List.all_eq_true, Bool.not_eq_true', decide_eq_false_iff_not, decide_eq_true_eq, and_assoc]
theorem subst_var {d : DqV} (hm : mayD d = true) {x t : Int} (hx : 0 < x) (ha : allowP d x t = true) (z : Int) (hz : varOf z ∈ d.univ ++ d.vars) : varOf (subst1 x t z) ∈ d.univ ++ (d.exist.filter fun y => !decide (y.1 = x)).map Prod.fst := by
 obtain ⟨h1, h2, h3, h4, h5, h6⟩ := (mayD_iff d).1 hm
 unfold allowP at ha
 cases hd : d.deps x with
 | none => rw [hd] at ha; cases ha
 | some on =>
   rw [hd] at ha
   simp only [Bool.and_eq_true, Bool.not_eq_true', decide_eq_false_iff_not] at ha
   have hxe := deps_mem hd
   have hxu := (h1 _ hxe).1.1
   have hx1 : x ∈ d.vars := List.mem_map.2 ⟨_, hxe, rfl⟩
   have hxr := ((risesB_iff _).1 h3).1 x hx1
   have ht : varOf t ∈ d.univ ++ (d.exist.filter fun y => !decide (y.1 = x)).map Prod.fst := by
    cases hdt : d.deps (varOf t) with
    | none =>
      rw [hdt] at ha
      exact List.mem_append_left _ ((h1 _ hxe).2 _ (by simpa using ha.2))
    | some mine =>
      refine List.mem_append_right _ (List.mem_map.2 ⟨_, List.mem_filter.2 ⟨deps_mem hdt, ?_⟩, rfl⟩)
      simp [ha.1]
   unfold subst1
   split
   · exact ht
   · split
     · rw [varOf_neg]; exact ht
     · rename_i hz1 hz2
       rcases List.mem_append.1 hz with h | h
       · exact List.mem_append_left _ h
       · obtain ⟨y, hy, hye⟩ := List.mem_map.1 h
         refine List.mem_append_right _ (List.mem_map.2 ⟨y, List.mem_filter.2 ⟨hy, ?_⟩, hye⟩)
         have : y.1 ≠ x := fun e => by
          have hv : varOf z = x := by rw [← hye, e]
          have h0 : varOf z ≠ 0 := by omega
          have := (varOf_eq h0).1
          omega
         simp [this]
theorem made_may {d : DqV} {c : ChV} (hm : mayD d = true) (hc : okCh d c = true) : mayD (madeV d c) = true ∧ (madeV d c).exist.length + 1 = d.exist.length := by
 obtain ⟨h1, h2, h3, h4, h5, h6⟩ := (mayD_iff d).1 hm
 unfold okCh at hc
 simp only [Bool.and_eq_true, decide_eq_true_eq] at hc
 obtain ⟨-, hx, ha, -, -⟩ := hc
 have hl : (madeV d c).exist.length + 1 = d.exist.length := by
  refine strike_len (rises_nodup ((risesB_iff _).1 h3).2) ?_
  unfold allowP at ha
  cases hd : d.deps c.lit with
  | none => rw [hd] at ha; cases ha
  | some on => exact List.mem_map.2 ⟨_, deps_mem hd, rfl⟩
 refine ⟨(mayD_iff _).2 ⟨fun x hx => h1 x ((List.mem_filter.1 hx).1), h2, ?_, ?_, ?_, ?_⟩, hl⟩
 · obtain ⟨r1, r2⟩ := (risesB_iff _).1 h3
   have hsub : (madeV d c).vars.Sublist d.vars := List.filter_sublist.map _
   exact (risesB_iff _).2 ⟨fun x hx => r1 x (hsub.subset hx), r2.sublist hsub⟩
 · have : (madeV d c).univ = d.univ := rfl
   rw [this]; omega
 · refine mayCnf_of ?_ ?_ ?_
   · exact Nat.le_trans (List.length_filterMap_le _ _) (mayCnfB_len h5)
   · exact Nat.le_trans (total_filterMap (fun l r h => (normC_some h).2.1) _) (mayCnf_total h5)
   · intro r hr
     obtain ⟨l, -, hl⟩ := List.mem_filterMap.1 hr
     exact (normC_some hl).1
 · intro r hr y hy
   obtain ⟨l, hlm, hlr⟩ := List.mem_filterMap.1 hr
   obtain ⟨z, hz, rfl⟩ := (normC_some hlr).2.2 y hy
   exact subst_var hm hx ha z (h6 l hlm z hz)
theorem made_ok {d : DqV} {c : ChV} (hm : mayD d = true) (hc : okCh d c = true) (ok : DOk d) : DOk (madeV d c) := by
 obtain ⟨hmm, hl⟩ := made_may hm hc
 obtain ⟨h1, h2, h3, h4, h5, h6⟩ := (mayD_iff _).1 hmm
 refine ⟨ok.u64, fun x hx => ok.x64 x ((List.mem_filter.1 hx).1), fun r hr y hy => ?_, ok.ul, by have := ok.xl; omega, fun x hx => ok.ol x ((List.mem_filter.1 hx).1), Nat.le_trans (List.length_filterMap_le _ _) ok.cl, Nat.le_trans (total_filterMap (fun l r h => (normC_some h).2.1) _) ok.tot⟩
 have := h6 r hr y hy
 have h0 : varOf y ≠ 0 := by
  rcases List.mem_append.1 this with h | h
  · have := ((risesB_iff _).1 h2).1 _ h; omega
  · have := ((risesB_iff _).1 h3).1 _ h; omega
 have hr := varOf_range y
 have := (varOf_eq h0).1
 unfold I64
 omega
end Go.Proofs.YtjecjaihficcdaaGreat
namespace Go.Proofs.YtjecjaihficcdaaGreat
open Go.RowKit
def ptL : List Int → Nat → List Int
 | [], _ => []
 | v :: vs, n => (if n % 2 = 0 then -v else v) :: ptL vs (n / 2)
def idxA : List Int → List Int → Nat
 | [], _ => 0
 | o :: os, u => (if o ∈ u then 1 else 0) + 2 * idxA os u
theorem idxA_lt (os u : List Int) : idxA os u < 2 ^ os.length := by
 induction os with
 | nil => simp [idxA]
 | cons o os ih =>
   rw [idxA, List.length_cons, Nat.pow_succ]
   split <;> omega
theorem idxA_same {os u1 u2 : List Int} (h : idxA os u1 = idxA os u2) : ∀ o ∈ os, o ∈ u1 ↔ o ∈ u2 := by
 induction os with
 | nil => intro o ho; cases ho
 | cons o os ih =>
   rw [idxA, idxA] at h
   have h1 : (o ∈ u1 ↔ o ∈ u2) ∧ idxA os u1 = idxA os u2 := by
    by_cases a : o ∈ u1 <;> by_cases b : o ∈ u2 <;> simp [a, b] at h ⊢ <;> omega
   intro q hq
   rcases List.mem_cons.1 hq with rfl | hq
   · exact h1.1
   · exact ih h1.2 q hq
theorem idxA_of {os u1 u2 : List Int} (h : ∀ o ∈ os, o ∈ u1 ↔ o ∈ u2) : idxA os u1 = idxA os u2 := by
 induction os with
 | nil => rfl
 | cons o os ih =>
   rw [idxA, idxA, ih fun q hq => h q (List.mem_cons_of_mem _ hq)]
   by_cases a : o ∈ u1
   · rw [if_pos a, if_pos ((h o (by simp)).1 a)]
   · rw [if_neg a, if_neg (fun b => a ((h o (by simp)).2 b))]
theorem ptL_of : ∀ (vs : List Int) (n : Nat) (z : Int), z ∈ ptL vs n → z ∈ vs ∨ -z ∈ vs
 | [], _, z, h => by cases h
 | v :: vs, n, z, h => by
   rw [ptL, List.mem_cons] at h
   rcases h with rfl | h
   · split
     · exact .inr (by rw [Int.neg_neg]; simp)
     · exact .inl (by simp)
   · rcases ptL_of vs (n / 2) z h with h | h
     · exact .inl (List.mem_cons_of_mem _ h)
     · exact .inr (List.mem_cons_of_mem _ h)
theorem ptL_all : ∀ (vs : List Int) (n : Nat) (v : Int), v ∈ vs → v ∈ ptL vs n ∨ -v ∈ ptL vs n
 | [], _, v, h => by cases h
 | w :: vs, n, v, h => by
   rw [ptL]
   rcases List.mem_cons.1 h with rfl | h
   · split
     · exact .inr (by simp)
     · exact .inl (by simp)
   · rcases ptL_all vs (n / 2) v h with h | h
     · exact .inl (List.mem_cons_of_mem _ h)
     · exact .inr (List.mem_cons_of_mem _ h)
theorem ptL_not : ∀ (vs : List Int) (n : Nat) (z : Int), vs.Nodup → (∀ v ∈ vs, 0 < v) → z ∈ ptL vs n → -z ∈ ptL vs n → False
 | [], _, z, _, _, h, _ => by cases h
 | w :: vs, n, z, hnd, hp, h, k => by
   rw [List.nodup_cons] at hnd
   rw [ptL, List.mem_cons] at h k
   have hw := hp w (by simp)
   have hp' : ∀ v ∈ vs, 0 < v := fun v hv => hp v (List.mem_cons_of_mem _ hv)
   have key : ∀ z, z = (if n % 2 = 0 then -w else w) → -z ∈ ptL vs (n / 2) → False := fun z hz hk => by
    rcases ptL_of vs _ _ hk with h1 | h1
    · have := hp' _ h1
      split at hz
      · rw [hz, Int.neg_neg] at h1; exact hnd.1 h1
      · omega
    · rw [Int.neg_neg] at h1
      have := hp' _ h1
      split at hz
      · omega
      · rw [hz] at h1; exact hnd.1 h1
   rcases h with h | h
   · rcases k with k | k
     · split at h <;> split at k <;> omega
     · exact key z h k
   · rcases k with k | k
     · exact key (-z) k (by rwa [Int.neg_neg])
     · exact ptL_not vs (n / 2) z hnd.2 hp' h k
def valL (X : List (Int × List Int)) (G : Int → Nat → Bool) (u : List Int) : List Int := X.map fun x => if G x.1 (idxA x.2 u) = true then x.1 else -x.1
def asgL (d : DqV) (G : Int → Nat → Bool) (m : Nat) : List Int := ptL d.univ m ++ valL d.exist G (ptL d.univ m)
def TrueD (d : DqV) : Prop := ∃ G : Int → Nat → Bool, ∀ m, m < 2 ^ d.univ.length → ∀ c ∈ d.clauses, ∃ y ∈ c, y ∈ asgL d G m
theorem mem_valL {X : List (Int × List Int)} {G : Int → Nat → Bool} {u : List Int} {z : Int} : z ∈ valL X G u ↔ ∃ x ∈ X, z = if G x.1 (idxA x.2 u) = true then x.1 else -x.1 := by
 unfold valL
 rw [List.mem_map]
 exact ⟨fun ⟨x, h, e⟩ => ⟨x, h, e.symm⟩, fun ⟨x, h, e⟩ => ⟨x, h, e.symm⟩⟩
structure Good (d : DqV) : Prop where
 upos : ∀ v ∈ d.univ, 0 < v ∧ v ≤ 65536
 und : d.univ.Nodup
 xpos : ∀ x ∈ d.exist, 0 < x.1 ∧ x.1 ≤ 65536
 xnd : (d.exist.map Prod.fst).Nodup
 apart : ∀ x ∈ d.exist, x.1 ∉ d.univ
theorem good_of {d : DqV} (hm : mayD d = true) : Good d := by
 obtain ⟨h1, h2, h3, -, -, -⟩ := (mayD_iff d).1 hm
 obtain ⟨u1, u2⟩ := (risesB_iff _).1 h2
 obtain ⟨v1, v2⟩ := (risesB_iff _).1 h3
 exact ⟨fun v hv => by have := u1 v hv; omega, rises_nodup u2, fun x hx => by have := v1 x.1 (List.mem_map.2 ⟨x, hx, rfl⟩); omega, rises_nodup v2, fun x hx => (h1 x hx).1.1⟩
section
variable {d : DqV} (g : Good d) (G : Int → Nat → Bool) (m : Nat)
include g
theorem asgL_not (z : Int) (h : z ∈ asgL d G m) (k : -z ∈ asgL d G m) : False := by
 unfold asgL at h k
 have inj : ∀ x ∈ d.exist, ∀ y ∈ d.exist, x.1 = y.1 → x = y := fun x hx y hy e => by
  have hnd := g.xnd
  clear h k
  revert hx hy hnd
  generalize d.exist = X
  intro hx hy hnd
  induction X with
  | nil => cases hx
  | cons a X ih =>
    rw [List.map_cons, List.nodup_cons] at hnd
    rcases List.mem_cons.1 hx with rfl | hx2
    · rcases List.mem_cons.1 hy with rfl | hy2
      · rfl
      · exact (hnd.1 (List.mem_map.2 ⟨y, hy2, e.symm⟩)).elim
    · rcases List.mem_cons.1 hy with rfl | hy2
      · exact (hnd.1 (List.mem_map.2 ⟨x, hx2, e⟩)).elim
      · exact ih hx2 hy2 hnd.2
 rcases List.mem_append.1 h with h | h
 · rcases List.mem_append.1 k with k | k
   · exact ptL_not _ _ _ g.und (fun v hv => (g.upos v hv).1) h k
   · obtain ⟨x, hx, e⟩ := mem_valL.1 k
     have h1 := g.xpos x hx
     have h2 := g.apart x hx
     rcases ptL_of _ _ _ h with h3 | h3
     · have := g.upos z h3
       split at e
       · omega
       · exact h2 (by rwa [show x.1 = z by omega])
     · have := g.upos _ h3
       split at e
       · exact h2 (by rwa [← e])
       · omega
 · obtain ⟨x, hx, e⟩ := mem_valL.1 h
   have h1 := g.xpos x hx
   have h2 := g.apart x hx
   rcases List.mem_append.1 k with k | k
   · rcases ptL_of _ _ _ k with h3 | h3
     · have := g.upos _ h3
       split at e
       · omega
       · exact h2 (by rwa [show x.1 = -z by omega])
     · have := g.upos _ h3
       rw [Int.neg_neg] at h3
       split at e
       · exact h2 (by rwa [← e])
       · omega
   · obtain ⟨y, hy, e2⟩ := mem_valL.1 k
     have h3 := g.xpos y hy
     have hxy : x.1 = y.1 := by split at e <;> split at e2 <;> omega
     have := inj x hx y hy hxy
     subst this
     rw [e] at e2
     split at e2 <;> omega
theorem asgL_all (z : Int) (hz : varOf z ∈ d.univ ++ d.vars) : z ∈ asgL d G m ∨ -z ∈ asgL d G m := by
 have key : ∀ v, v ∈ d.univ ++ d.vars → v ∈ asgL d G m ∨ -v ∈ asgL d G m := fun v hv => by
  unfold asgL
  rcases List.mem_append.1 hv with h | h
  · rcases ptL_all d.univ m v h with h | h
    · exact .inl (List.mem_append_left _ h)
    · exact .inr (List.mem_append_left _ h)
  · obtain ⟨x, hx, rfl⟩ := List.mem_map.1 h
    by_cases hG : G x.1 (idxA x.2 (ptL d.univ m)) = true
    · exact .inl (List.mem_append_right _ (mem_valL.2 ⟨x, hx, by rw [if_pos hG]⟩))
    · exact .inr (List.mem_append_right _ (mem_valL.2 ⟨x, hx, by rw [if_neg hG]⟩))
 have hv0 : varOf z ≠ 0 := by
  rcases List.mem_append.1 hz with h | h
  · have := g.upos _ h; omega
  · obtain ⟨x, hx, e⟩ := List.mem_map.1 h
    have := g.xpos x hx; omega
 have he := (varOf_eq hv0).1
 rcases key _ hz with h | h
 · rcases Int.natAbs_eq z with e | e
   · exact .inl (by rw [← he, ← e] at h; exact h)
   · exact .inr (by rw [e, Int.neg_neg, he]; exact h)
 · rcases Int.natAbs_eq z with e | e
   · exact .inr (by rw [← he, ← e] at h; exact h)
   · exact .inl (by rw [e, he]; exact h)
end
end Go.Proofs.YtjecjaihficcdaaGreat
namespace Go.Proofs.YtjecjaihficcdaaGreat
open Go.RowKit
theorem subst_in {x t : Int} {l r : List Int} (h : normC x t l = some r) : ∀ z ∈ l, subst1 x t z ∈ r := fun z hz => by
 unfold normC at h
 split at h
 · rename_i h0
   injection h with h
   unfold NormV at h0 h
   split at h0
   · cases h0
   · rename_i hv
     rw [if_neg hv] at h
     split at h0
     · rename_i hm
       rw [if_pos hm] at h
       simp only at h
       rw [← h, mem_setL]
       exact .inr (List.mem_map.2 ⟨z, hz, rfl⟩)
     · cases h0
 · cases h
theorem not_may {L : List Int} (hs : L.Pairwise blt) (hv : ∀ x ∈ L, varOf x ≠ 0) (h : mayB L = false) : ∃ y ∈ L, -y ∈ L := by
 by_cases hh : ∃ y ∈ L, -y ∈ L
 · exact hh
 · exfalso
   have : mayB L = true := by
    refine (mayB_iff L).2 ⟨?_, fun x hx => by have := hv x hx; have := varOf_range x; omega⟩
    refine List.Pairwise.imp_of_mem (fun {a b} ha hb hab => ?_) hs
    have e1 := varOf_eq (hv a ha)
    have e2 := varOf_eq (hv b hb)
    unfold blt at hab
    rcases hab with h1 | ⟨h1, h2⟩
    · omega
    · exfalso
      refine hh ⟨b, hb, ?_⟩
      have : a = -b := by omega
      rwa [← this]
   rw [h] at this
   cases this
theorem normC_none {x t : Int} {l : List Int} (h : normC x t l = none) (hl : l.length ≤ 200000) (hv : ∀ z ∈ l, varOf (subst1 x t z) ≠ 0) : ∃ z1 ∈ l, ∃ z2 ∈ l, subst1 x t z2 = -subst1 x t z1 := by
 have hv2 : ∀ y ∈ setL [] (l.map (subst1 x t)), varOf y ≠ 0 := fun y hy => by
  rw [mem_setL] at hy
  rcases hy with h | h
  · cases h
  · obtain ⟨z, hz, rfl⟩ := List.mem_map.1 h
    exact hv z hz
 have hm : mayB (setL [] (l.map (subst1 x t))) = false := by
  cases hh : mayB (setL [] (l.map (subst1 x t)))
  · rfl
  · exfalso
    have hN : NormV (l.map (subst1 x t)) = (setL [] (l.map (subst1 x t)), 0) := by
     unfold NormV
     rw [if_neg (by
      rintro (h1 | h1)
      · rw [List.length_map] at h1; omega
      · rw [List.any_eq_true] at h1
        obtain ⟨y, hy, e⟩ := h1
        obtain ⟨z, hz, rfl⟩ := List.mem_map.1 hy
        exact hv z hz (by simpa using e)), if_pos hh]
    unfold normC at h
    rw [hN] at h
    simp at h
 obtain ⟨y, hy, hy2⟩ := not_may (setL_sorted _ List.Pairwise.nil) hv2 hm
 rw [mem_setL] at hy hy2
 have m1 := hy.resolve_left (by simp)
 have m2 := hy2.resolve_left (by simp)
 obtain ⟨z1, h1, rfl⟩ := List.mem_map.1 m1
 obtain ⟨z2, h2, e⟩ := List.mem_map.1 m2
 exact ⟨z1, h1, z2, h2, e⟩
theorem two_all {l : List Int} {p q : Int} (hl : l.length = 2) (hp : p ∈ l) (hq : q ∈ l) (hne : p ≠ q) : ∀ y ∈ l, y = p ∨ y = q := by
 obtain ⟨a, b, rfl⟩ := two_of hl
 simp only [List.mem_cons, List.not_mem_nil, or_false] at hp hq ⊢
 intro y hy
 omega
theorem row_mem {d : DqV} {i p q : Int} (h : hasR d i p q = true) : d.row i.toNat ∈ d.clauses ∧ (d.row i.toNat).length = 2 ∧ p ∈ d.row i.toNat ∧ q ∈ d.row i.toNat := by
 unfold hasR at h
 simp only [Bool.and_eq_true, decide_eq_true_eq] at h
 refine ⟨?_, h.1.1.2, h.1.2, h.2⟩
 unfold DqV.row
 rw [getD_of _ _ (by omega)]
 exact List.getElem_mem _
theorem clause_len {d : DqV} (hm : mayD d = true) {l : List Int} (h : l ∈ d.clauses) : l.length ≤ 200000 := by
 obtain ⟨-, -, -, -, h5, -⟩ := (mayD_iff d).1 hm
 have h1 := mayCnf_total h5
 have : l.length ≤ total d.clauses := by
  unfold total lens
  rw [List.take_length]
  clear h1 h5
  generalize d.clauses = f at h
  induction f with
  | nil => cases h
  | cons c f ih =>
    rw [List.map_cons, List.sum_cons]
    rcases List.mem_cons.1 h with rfl | h
    · omega
    · have := ih h; omega
 omega
section
variable {d : DqV} {c : ChV} (hm : mayD d = true) (hc : okCh d c = true)
include hm hc
theorem sub_facts : 0 < c.lit ∧ varOf c.tz ≠ 0 ∧ varOf c.tz ≠ c.lit ∧ c.tz ≠ c.lit ∧ c.tz ≠ -c.lit ∧ varOf c.lit = c.lit ∧ hasR d c.pos (-c.lit) c.tz = true ∧ hasR d c.other c.lit (-c.tz) = true ∧ allowP d c.lit c.tz = true := by
 have hcc := hc
 unfold okCh at hcc
 simp only [Bool.and_eq_true, decide_eq_true_eq] at hcc
 obtain ⟨-, hx, ha, hp, hq⟩ := hcc
 obtain ⟨q1, q2⟩ := hasR_lit hm hp
 have hne : varOf c.tz ≠ c.lit := by
  unfold allowP at ha
  split at ha
  · cases ha
  · simp only [Bool.and_eq_true, Bool.not_eq_true', decide_eq_false_iff_not] at ha
    exact ha.1
 have hvl : varOf c.lit = c.lit := by
  rw [varOf_neg] at q1
  have := (varOf_eq q1).1
  omega
 have e2 := (varOf_eq q2).1
 exact ⟨hx, q2, hne, fun e => hne (by rw [e, hvl]), fun e => hne (by rw [e, varOf_neg, hvl]), hvl, hp, hq, ha⟩
theorem asg_made {G : Int → Nat → Bool} {m : Nat} {z : Int} : z ∈ asgL (madeV d c) G m ↔ z ∈ asgL d G m ∧ z ≠ c.lit ∧ z ≠ -c.lit := by
 have g := good_of hm
 obtain ⟨hx, -⟩ := sub_facts hm hc
 have hxe : ∃ on, (c.lit, on) ∈ d.exist := by
  obtain ⟨-, -, -, -, -, -, -, -, ha⟩ := sub_facts hm hc
  unfold allowP at ha
  cases hd : d.deps c.lit with
  | none => rw [hd] at ha; cases ha
  | some on => exact ⟨on, deps_mem hd⟩
 obtain ⟨on, hon⟩ := hxe
 have hxu := g.apart _ hon
 unfold asgL
 rw [List.mem_append, List.mem_append, mem_valL, mem_valL]
 have hu : (madeV d c).univ = d.univ := rfl
 rw [hu]
 constructor
 · rintro (h | ⟨y, hy, e⟩)
   · refine ⟨.inl h, fun e => ?_, fun e => ?_⟩
     · rcases ptL_of _ _ _ h with h1 | h1
       · exact hxu (e ▸ h1)
       · have := (g.upos _ h1).1; omega
     · rcases ptL_of _ _ _ h with h1 | h1
       · have := (g.upos _ h1).1; omega
       · rw [e, Int.neg_neg] at h1; exact hxu h1
   · have hy2 : y ∈ d.exist.filter (fun x => !decide (x.1 = c.lit)) := hy
     rw [List.mem_filter] at hy2
     have hne : y.1 ≠ c.lit := by simpa using hy2.2
     have hp := (g.xpos y hy2.1).1
     refine ⟨.inr ⟨y, hy2.1, e⟩, fun e2 => ?_, fun e2 => ?_⟩
     · split at e <;> omega
     · split at e <;> omega
 · rintro ⟨h | ⟨y, hy, e⟩, h1, h2⟩
   · exact .inl h
   · refine .inr ⟨y, ?_, e⟩
     show y ∈ d.exist.filter (fun x => !decide (x.1 = c.lit))
     rw [List.mem_filter]
     refine ⟨hy, ?_⟩
     have : y.1 ≠ c.lit := fun e3 => by
      rw [e3] at e
      split at e
      · exact h1 e
      · exact h2 e
     simpa using this
theorem true_made (h : TrueD d) : TrueD (madeV d c) := by
 have g := good_of hm
 obtain ⟨hx, ht0, hne, n1, n2, hvl, hp, hq, -⟩ := sub_facts hm hc
 obtain ⟨G, hG⟩ := h
 refine ⟨G, fun m hmm r hr => ?_⟩
 obtain ⟨l, hl, hlr⟩ := List.mem_filterMap.1 hr
 have hmm2 : m < 2 ^ d.univ.length := hmm
 have t1 : c.lit ∈ asgL d G m → c.tz ∈ asgL d G m := fun hz => by
  obtain ⟨r1, r2, r3, r4⟩ := row_mem hp
  obtain ⟨y, hy, hya⟩ := hG m hmm2 _ r1
  rcases two_all r2 r3 r4 (fun e => n2 e.symm) y hy with rfl | rfl
  · exact (asgL_not g G m _ hz hya).elim
  · exact hya
 have t2 : -c.lit ∈ asgL d G m → -c.tz ∈ asgL d G m := fun hz => by
  obtain ⟨r1, r2, r3, r4⟩ := row_mem hq
  obtain ⟨y, hy, hya⟩ := hG m hmm2 _ r1
  rcases two_all r2 r3 r4 (fun e => n2 (by omega)) y hy with rfl | rfl
  · exact (asgL_not g G m _ hya hz).elim
  · exact hya
 obtain ⟨z, hz, hza⟩ := hG m hmm2 l hl
 refine ⟨subst1 c.lit c.tz z, subst_in hlr z hz, (asg_made hm hc).2 ?_⟩
 unfold subst1
 split
 · rename_i e
   exact ⟨t1 (e ▸ hza), n1, n2⟩
 · split
   · rename_i e
     exact ⟨t2 (e ▸ hza), by omega, by omega⟩
   · rename_i e1 e2
     exact ⟨hza, e1, e2⟩
theorem made_true (h : TrueD (madeV d c)) : TrueD d := by
 have g := good_of hm
 obtain ⟨hmm, -⟩ := made_may hm hc
 have ga := good_of hmm
 obtain ⟨hx, ht0, hne, n1, n2, hvl, hp, hq, ha⟩ := sub_facts hm hc
 obtain ⟨d1, d2, d3, d4, d5, d6⟩ := (mayD_iff d).1 hm
 obtain ⟨G, hG⟩ := h
 have ha2 := ha
 unfold allowP at ha2
 cases hd : d.deps c.lit with
 | none => rw [hd] at ha2; cases ha2
 | some on =>
   rw [hd] at ha2
   simp only [Bool.and_eq_true] at ha2
   have hon := deps_mem hd
   have honu : ∀ o ∈ on, o ∈ d.univ := (d1 _ hon).2
   have dep : ∀ m1 m2, idxA on (ptL d.univ m1) = idxA on (ptL d.univ m2) → c.tz ∈ asgL (madeV d c) G m1 → c.tz ∈ asgL (madeV d c) G m2 := fun m1 m2 he h1 => by
    have hs := idxA_same he
    have hs2 : ∀ o ∈ on, (-o ∈ ptL d.univ m1 ↔ -o ∈ ptL d.univ m2) := fun o ho => by
     have up := fun v hv => (g.upos v hv).1
     constructor
     · intro h
       rcases ptL_all d.univ m2 o (honu o ho) with h2 | h2
       · exact (ptL_not _ _ _ g.und up ((hs o ho).2 h2) h).elim
       · exact h2
     · intro h
       rcases ptL_all d.univ m1 o (honu o ho) with h2 | h2
       · exact (ptL_not _ _ _ g.und up ((hs o ho).1 h2) h).elim
       · exact h2
    have hvt := (varOf_eq ht0).1
    unfold asgL at h1 ⊢
    rw [List.mem_append, mem_valL] at h1 ⊢
    have hu : (madeV d c).univ = d.univ := rfl
    rw [hu] at h1 ⊢
    rcases h1 with h1 | ⟨y, hy, e⟩
    · have hin : varOf c.tz ∈ on := by
       have hvu : varOf c.tz ∈ d.univ := by
        rcases ptL_of _ _ _ h1 with h3 | h3
        · have := (g.upos _ h3).1
          rwa [← hvt, Int.natAbs_of_nonneg (by omega)]
        · have h4 := (g.upos _ h3).1
          rw [← hvt, show ((c.tz.natAbs : Int)) = -c.tz by omega]
          exact h3
       have h2 := ha2.2
       cases hdt : d.deps (varOf c.tz) with
       | none => rw [hdt] at h2; simpa using h2
       | some mine => exact (g.apart _ (deps_mem hdt) hvu).elim
      left
      rcases Int.natAbs_eq c.tz with e | e
      · rw [e, hvt] at h1 ⊢
        exact (hs _ hin).1 h1
      · rw [e, hvt] at h1 ⊢
        exact (hs2 _ hin).1 h1
    · right
      refine ⟨y, hy, ?_⟩
      have hy2 : y ∈ d.exist.filter (fun x => !decide (x.1 = c.lit)) := hy
      rw [List.mem_filter] at hy2
      have hyp := g.xpos y hy2.1
      have hyv : varOf c.tz = y.1 := by
       rw [← hvt]
       split at e <;> omega
      have h2 := ha2.2
      have hsub : ∀ o ∈ y.2, o ∈ on := by
       have hdy : d.deps (varOf c.tz) = some y.2 := by
        unfold DqV.deps
        rw [hyv]
        have hnd := g.xnd
        have hm1 := hy2.1
        clear hy hy2 e hG hon h2 ha2 hd ha d1 d6
        generalize d.exist = X at hnd hm1
        induction X with
        | nil => cases hm1
        | cons a X ih =>
          rw [List.map_cons, List.nodup_cons] at hnd
          rw [List.find?_cons]
          rcases List.mem_cons.1 hm1 with rfl | hm2
          · simp
          · have hne : a.1 ≠ y.1 := fun e => hnd.1 (List.mem_map.2 ⟨y, hm2, e.symm⟩)
            simp only [hne, decide_false]
            exact ih hnd.2 hm2
       rw [hdy] at h2
       exact (subB_iff.1 h2).2.2
      have hidx : idxA y.2 (ptL d.univ m1) = idxA y.2 (ptL d.univ m2) := idxA_of fun o ho => hs o (hsub o ho)
      rw [← hidx]
      exact e
   refine ⟨fun v j => if v = c.lit then @decide (∃ m, idxA on (ptL d.univ m) = j ∧ c.tz ∈ asgL (madeV d c) G m) (Classical.propDecidable _) else G v j, fun m hmu l hl => ?_⟩
   have key : ∀ z, z ∈ asgL (madeV d c) G m → z ∈ asgL d (fun v j => if v = c.lit then @decide (∃ m, idxA on (ptL d.univ m) = j ∧ c.tz ∈ asgL (madeV d c) G m) (Classical.propDecidable _) else G v j) m := fun z hz => by
    unfold asgL at hz ⊢
    rw [List.mem_append, mem_valL] at hz ⊢
    rcases hz with h | ⟨y, hy, e⟩
    · exact .inl h
    · have hy2 : y ∈ d.exist.filter (fun x => !decide (x.1 = c.lit)) := hy
      rw [List.mem_filter] at hy2
      have hne : y.1 ≠ c.lit := by simpa using hy2.2
      exact .inr ⟨y, hy2.1, by rw [if_neg hne]; exact e⟩
   have kx : c.tz ∈ asgL (madeV d c) G m → c.lit ∈ asgL d (fun v j => if v = c.lit then @decide (∃ m, idxA on (ptL d.univ m) = j ∧ c.tz ∈ asgL (madeV d c) G m) (Classical.propDecidable _) else G v j) m := fun h1 => by
    unfold asgL
    rw [List.mem_append, mem_valL]
    refine .inr ⟨_, hon, ?_⟩
    simp only [if_true]
    rw [if_pos (@decide_eq_true _ (Classical.propDecidable _) ⟨m, rfl, h1⟩)]
   have kn : -c.tz ∈ asgL (madeV d c) G m → -c.lit ∈ asgL d (fun v j => if v = c.lit then @decide (∃ m, idxA on (ptL d.univ m) = j ∧ c.tz ∈ asgL (madeV d c) G m) (Classical.propDecidable _) else G v j) m := fun h1 => by
    unfold asgL
    rw [List.mem_append, mem_valL]
    refine .inr ⟨_, hon, ?_⟩
    simp only [if_true]
    rw [if_neg]
    intro h2
    obtain ⟨m', he, h3⟩ := @of_decide_eq_true _ (Classical.propDecidable _) h2
    exact asgL_not ga G m _ (dep m' m he h3) h1
   have kz : ∀ z, subst1 c.lit c.tz z ∈ asgL (madeV d c) G m → z ∈ asgL d (fun v j => if v = c.lit then @decide (∃ m, idxA on (ptL d.univ m) = j ∧ c.tz ∈ asgL (madeV d c) G m) (Classical.propDecidable _) else G v j) m := fun z hz => by
    unfold subst1 at hz
    split at hz
    · rename_i e; rw [e]; exact kx hz
    · split at hz
      · rename_i e; rw [e]; exact kn hz
      · exact key z hz
   cases hn : normC c.lit c.tz l with
   | some r =>
     have hr : r ∈ (madeV d c).clauses := List.mem_filterMap.2 ⟨l, hl, hn⟩
     obtain ⟨y, hy, hya⟩ := hG m hmu r hr
     obtain ⟨z, hz, rfl⟩ := (normC_some hn).2.2 y hy
     exact ⟨z, hz, kz z hya⟩
   | none =>
     have hvs : ∀ z ∈ l, varOf (subst1 c.lit c.tz z) ∈ (madeV d c).univ ++ (madeV d c).vars := fun z hz => subst_var hm hx ha z (d6 l hl z hz)
     have hv0 : ∀ z ∈ l, varOf (subst1 c.lit c.tz z) ≠ 0 := fun z hz => by
      rcases List.mem_append.1 (hvs z hz) with h | h
      · have := (ga.upos _ h).1; omega
      · obtain ⟨y, hy, e⟩ := List.mem_map.1 h
        have := (ga.xpos y hy).1; omega
     obtain ⟨z1, hz1, z2, hz2, e⟩ := normC_none hn (clause_len hm hl) hv0
     rcases asgL_all ga G m _ (hvs z1 hz1) with h | h
     · exact ⟨z1, hz1, kz z1 h⟩
     · exact ⟨z2, hz2, kz z2 (e ▸ h)⟩
theorem true_iff_made : TrueD d ↔ TrueD (madeV d c) := ⟨true_made hm hc, made_true hm hc⟩
end
end Go.Proofs.YtjecjaihficcdaaGreat
namespace Go.Proofs.YtjecjaihficcdaaGreat
open Go.RowKit
def bitsM (X : List (Int × List Int)) : Nat := (X.map fun x => 2 ^ x.2.length).sum
def tabs : List (Int × List Int) → List Bool → List (Int × List Int × List Bool)
 | [], _ => []
 | x :: X, bs => (x.1, x.2, bs.take (2 ^ x.2.length)) :: tabs X (bs.drop (2 ^ x.2.length))
def seqB (B n : Nat) : List Bool := (List.range B).map fun j => decide (n / 2 ^ (B - 1 - j) % 2 = 1)
def litT (u : List Int) (t : Int × List Int × List Bool) : Int := if t.2.2.getD (idxA t.2.1 u) false = true then t.1 else -t.1
def winP (d : DqV) (T : List (Int × List Int × List Bool)) : Prop := ∀ m, m < 2 ^ d.univ.length → ∀ c ∈ d.clauses, ∃ y ∈ c, y ∈ ptL d.univ m ++ T.map (litT (ptL d.univ m))
theorem seqB_len (B n : Nat) : (seqB B n).length = B := by simp [seqB]
theorem seqB_succ (B n : Nat) : seqB (B + 1) n = decide (n / 2 ^ B % 2 = 1) :: seqB B n := by
 unfold seqB
 rw [List.range_succ_eq_map, List.map_cons, List.map_map]
 congr 1
 refine List.map_congr_left fun j hj => ?_
 rw [List.mem_range] at hj
 show decide (n / 2 ^ (B + 1 - 1 - (j + 1)) % 2 = 1) = _
 rw [show B + 1 - 1 - (j + 1) = B - 1 - j by omega]
theorem seqB_low (B n k : Nat) : seqB B (n + 2 ^ B * k) = seqB B n := by
 unfold seqB
 refine List.map_congr_left fun j hj => ?_
 rw [List.mem_range] at hj
 have hp : 0 < 2 ^ (B - 1 - j) := Nat.two_pow_pos _
 have e : 2 ^ B * k = 2 ^ (B - 1 - j) * (2 * (2 ^ j * k)) := by
  have : 2 ^ B = 2 ^ (B - 1 - j) * (2 * 2 ^ j) := by
   rw [← Nat.pow_succ', ← Nat.pow_add]
   congr 1
   omega
  rw [this, Nat.mul_assoc, Nat.mul_assoc]
 rw [e, Nat.add_mul_div_left _ _ hp, decide_eq_decide]
 omega
theorem seqB_all : ∀ (bs : List Bool), ∃ n, n < 2 ^ bs.length ∧ seqB bs.length n = bs
 | [] => ⟨0, by simp, rfl⟩
 | b :: bs => by
   obtain ⟨n, h1, h2⟩ := seqB_all bs
   have hp : 0 < 2 ^ bs.length := Nat.two_pow_pos _
   cases b with
   | false =>
     refine ⟨n, by rw [List.length_cons, Nat.pow_succ]; omega, ?_⟩
     rw [List.length_cons, seqB_succ, h2, Nat.div_eq_of_lt h1]
     rfl
   | true =>
     refine ⟨n + 2 ^ bs.length * 1, by rw [List.length_cons, Nat.pow_succ]; omega, ?_⟩
     rw [List.length_cons, seqB_succ, seqB_low, h2, Nat.add_mul_div_left _ _ hp, Nat.div_eq_of_lt h1]
     rfl
theorem valL_congr {X : List (Int × List Int)} {G H : Int → Nat → Bool} {u : List Int} (h : ∀ x ∈ X, ∀ j, G x.1 j = H x.1 j) : valL X G u = valL X H u := by
 unfold valL
 exact List.map_congr_left fun x hx => by rw [h x hx]
theorem tabs_G : ∀ (X : List (Int × List Int)) (bs : List Bool), (X.map Prod.fst).Nodup → ∃ G : Int → Nat → Bool, ∀ u, (tabs X bs).map (litT u) = valL X G u
 | [], _, _ => ⟨fun _ _ => false, fun _ => rfl⟩
 | x :: X, bs, h => by
   rw [List.map_cons, List.nodup_cons] at h
   obtain ⟨G, hG⟩ := tabs_G X (bs.drop (2 ^ x.2.length)) h.2
   refine ⟨fun v j => if v = x.1 then (bs.take (2 ^ x.2.length)).getD j false else G v j, fun u => ?_⟩
   have h1 : valL X G u = valL X (fun v j => if v = x.1 then (bs.take (2 ^ x.2.length)).getD j false else G v j) u := valL_congr fun y hy j => by
    rw [if_neg]
    intro e
    exact h.1 (List.mem_map.2 ⟨y, hy, e⟩)
   rw [tabs, List.map_cons, hG, h1]
   show _ = (x :: X).map _
   rw [List.map_cons]
   congr 1
   simp [litT]
theorem G_tabs (G : Int → Nat → Bool) : ∀ (X : List (Int × List Int)), ∃ bs : List Bool, bs.length = bitsM X ∧ ∀ u, (tabs X bs).map (litT u) = valL X G u
 | [] => ⟨[], rfl, fun _ => rfl⟩
 | x :: X => by
   obtain ⟨bs, h1, h2⟩ := G_tabs G X
   have hl : ((List.range (2 ^ x.2.length)).map (G x.1)).length = 2 ^ x.2.length := by simp
   refine ⟨(List.range (2 ^ x.2.length)).map (G x.1) ++ bs, by rw [List.length_append, hl, h1]; simp [bitsM], fun u => ?_⟩
   rw [tabs, List.drop_append_of_le_length (by omega), List.drop_of_length_le (by omega), List.nil_append, List.take_append_of_le_length (by omega), List.take_of_length_le (by omega), List.map_cons, h2]
   show _ = (x :: X).map _
   rw [List.map_cons]
   congr 1
   have := idxA_lt x.2 u
   simp [litT, this]
def someN (d : DqV) : Prop := ∃ n, n < 2 ^ bitsM d.exist ∧ winP d (tabs d.exist (seqB (bitsM d.exist) n))
theorem someN_iff {d : DqV} (hnd : (d.exist.map Prod.fst).Nodup) : someN d ↔ TrueD d := by
 constructor
 · rintro ⟨n, -, h⟩
   obtain ⟨G, hG⟩ := tabs_G d.exist (seqB (bitsM d.exist) n) hnd
   refine ⟨G, fun m hm c hc => ?_⟩
   have := h m hm c hc
   rwa [hG] at this
 · rintro ⟨G, h⟩
   obtain ⟨bs, h1, h2⟩ := G_tabs G d.exist
   obtain ⟨n, n1, n2⟩ := seqB_all bs
   rw [h1] at n1 n2
   refine ⟨n, n1, fun m hm c hc => ?_⟩
   rw [n2, h2]
   exact h m hm c hc
def bigT (d : DqV) : Bool := (d.exist.any fun x => decide (4 < x.2.length)) || decide (4 < d.univ.length) || decide (12 < bitsM d.exist)
theorem bitsM_filter (X : List (Int × List Int)) (p : Int × List Int → Bool) : bitsM (X.filter p) ≤ bitsM X := by
 unfold bitsM
 induction X with
 | nil => simp
 | cons a X ih =>
   rw [List.filter_cons]
   split
   · simp only [List.map_cons, List.sum_cons]; omega
   · rw [List.map_cons, List.sum_cons]; exact Nat.le_trans ih (Nat.le_add_left _ _)
theorem big_made {d : DqV} {c : ChV} (h : bigT d = false) : bigT (madeV d c) = false := by
 unfold bigT at h ⊢
 simp only [Bool.or_eq_false_iff, decide_eq_false_iff_not, List.any_eq_false, decide_eq_true_eq] at h ⊢
 refine ⟨⟨fun x hx => h.1.1 x (List.mem_filter.1 hx).1, h.1.2⟩, ?_⟩
 have := bitsM_filter d.exist (fun x => !decide (x.1 = c.lit))
 have e : (madeV d c).exist = d.exist.filter (fun x => !decide (x.1 = c.lit)) := rfl
 rw [e]
 omega
open Classical in
noncomputable def truthV (d : DqV) : Int := if bigT d = true then 0 else if someN d then 1 else 2
open Classical in
theorem truthV_small {d : DqV} (h : bigT d = false) : truthV d = if someN d then 1 else 2 := by
 unfold truthV
 rw [if_neg (by rw [h]; simp)]
open Classical in
theorem truth_made {d : DqV} {c : ChV} (hm : mayD d = true) (hc : okCh d c = true) (h : bigT d = false) : truthV d = truthV (madeV d c) := by
 have h1 := someN_iff (good_of hm).xnd
 have h2 := someN_iff (good_of (made_may hm hc).1).xnd
 have h3 : someN d ↔ someN (madeV d c) := by rw [h1, h2]; exact true_iff_made hm hc
 rw [truthV_small h, truthV_small (big_made h)]
 by_cases hs : someN d
 · rw [if_pos hs, if_pos (h3.1 hs)]
 · rw [if_neg hs, if_neg (fun k => hs (h3.2 k))]
end Go.Proofs.YtjecjaihficcdaaGreat
namespace Go.Proofs.YtjecjaihficcdaaGreat.PEquivNext
open Go.RowKit Go.Proofs.YtjecjaihficcdaaGreatW.PrintWords Go.Proofs.YtjecjaihficcdaaGreatW.PrintMore
theorem u64n (i : Nat) (h : i ≤ 1000000000) : IntKind.u64.wrap (i : Int) = i := IntWalk.u64_in _ ⟨by omega, by omega⟩
theorem pow30 {i : Nat} (h : i ≤ 30) : 2 ^ i ≤ 1073741824 := Nat.pow_le_pow_right (n := 2) (by omega) h
theorem shl1 (i : Nat) (h : i ≤ 30) : shl .i64 1 (i : Int) = ((2 ^ i : Nat) : Int) := by
 unfold shl
 have e : min ((i : Int)).toNat IntKind.i64.bits = i := by
  have : IntKind.i64.bits = 64 := rfl
  rw [this]
  omega
 rw [e, Int.one_mul]
 have h2 := pow30 h
 have h3 : ((2 : Int) ^ i) = ((2 ^ i : Nat) : Int) := by simp
 rw [h3]
 generalize 2 ^ i = q at h2 ⊢
 exact IntWalk.i64_in _ (by omega)
theorem shl1u (i : Nat) (h : i ≤ 30) : shl .i64 1 (IntKind.u64.wrap (i : Int)) = ((2 ^ i : Nat) : Int) := by
 rw [u64n i (by omega), shl1 i h]
theorem bitN (n i : Nat) (hn : n ≤ 1000000000) (hi : i ≤ 30) : Go.bits .and .i64 (shr .i64 (n : Int) (IntKind.u64.wrap (i : Int))) 1 = ((n / 2 ^ i % 2 : Nat) : Int) := by
 rw [u64n i (by omega)]
 unfold shr
 have e : min ((i : Int)).toNat IntKind.i64.bits = i := by
  have : IntKind.i64.bits = 64 := rfl
  rw [this]
  omega
 rw [e]
 have h3 : ((n : Int) / 2 ^ i) = ((n / 2 ^ i : Nat) : Int) := by simp
 rw [h3]
 have hle : n / 2 ^ i ≤ n := Nat.div_le_self _ _
 generalize n / 2 ^ i = q at hle ⊢
 have := bits_mask .i64 62 (by decide) (fun m h0 h1 => IntWalk.i64_in _ (by omega)) 1 (by decide) (q : Int) (by omega) (by omega)
 simpa using this
theorem rdS (X : List (Int × List Int)) (i : Nat) (h : i < X.length) : rd_T61 (s61 X) (i : Int) = ⟨X[i].1, X[i].2⟩ := by simp [rd_T61, s61, h]
def s177 (T : List (Int × List Int × List Bool)) : List S177 := T.map fun t => ⟨t.1, t.2.1, t.2.2⟩
theorem s177_len (T : List (Int × List Int × List Bool)) : (s177 T).length = T.length := by simp [s177]
theorem rdT (T : List (Int × List Int × List Bool)) (i : Nat) (h : i < T.length) : rd_T177 (s177 T) (i : Int) = ⟨T[i].1, T[i].2.1, T[i].2.2⟩ := by simp [rd_T177, s177, h]
theorem bitsM_drop {X : List (Int × List Int)} {i : Nat} (h : i < X.length) : bitsM (X.drop i) = 2 ^ X[i].2.length + bitsM (X.drop (i + 1)) := by
 unfold bitsM
 rw [List.drop_eq_getElem_cons h, List.map_cons, List.sum_cons]
theorem bits_l0 (U : List Int) (F : List (List Int)) (X : List (Int × List Int)) (hx : ∀ x ∈ X, x.2.length ≤ 4) (hX : X.length ≤ 1000000) : ∀ m i s, i + m = X.length → s + bitsM (X.drop i) ≤ 16 → Evn (fun k => skolemref04_bits.l0 k (s : Int) (i : Int) U (s61 X) F) ((s + bitsM (X.drop i) : Nat) : Int) := by
 intro m
 induction m with
 | zero =>
   intro i s hi hs
   rw [List.drop_of_length_le (by omega)]
   exact Evn.succ (fun q => by rw [skolemref04_bits.l0]) (Evn.neg (by rw [s61_len]; omega) ((Evn.ret _).to (by simp [bitsM])))
 | succ m ih =>
   intro i s hi hs
   have hil : i < X.length := by omega
   have hd := bitsM_drop hil
   have hx4 := hx _ (List.getElem_mem hil)
   have hp := pow30 (i := X[i].2.length) (by omega)
   refine Evn.succ (fun q => by rw [skolemref04_bits.l0]) (Evn.pos (by rw [s61_len]; omega) (Evn.pos (by omega) (Evn.pos (by omega) ?_)))
   rw [rdS X i hil]
   have e1 : (mn (X[i].2.length : Int) 10).toNat = X[i].2.length := by
    unfold mn
    rw [if_neg (by omega)]
    omega
   simp only
   rw [e1, show ((2 : Int) ^ X[i].2.length) = ((2 ^ X[i].2.length : Nat) : Int) by simp]
   obtain ⟨q, hq⟩ : ∃ q, q = 2 ^ X[i].2.length := ⟨_, rfl⟩
   rw [← hq] at hp hd ⊢
   rw [wrap64_id (x := (q : Int)) (by omega) (by omega), wrap64_id (by omega) (by omega), wrap64_nat (i := i) (by omega)]
   exact (ih (i + 1) (s + q) (by omega) (by omega)).to (by rw [hd]; congr 1; omega)
theorem bits_f (U : List Int) (F : List (List Int)) (X : List (Int × List Int)) (hx : ∀ x ∈ X, x.2.length ≤ 4) (hX : X.length ≤ 1000000) (hb : bitsM X ≤ 16) : Evn (fun k => skolemref04_bits.f k U (s61 X) F) ((bitsM X : Nat) : Int) := by
 unfold skolemref04_bits.f
 have := bits_l0 U F X hx hX X.length 0 0 (by omega) (by simpa using hb)
 simpa using this
theorem Point_l0 (vs : List Int) (n : Nat) (hn : n ≤ 1000000000) (hv : ∀ v ∈ vs, 0 < v ∧ v ≤ 65536) (hl : vs.length ≤ 30) : ∀ m i acc, i + m = vs.length → acc.length ≤ i → Evn (fun k => skolemref04_Point.l0 k vs (n : Int) acc (i : Int)) (acc ++ ptL (vs.drop i) (n / 2 ^ i)) := by
 intro m
 induction m with
 | zero =>
   intro i acc hi ha
   rw [List.drop_of_length_le (by omega)]
   exact Evn.succ (fun q => by rw [skolemref04_Point.l0]) (Evn.neg (by omega) ((Evn.ret _).to (by simp [ptL])))
 | succ m ih =>
   intro i acc hi ha
   have hil : i < vs.length := by omega
   have hvi := hv _ (List.getElem_mem hil)
   have hdd : n / 2 ^ (i + 1) = n / 2 ^ i / 2 := by rw [Nat.pow_succ, Nat.div_div_eq_div_mul]
   refine Evn.succ (fun q => by rw [skolemref04_Point.l0]) (Evn.pos (by omega) (Evn.pos (by omega) (Evn.pos (by rw [u64n i (by omega)]; omega) ?_)))
   rw [bitN n i hn (by omega), rd_nat vs i hil, wrap64_nat (i := i) (by omega), wrap64_id (x := -vs[i]) (by omega) (by omega), List.drop_eq_getElem_cons hil, ptL]
   by_cases hb : n / 2 ^ i % 2 = 0
   · rw [if_pos hb]
     refine Evn.pos (by omega) (Evn.pos (by omega) ?_)
     exact (ih (i + 1) (acc ++ [-vs[i]]) (by omega) (by rw [List.length_append, List.length_singleton]; omega)).to (by rw [hdd, List.append_assoc]; rfl)
   · rw [if_neg hb]
     refine Evn.neg (by omega) (Evn.pos (by omega) ?_)
     exact (ih (i + 1) (acc ++ [vs[i]]) (by omega) (by rw [List.length_append, List.length_singleton]; omega)).to (by rw [hdd, List.append_assoc]; rfl)
theorem Point_f (vs : List Int) (n : Nat) (hn : n ≤ 1000000000) (hv : ∀ v ∈ vs, 0 < v ∧ v ≤ 65536) (hl : vs.length ≤ 30) : Evn (fun k => skolemref04_Point.f k vs (n : Int)) (ptL vs n) := by
 unfold skolemref04_Point.f
 have := Point_l0 vs n hn hv hl vs.length 0 [] (by omega) (by simp)
 simpa using this
theorem At_l0 (u : List Int) (hu : u.length ≤ 1000000000) (v : Int) (on : List Int) (bs : List Bool) (hl : on.length ≤ 30) (hb : bs.length ≤ 1000000000) : ∀ m i s, i + m = on.length → s + 2 ^ i * idxA (on.drop i) u < bs.length → Evn (fun k => skolemref04_At.l0 k u (s : Int) (i : Int) v on bs) (bs.getD (s + 2 ^ i * idxA (on.drop i) u) false) := by
 intro m
 induction m with
 | zero =>
   intro i s hi hs
   rw [List.drop_of_length_le (by omega)] at hs ⊢
   rw [idxA, Nat.mul_zero, Nat.add_zero] at hs ⊢
   exact Evn.succ (fun q => by rw [skolemref04_At.l0]) (Evn.neg (by omega) (Evn.pos (by omega) (Evn.pos (by omega) ((Evn.ret _).to (by simp [rdOf])))))
 | succ m ih =>
   intro i s hi hs
   have hil : i < on.length := by omega
   have hp := pow30 (i := i) (by omega)
   rw [List.drop_eq_getElem_cons hil, idxA] at hs ⊢
   refine Evn.succ (fun q => by rw [skolemref04_At.l0]) (Evn.pos (by omega) (Evn.pos (by omega) ?_))
   rw [rd_nat on i hil]
   refine Evn.bind (Has3_f u on[i] (by omega)) ?_
   have e2 : 2 ^ i * (2 * idxA (on.drop (i + 1)) u) = 2 ^ (i + 1) * idxA (on.drop (i + 1)) u := by rw [Nat.pow_succ, Nat.mul_assoc]
   by_cases ho : on[i] ∈ u
   · rw [if_pos ho, Nat.mul_add, Nat.mul_one, e2, ← Nat.add_assoc] at hs ⊢
     refine Evn.pos (by simpa using ho) (Evn.pos (by rw [u64n i (by omega)]; omega) ?_)
     have hps : s + 2 ^ i < 2000000000 := by omega
     have e3 : wrap64 ((s : Int) + ((2 ^ i : Nat) : Int)) = ((s + 2 ^ i : Nat) : Int) := by
      generalize 2 ^ i = q at hps ⊢
      rw [wrap64_id (by omega) (by omega)]
      omega
     rw [shl1u i (by omega), e3, wrap64_nat (i := i) (by omega)]
     exact ih (i + 1) (s + 2 ^ i) (by omega) hs
   · rw [if_neg ho, Nat.zero_add, e2] at hs ⊢
     refine Evn.neg (by simpa using ho) ?_
     rw [wrap64_nat (i := i) (by omega)]
     exact ih (i + 1) s (by omega) hs
theorem At_f (u : List Int) (hu : u.length ≤ 1000000000) (v : Int) (on : List Int) (bs : List Bool) (hl : on.length ≤ 20) (hb : bs.length = 2 ^ on.length) : Evn (fun k => skolemref04_At.f k v on bs u) (bs.getD (idxA on u) false) := by
 unfold skolemref04_At.f
 have hp : 2 ^ on.length ≤ 2 ^ 20 := Nat.pow_le_pow_right (n := 2) (by omega) hl
 have := At_l0 u hu v on bs (by omega) (by omega) on.length 0 0 (by omega) (by have := idxA_lt on u; simp; omega)
 simpa using this
def satB (F : List (List Int)) (a : List Int) : Bool := F.all fun c => c.any fun y => decide (y ∈ a)
theorem Sat_l1 (F : List (List Int)) (a : List Int) (ha : a.length ≤ 1000000000) (i : Nat) (hi : i < F.length) (hF : F.length ≤ 1000000) (hc : F[i].length ≤ 1000000) (V : Bool) :
 ∀ m j b, j + m = F[i].length → ((b = true ∨ ∃ y ∈ F[i].drop j, y ∈ a) → Evn (fun k => skolemref04_Satisfied.l0 k F a ((i + 1 : Nat) : Int)) V) → (¬ (b = true ∨ ∃ y ∈ F[i].drop j, y ∈ a) → V = false) → Evn (fun k => skolemref04_Satisfied.l1 k F a (i : Int) b (j : Int)) V := by
 have hr : rd_L1 F (i : Int) = F[i] := by simp [rd_L1, hi]
 intro m
 induction m with
 | zero =>
   intro j b hj hT hN
   refine Evn.succ (fun q => by rw [skolemref04_Satisfied.l1]) (Evn.pos (by omega) (Evn.pos (by omega) ?_))
   rw [hr]
   refine Evn.neg (by omega) ?_
   rw [List.drop_of_length_le (by omega)] at hT hN
   cases b with
   | true =>
     refine Evn.pos rfl ?_
     rw [wrap64_nat (i := i) (by omega)]
     exact hT (.inl rfl)
   | false => exact Evn.neg (by simp) ((Evn.ret _).to (hN (by simp)).symm)
 | succ m ih =>
   intro j b hj hT hN
   have hjl : j < F[i].length := by omega
   refine Evn.succ (fun q => by rw [skolemref04_Satisfied.l1]) (Evn.pos (by omega) (Evn.pos (by omega) ?_))
   rw [hr]
   refine Evn.pos (by omega) ?_
   rw [wrap64_nat (i := j) (by omega)]
   rw [List.drop_eq_getElem_cons hjl] at hT hN
   cases b with
   | true =>
     refine Evn.pos rfl (ih (j + 1) true (by omega) (fun _ => hT (.inl rfl)) (fun h => (h (.inl rfl)).elim))
   | false =>
     refine Evn.neg (by simp) (Evn.pos (by omega) ?_)
     rw [rd_nat F[i] j hjl]
     refine Evn.bind (Has3_f a F[i][j] (by omega)) ?_
     have hiff : (decide (F[i][j] ∈ a) = true ∨ ∃ y ∈ F[i].drop (j + 1), y ∈ a) ↔ (false = true ∨ ∃ y ∈ F[i][j] :: F[i].drop (j + 1), y ∈ a) := by
      constructor
      · rintro (h | ⟨y, hy, hya⟩)
        · exact .inr ⟨_, List.mem_cons_self, by simpa using h⟩
        · exact .inr ⟨y, List.mem_cons_of_mem _ hy, hya⟩
      · rintro (h | ⟨y, hy, hya⟩)
        · cases h
        · rcases List.mem_cons.1 hy with rfl | hy
          · exact .inl (by simpa using hya)
          · exact .inr ⟨y, hy, hya⟩
     exact ih (j + 1) _ (by omega) (fun h => hT (hiff.1 h)) (fun h => hN (fun k => h (hiff.2 k)))
theorem Sat_l0 (F : List (List Int)) (a : List Int) (ha : a.length ≤ 1000000000) (hF : F.length ≤ 1000000) (hc : ∀ c ∈ F, c.length ≤ 1000000) : ∀ m i, i + m = F.length → Evn (fun k => skolemref04_Satisfied.l0 k F a (i : Int)) (satB (F.drop i) a) := by
 intro m
 induction m with
 | zero =>
   intro i hi
   rw [List.drop_of_length_le (by omega)]
   exact Evn.succ (fun q => by rw [skolemref04_Satisfied.l0]) (Evn.neg (by omega) ((Evn.ret _).to (by simp [satB])))
 | succ m ih =>
   intro i hi
   have hil : i < F.length := by omega
   refine Evn.succ (fun q => by rw [skolemref04_Satisfied.l0]) (Evn.pos (by omega) ?_)
   have h0 := Sat_l1 F a ha i hil hF (hc _ (List.getElem_mem hil)) (satB (F.drop i) a) F[i].length 0 false (by omega)
   refine h0 (fun h => ?_) (fun h => ?_)
   · refine (ih (i + 1) (by omega)).to ?_
     rw [List.drop_eq_getElem_cons hil]
     unfold satB
     rw [List.all_cons]
     have : (F[i].any fun y => decide (y ∈ a)) = true := by
      rw [List.any_eq_true]
      obtain ⟨y, hy, hya⟩ := h.resolve_left (by simp)
      exact ⟨y, by simpa using hy, by simpa using hya⟩
     rw [this, Bool.true_and]
   · rw [List.drop_eq_getElem_cons hil]
     unfold satB
     rw [List.all_cons]
     have : (F[i].any fun y => decide (y ∈ a)) = false := by
      rw [List.any_eq_false]
      intro y hy hya
      exact h (.inr ⟨y, by simpa using hy, by simpa using hya⟩)
     rw [this, Bool.false_and]
theorem Sat_f (F : List (List Int)) (a : List Int) (ha : a.length ≤ 1000000000) (hF : F.length ≤ 1000000) (hc : ∀ c ∈ F, c.length ≤ 1000000) : Evn (fun k => skolemref04_Satisfied.f k F a) (satB F a) := by
 unfold skolemref04_Satisfied.f
 have := Sat_l0 F a ha hF hc F.length 0 (by omega)
 simpa using this
end Go.Proofs.YtjecjaihficcdaaGreat.PEquivNext
