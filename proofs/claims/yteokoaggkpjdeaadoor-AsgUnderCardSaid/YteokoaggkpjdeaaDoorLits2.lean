/- Walks of lits.MayCnf and its function literal. -/
import Derived.Test.YteokoaggkpjdeaaDoorHof
namespace Go.Proofs.YteokoaggkpjdeaaDoor
open Go.RowKit

set_option maxHeartbeats 400000 in
/-- The literal's own walk: the counter lies in block B. -/
theorem mayCnf_fn (w0 : World) (B : Nat) (n : Int) (v : Value) (xs : List Int) (w : World) (hr : RI w0 v xs) (h64 : All64 xs) (hE : Ext w0 w) (hB0 : w0.heap.size ≤ B) (hB : Var1 w B 3 (.int .i64 n)) (hn : 0 ≤ n) (hs : n + xs.length ≤ 9223372036854775807) :
    Calls Tryd.prog 78 #[v, .pointer (some ⟨B, 0, none⟩)] w fun e w' => e = .returned (.bool (decide (200000 < n + xs.length) || !mayB xs)) ∧ w' = w.setCell ⟨B, 0, none⟩ (.int .i64 (n + xs.length)) := by
  have hc := hB.cell
  have hf := hB.free
  have HR := Lib.hid (hr.ext (Below.setCell hE (p := ⟨B, 0, none⟩) hB0 (.int .i64 (n + xs.length))))
  obtain ⟨A, c, rfl, h1, h2, h3⟩ := hr
  clear h3 hB hE
  by_cases hbig : 200000 < n + xs.length
  · have hd : decide (200000 < n + (xs.length : Int)) = true := by simpa using hbig
    go_enter Tryd.func78, Tryd.ntmps78
    go_wp2_with fail
    go_ret
    exact ⟨by simp [hd], rfl⟩
  · have hd : decide (200000 < n + (xs.length : Int)) = false := by simpa using hbig
    go_enter Tryd.func78, Tryd.ntmps78
    go_wp2_with (go_at_call 43; refine (may_any _ xs _ HR.out h64).mono ?_; rintro e w' ⟨rfl, rfl⟩)
    go_ret
    exact ⟨by simp [hd], rfl⟩

theorem fv_mayCnf1 : Fv Tryd.prog 78 := ⟨_, Tryd.func78, by kernel_rfl, by kernel_rfl⟩

theorem mayCnfB_of (xss : List (List Int)) (J : Nat → World → Prop) (r : Int) (w : World) (hl : xss.length ≤ 20000)
    (h : IdxSt (fun k => decide (200000 < (lens xss k : Int) + (xss.getD k []).length) || !mayB (xss.getD k [])) xss.length J r w) : (!decide (0 ≤ r)) = mayCnfB xss := by
  have key : ∀ k, k < xss.length → (decide (lens xss (k + 1) ≤ 200000) && mayB (xss.getD k [])) = !(decide (200000 < (lens xss k : Int) + (xss.getD k []).length) || !mayB (xss.getD k [])) := fun k hk => by
    rw [lens_succ xss k hk, getD_of xss k hk, Bool.not_or, Bool.not_not, ← decide_not]
    congr 1
    simp only [decide_eq_decide]
    omega
  unfold mayCnfB
  rcases h with ⟨k, hk, hp, _, rfl, _⟩ | ⟨hp, rfl, _⟩
  · have hz : (List.range xss.length).all (fun k => decide (lens xss (k + 1) ≤ 200000) && mayB (xss.getD k [])) = false := by
      rw [List.all_eq_false]
      exact ⟨k, by simpa using hk, by rw [key k hk, show (_ || _) = true from hp]; simp⟩
    rw [hz]; simp
  · have hz : (List.range xss.length).all (fun k => decide (lens xss (k + 1) ≤ 200000) && mayB (xss.getD k [])) = true := by
      rw [List.all_eq_true]
      intro j hj
      have hj' : j < xss.length := by simpa using hj
      rw [key j hj', show (_ || _) = false from hp j hj']; rfl
    rw [hz]; simp [hl]

set_option maxHeartbeats 400000 in
theorem mayCnf_any (v : Value) (xss : List (List Int)) (w : World) (hr : RLL w v xss) (h64 : All64L xss) (ht : xss.length ≤ 20000 → total xss ≤ 9223372036854775807) :
    Calls Tryd.prog 44 #[v] w fun e w' => e = .returned (.bool (mayCnfB xss)) ∧ Ext w w' := by
  obtain ⟨A, c, vs, rfl, h1, h2, h3, h4, h5⟩ := hr
  have H4 := Lib.hid h4
  have H5 := Lib.hid h5
  have H3 := Lib.hid h3
  have HT := Lib.hid ht
  clear h4 h5 h3 ht
  by_cases hlen : vs.length ≤ 20000
  · have hd : decide (((vs.length : Nat) : Int) ≤ 20000) = true := by simp; omega
    have HCF := containsFuncL 78 #[.pointer (some ⟨w.heap.size, 0, none⟩)] fv_mayCnf1 A c vs h2
      (fun k => decide (200000 < (lens xss k : Int) + (xss.getD k []).length) || !mayB (xss.getD k []))
      (fun k w' => Ext w w' ∧ Var1 w' w.heap.size 3 (.int .i64 (lens xss k))) (w.alloc (.cells #[.int .i64 0] 3))
      (fun k w' h => H3.out.ext h.1)
      (fun k hk w' hJ => by
        have hk' : k < xss.length := by rw [← H4.out]; exact hk
        have hg := getD_of xss k hk'
        have hle := lens_le xss (k + 1)
        have hsu := lens_succ xss k hk'
        have := HT.out (by rw [← H4.out]; exact hlen)
        have hcl := mayCnf_fn w w.heap.size (lens xss k) vs[k] xss[k] w' (H5.out k hk hk') (h64 _ (List.getElem_mem hk')) hJ.1 (Nat.le_refl _) hJ.2 (by omega) (by omega)
        refine hcl.mono ?_
        rintro e w'' ⟨rfl, rfl⟩
        refine ⟨by rw [hg], hJ.1.setCell (Nat.le_refl _) _, ?_⟩
        rw [hsu]
        exact hJ.2.set _)
      ⟨Ext.alloc w _, Var1.new w _ _⟩
    have HC := Lib.hid HCF
    clear HCF
    go_enter Tryd.func44, Tryd.ntmps44
    go_wp2_with (go_at_call 77; refine HC.out.mono ?_; rintro e w' ⟨r, rfl, hs⟩; have HS := Lib.hid hs; clear hs)
    go_ret
    refine ⟨ret_bool (mayCnfB_of xss _ r w' (by rw [← H4.out]; exact hlen) (by rw [← H4.out]; exact HS.out)), ?_⟩
    rcases HS.out with ⟨k, _, _, _, _, h⟩ | ⟨_, _, h⟩
    · exact h.1
    · exact h.1
  · have hd : decide (((vs.length : Nat) : Int) ≤ 20000) = false := by simp; omega
    go_enter Tryd.func44, Tryd.ntmps44
    go_wp2_with fail
    go_ret
    refine ⟨ret_bool ?_, Ext.alloc w _⟩
    have := H4.out
    unfold mayCnfB
    rw [decide_eq_false (by omega)]
    rfl

end Go.Proofs.YteokoaggkpjdeaaDoor
