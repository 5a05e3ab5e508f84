/- Walks of sort.Search and asg.look. -/
import Derived.Test.YteokoaggkpjdeaaDoorLits2
namespace Go.Proofs.YteokoaggkpjdeaaDoor
open Go.RowKit

theorem quiet_same {P : Program} {f : FuncId} {args : Array Value} {w : World} {n : Nat} {v : Value}
    (h : Calls P f args (w.drewN n) fun e w' => e = .returned v ∧ w.drewN n = w') : Calls P f args (w.drewN n) fun e w'' => e = .returned v ∧ ∃ m, w'' = w.drewN m :=
  h.mono fun _ _ ⟨he, hm⟩ => ⟨he, n, hm.symm⟩

def PostSearch (p : Nat → Bool) (n : Nat) (J : World → Prop) (e : Ending) (w : World) : Prop := ∃ r : Nat, e = .returned (.int .i64 r) ∧ SearchAt p n r ∧ J w

theorem shr1 (x : Int) : x / 2 ^ 1 = x / 2 := by simp

set_option maxHeartbeats 400000 in
theorem search_any (f : FuncId) (cap : Array Value) (hf : Fv Tryd.prog f) (n : Nat) (hn : n ≤ 4611686018427387903) (p : Nat → Bool) (J : World → Prop) (w : World)
    (hcl : ∀ k, k < n → ∀ w', J w' → Calls Tryd.prog f (#[.int .i64 k] ++ cap) w' fun e w'' => e = .returned (.bool (p k)) ∧ J w'')
    (h0 : J w) :
    Calls Tryd.prog 80 #[.int .i64 n, .func (.func f) #[] cap] w (PostSearch p n J) := by
  have HCL := Lib.hid hcl
  have H0 := Lib.hid h0
  clear hcl h0
  go_enter Tryd.func80, Tryd.ntmps80
  go_wp2
  go_loopw [5, 6] (fun i j wr => ∃ a b : Nat, a ≤ b ∧ b ≤ n ∧ i = .int .i64 a ∧ j = .int .i64 b ∧ Hid (J wr) ∧ Hid ((b < n → p b = true) ∧ (0 < a → p (a - 1) = false))) (fun i j _ => (intOf j).toNat - (intOf i).toNat)
  case atStart => exact ⟨0, n, Nat.zero_le _, Nat.le_refl _, rfl, rfl, H0, fun h => absurd h (Nat.lt_irrefl _), fun h => absurd h (Nat.lt_irrefl _)⟩
  case round =>
    obtain ⟨a, b, hab, hbn, rfl, rfl, HK, HP⟩ := hrel
    by_cases hlt : a < b
    · obtain ⟨m, hm⟩ : ∃ m : Nat, m = (a + b) / 2 := ⟨_, rfl⟩
      have hmm : ((a : Int) + b) / 2 = (m : Int) := by omega
      have hm1 : a ≤ m := by omega
      have hm2 : m < b := by omega
      clear hm
      go_wp2_with (refine wpList_callv (.tmp 18) #[.tmp 19] _ rfl rfl cap rfl hf (#[.int .i64 m] ++ cap) (by simp only [List.map_toArray, List.map_cons, List.map_nil]; rfl) ?_; refine (HCL.out m (by omega) _ HK.out).mono ?_; rintro e w' ⟨rfl, hJ'⟩; refine ⟨_, rfl, ?_⟩; have HJ' := Lib.hid hJ'; clear hJ')
      · have hpm : (!p m) = true := by assumption
        go_round
        case rel => exact ⟨m + 1, b, by omega, by omega, by go_num, rfl, HJ', HP.out.1, fun _ => by simpa using hpm⟩
        case measure => simp [intOf]; omega
      · have hpm : (!p m) = false := by assumption
        go_round
        case rel => exact ⟨a, m, by omega, by omega, rfl, rfl, HJ', fun _ => by simpa using hpm, HP.out.2⟩
        case measure => simp [intOf]; omega
    · go_wp2
      go_ret
      obtain rfl : a = b := by omega
      exact ⟨a, rfl, ⟨hbn, HP.out.1, HP.out.2⟩, HK.out⟩


theorem fv_look1 : Fv Tryd.prog 81 := ⟨_, Tryd.func81, by kernel_rfl, by kernel_rfl⟩

/-- look's literal: is the variable of number i at least v? -/
theorem look_fn (xs : List Int) (k : Nat) (hk : k < xs.length) (v : Int) (pa pv : Nat) (A : Option Addr) (c : Nat) (w : World) (h64 : All64 xs)
    (ha : w.cell? ⟨pa, 0, none⟩ = some (.slice A xs.length c)) (hv : w.cell? ⟨pv, 0, none⟩ = some (.int .i64 v)) (hr : Row w A (xs.map (Value.int .i64))) :
    Calls Tryd.prog 81 #[.int .i64 k, .pointer (some ⟨pa, 0, none⟩), .pointer (some ⟨pv, 0, none⟩)] w fun e w' => e = .returned (.bool (decide (v ≤ varOf xs[k]))) ∧ ∃ m, w' = w.drewN m := by
  obtain ⟨ad, rfl, hcell⟩ := hr.int k hk
  have hx := h64 _ (List.getElem_mem hk)
  clear hr
  have hk1 : (k : Int) < xs.length := by omega
  have hk0 : (0 : Int) ≤ k := by omega
  go_enter Tryd.func81, Tryd.ntmps81
  go_wp2
  go_quiet ((go_at_call 57; exact quiet_same (var_any _ hx _)))
  go_wp2
  go_ret
  exact ⟨rfl, _, rfl⟩

/-- look's two variables, boxed. -/
theorem boxes (w w' : World) (a b : Value) (t u : TypeId) (h : Ext ((w.alloc (.cells #[a] t)).alloc (.cells #[b] u)) w') :
    w'.cell? ⟨w.heap.size, 0, none⟩ = some a ∧ w'.cell? ⟨w.heap.size + 1, 0, none⟩ = some b ∧ Ext w w' := by
  refine ⟨?_, ?_, ((Ext.alloc w _).trans (Ext.alloc _ _)).trans h⟩
  · exact (((Var1.new w t a).ext (Ext.alloc _ (.cells #[b] u))).ext h).cell
  · have hs : (w.alloc (.cells #[a] t)).heap.size = w.heap.size + 1 := Array.size_push _
    have := ((Var1.new (w.alloc (.cells #[a] t)) u b).ext h).cell
    rwa [hs] at this

set_option maxHeartbeats 800000 in
theorem look_any (xs : List Int) (lit : Int) (v : Value) (w : World) (h64 : All64 xs) (hl : I64 lit) (hr : RI w v xs) (hmay : mayB xs = true) :
    Calls Tryd.prog 48 #[v, .int .i64 lit] w fun e w' => e = .returned (.int .u8 (lookI xs lit)) ∧ Ext w w' := by
  obtain ⟨A, c, rfl, h1, h2, h3⟩ := hr
  have HASC := Lib.hid ((mayB_iff xs).1 hmay)
  have H3 := Lib.hid h3
  clear h3
  go_enter Tryd.func48, Tryd.ntmps48
  have HS := Lib.hid (search_any 81 #[.pointer (some ⟨w.heap.size, 0, none⟩), .pointer (some ⟨w.heap.size + 1, 0, none⟩)] fv_look1 xs.length (by have := may_len hmay; omega)
    (fun k => decide (varOf lit ≤ varOf (xs.getD k 0))) (fun w' => Ext ((w.alloc (.cells #[.slice A xs.length c] 22)).alloc (.cells #[.int .i64 (varOf lit)] 3)) w')
    ((w.alloc (.cells #[.slice A xs.length c] 22)).alloc (.cells #[.int .i64 (varOf lit)] 3))
    (by
      intro k hk w' hw
      obtain ⟨b1, b2, b3⟩ := boxes _ _ _ _ _ _ hw
      refine (look_fn xs k hk (varOf lit) _ _ A c _ h64 b1 b2 (H3.out.ext b3)).mono ?_
      rintro e w' ⟨rfl, n, rfl⟩
      exact ⟨by rw [getD_int xs k hk], hw.trans (Ext.drewN _ _)⟩)
    (Ext.refl _))
  clear hmay
  go_wp2_with fail
  refine (var_any _ hl _).mono ?_
  rintro e w' ⟨rfl, rfl⟩
  go_wp2_with fail
  refine HS.out.mono ?_
  rintro e w1 ⟨r, rfl, hr, hw1⟩
  dsimp only
  have HR := Lib.hid hr
  have hrn := hr.1
  clear hr
  obtain ⟨b1, b2, b3⟩ := boxes _ _ _ _ _ _ hw1
  have H3' := Lib.hid (H3.out.ext b3)
  have B3 := Lib.hid b3
  clear b3 HS H3 hw1
  by_cases hv : varOf lit = 0
  · have hvb : (varOf lit == 0) = true := by simp [hv]
    have HV := Lib.hid hv
    clear hv
    go_wp2
    go_quiet (fail)
    go_wp2
    go_ret
    exact ⟨ret_int (by unfold lookI; rw [if_pos HV.out]), B3.out.trans (Ext.drewN _ _)⟩
  · have hvb : (varOf lit == 0) = false := by simpa using hv
    have HV := Lib.hid hv
    clear hv
    by_cases hn : r < xs.length
    · obtain ⟨ad, rfl, hcell⟩ := H3'.out.int r hn
      have hx := h64 _ (List.getElem_mem hn)
      have hnb : (((r : Nat) : Int) == ((xs.length : Nat) : Int)) = false := by simp; omega
      have hn0 : (0 : Int) ≤ r := by omega
      have hn1 : (r : Int) < xs.length := by omega
      by_cases he : varOf xs[r] = varOf lit
      · have heb : (varOf xs[r] != varOf lit) = false := by simp [he]
        have HE := Lib.hid he
        clear he
        go_wp2
        go_quiet ((go_at_call 57; exact quiet_same (var_any _ hx _)))
        by_cases hq : xs[r] = lit
        · have hqb : (xs[r] == lit) = true := by simp [hq]
          have HQ := Lib.hid hq
          clear hq
          go_wp2
          go_ret
          exact ⟨ret_int (by rw [look_at HASC.out HV.out HR.out hn HE.out, if_pos HQ.out]), B3.out.trans (Ext.drewN _ _)⟩
        · have hqb : (xs[r] == lit) = false := by simp [hq]
          have HQ := Lib.hid hq
          clear hq
          go_wp2
          go_ret
          exact ⟨ret_int (by rw [look_at HASC.out HV.out HR.out hn HE.out, if_neg HQ.out]), B3.out.trans (Ext.drewN _ _)⟩
      · have heb : (varOf xs[r] != varOf lit) = true := by simp [he]
        have HE := Lib.hid he
        clear he
        go_wp2
        go_quiet ((go_at_call 57; exact quiet_same (var_any _ hx _)))
        go_wp2
        go_ret
        exact ⟨ret_int (by rw [look_none HASC.out HV.out HR.out (fun _ => HE.out)]), B3.out.trans (Ext.drewN _ _)⟩
    · have hnb : (((r : Nat) : Int) == ((xs.length : Nat) : Int)) = true := by simp; omega
      go_wp2
      go_quiet (fail)
      go_wp2
      go_ret
      exact ⟨ret_int (by rw [look_none HASC.out HV.out HR.out (fun h => absurd h hn)]), B3.out.trans (Ext.drewN _ _)⟩

end Go.Proofs.YteokoaggkpjdeaaDoor
