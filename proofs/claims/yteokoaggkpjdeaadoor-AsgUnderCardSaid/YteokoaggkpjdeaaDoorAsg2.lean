/- Walks of asg.search, clause, Value, Clause, Cube, Cnf. -/
import Derived.Test.YteokoaggkpjdeaaDoorAsg1
namespace Go.Proofs.YteokoaggkpjdeaaDoor
open Go.RowKit

def PostSrch (g : Nat → Int) (n : Nat) (a b : Int) (J : World → Prop) (e : Ending) (w : World) : Prop := e = .returned (.int .u8 (searchG g n a b)) ∧ J w

set_option maxHeartbeats 400000 in
theorem searchI (f : FuncId) (cap : Array Value) (hf : Fv Tryd.prog f) (A : Option Addr) (c : Nat) (vs : List Value) (hm : vs.length ≤ 9223372036854775807) (g : Nat → Int) (a b : Int) (J : World → Prop) (w : World)
    (hJ : ∀ w', J w' → Row w' A vs)
    (hcl : ∀ k (h : k < vs.length) w', J w' → Calls Tryd.prog f (#[vs[k]] ++ cap) w' fun e w'' => e = .returned (.int .u8 (g k)) ∧ J w'')
    (h0 : J w) :
    Calls Tryd.prog 61 #[.slice A vs.length c, .func (.func f) #[] cap, .int .u8 a, .int .u8 b] w (PostSrch g vs.length a b J) := by
  have HJ := Lib.hid hJ
  have HCL := Lib.hid hcl
  have H0 := Lib.hid h0
  clear hJ hcl h0
  go_enter Tryd.func61, Tryd.ntmps61
  go_wp2
  go_loopw [9, 15] (fun o i wr => ∃ (k : Nat) (r : Int), k ≤ vs.length ∧ i = .int .i64 k ∧ o = .int .u8 r ∧ Hid (J wr) ∧ Hid ((∀ j, j < k → g j ≠ a) ∧ r = if ∃ j, j < k ∧ g j = 0 then 0 else b)) (fun _ i _ => vs.length - (intOf i).toNat)
  case atStart => exact ⟨0, b, Nat.zero_le _, rfl, rfl, H0, fun j h => absurd h (Nat.not_lt_zero j), by simp⟩
  case round =>
    obtain ⟨k, r, hk, rfl, rfl, HK, HP⟩ := hrel
    by_cases hlt : k < vs.length
    · obtain ⟨ad, rfl, hcell⟩ := HJ.out _ HK.out k hlt
      by_cases ha : g k = a
      · have hab : (g k == a) = true := by simp [ha]
        have HA := Lib.hid ha
        clear ha
        go_wp2_with (refine wpList_callv (.tmp 19) #[.tmp 20] _ rfl rfl cap rfl hf (#[vs[k]] ++ cap) (by simp only [List.map_toArray, List.map_cons, List.map_nil]; rfl) ?_; refine (HCL.out k hlt _ HK.out).mono ?_; rintro e w' ⟨rfl, hJ'⟩; refine ⟨_, rfl, ?_⟩; have HJ' := Lib.hid hJ'; clear hJ')
        go_ret
        exact ⟨ret_int (searchG_found hlt HA.out).symm, HJ'.out⟩
      · have hab : (g k == a) = false := by simp [ha]
        have HA := Lib.hid ha
        clear ha
        by_cases hz : g k = 0
        · have hzb : (g k == 0) = true := by simp [hz]
          have HZ := Lib.hid hz
          clear hz
          go_wp2_with (refine wpList_callv (.tmp 19) #[.tmp 20] _ rfl rfl cap rfl hf (#[vs[k]] ++ cap) (by simp only [List.map_toArray, List.map_cons, List.map_nil]; rfl) ?_; refine (HCL.out k hlt _ HK.out).mono ?_; rintro e w' ⟨rfl, hJ'⟩; refine ⟨_, rfl, ?_⟩; have HJ' := Lib.hid hJ'; clear hJ')
          go_round
          case rel => exact ⟨k + 1, 0, by omega, by go_num, rfl, HJ', fun j hj => if h : j = k then h ▸ HA.out else HP.out.1 j (by omega), by rw [if_pos ⟨k, by omega, HZ.out⟩]⟩
          case measure => simp [intOf]; omega
        · have hzb : (g k == 0) = false := by simp [hz]
          have HZ := Lib.hid hz
          clear hz
          go_wp2_with (refine wpList_callv (.tmp 19) #[.tmp 20] _ rfl rfl cap rfl hf (#[vs[k]] ++ cap) (by simp only [List.map_toArray, List.map_cons, List.map_nil]; rfl) ?_; refine (HCL.out k hlt _ HK.out).mono ?_; rintro e w' ⟨rfl, hJ'⟩; refine ⟨_, rfl, ?_⟩; have HJ' := Lib.hid hJ'; clear hJ')
          go_round
          case rel => exact ⟨k + 1, r, by omega, by go_num, rfl, HJ', fun j hj => if h : j = k then h ▸ HA.out else HP.out.1 j (by omega), by rw [HP.out.2]; exact searchG_skip HZ.out⟩
          case measure => simp [intOf]; omega
    · go_wp2
      go_ret
      obtain rfl : k = vs.length := by omega
      exact ⟨ret_int (searchG_end HP.out.1 HP.out.2), HK.out⟩
set_option maxHeartbeats 400000 in
theorem searchL (f : FuncId) (cap : Array Value) (hf : Fv Tryd.prog f) (A : Option Addr) (c : Nat) (vs : List Value) (hm : vs.length ≤ 9223372036854775807) (g : Nat → Int) (a b : Int) (J : World → Prop) (w : World)
    (hJ : ∀ w', J w' → Row w' A vs)
    (hcl : ∀ k (h : k < vs.length) w', J w' → Calls Tryd.prog f (#[vs[k]] ++ cap) w' fun e w'' => e = .returned (.int .u8 (g k)) ∧ J w'')
    (h0 : J w) :
    Calls Tryd.prog 51 #[.slice A vs.length c, .func (.func f) #[] cap, .int .u8 a, .int .u8 b] w (PostSrch g vs.length a b J) := by
  have HJ := Lib.hid hJ
  have HCL := Lib.hid hcl
  have H0 := Lib.hid h0
  clear hJ hcl h0
  go_enter Tryd.func51, Tryd.ntmps51
  go_wp2
  go_loopw [9, 15] (fun o i wr => ∃ (k : Nat) (r : Int), k ≤ vs.length ∧ i = .int .i64 k ∧ o = .int .u8 r ∧ Hid (J wr) ∧ Hid ((∀ j, j < k → g j ≠ a) ∧ r = if ∃ j, j < k ∧ g j = 0 then 0 else b)) (fun _ i _ => vs.length - (intOf i).toNat)
  case atStart => exact ⟨0, b, Nat.zero_le _, rfl, rfl, H0, fun j h => absurd h (Nat.not_lt_zero j), by simp⟩
  case round =>
    obtain ⟨k, r, hk, rfl, rfl, HK, HP⟩ := hrel
    by_cases hlt : k < vs.length
    · obtain ⟨ad, rfl, hcell⟩ := HJ.out _ HK.out k hlt
      by_cases ha : g k = a
      · have hab : (g k == a) = true := by simp [ha]
        have HA := Lib.hid ha
        clear ha
        go_wp2_with (refine wpList_callv (.tmp 19) #[.tmp 20] _ rfl rfl cap rfl hf (#[vs[k]] ++ cap) (by simp only [List.map_toArray, List.map_cons, List.map_nil]; rfl) ?_; refine (HCL.out k hlt _ HK.out).mono ?_; rintro e w' ⟨rfl, hJ'⟩; refine ⟨_, rfl, ?_⟩; have HJ' := Lib.hid hJ'; clear hJ')
        go_ret
        exact ⟨ret_int (searchG_found hlt HA.out).symm, HJ'.out⟩
      · have hab : (g k == a) = false := by simp [ha]
        have HA := Lib.hid ha
        clear ha
        by_cases hz : g k = 0
        · have hzb : (g k == 0) = true := by simp [hz]
          have HZ := Lib.hid hz
          clear hz
          go_wp2_with (refine wpList_callv (.tmp 19) #[.tmp 20] _ rfl rfl cap rfl hf (#[vs[k]] ++ cap) (by simp only [List.map_toArray, List.map_cons, List.map_nil]; rfl) ?_; refine (HCL.out k hlt _ HK.out).mono ?_; rintro e w' ⟨rfl, hJ'⟩; refine ⟨_, rfl, ?_⟩; have HJ' := Lib.hid hJ'; clear hJ')
          go_round
          case rel => exact ⟨k + 1, 0, by omega, by go_num, rfl, HJ', fun j hj => if h : j = k then h ▸ HA.out else HP.out.1 j (by omega), by rw [if_pos ⟨k, by omega, HZ.out⟩]⟩
          case measure => simp [intOf]; omega
        · have hzb : (g k == 0) = false := by simp [hz]
          have HZ := Lib.hid hz
          clear hz
          go_wp2_with (refine wpList_callv (.tmp 19) #[.tmp 20] _ rfl rfl cap rfl hf (#[vs[k]] ++ cap) (by simp only [List.map_toArray, List.map_cons, List.map_nil]; rfl) ?_; refine (HCL.out k hlt _ HK.out).mono ?_; rintro e w' ⟨rfl, hJ'⟩; refine ⟨_, rfl, ?_⟩; have HJ' := Lib.hid hJ'; clear hJ')
          go_round
          case rel => exact ⟨k + 1, r, by omega, by go_num, rfl, HJ', fun j hj => if h : j = k then h ▸ HA.out else HP.out.1 j (by omega), by rw [HP.out.2]; exact searchG_skip HZ.out⟩
          case measure => simp [intOf]; omega
    · go_wp2
      go_ret
      obtain rfl : k = vs.length := by omega
      exact ⟨ret_int (searchG_end HP.out.1 HP.out.2), HK.out⟩

theorem All64.getD {xs : List Int} (h : All64 xs) (k : Nat) (hk : k < xs.length) : I64 (xs.getD k 0) := by rw [getD_int xs k hk]; exact h _ (List.getElem_mem hk)

theorem fv_clause_fn : Fv Tryd.prog 79 := ⟨_, Tryd.func79, by kernel_rfl, by kernel_rfl⟩
theorem clause_fn (xs : List Int) (lit : Int) (pa : Nat) (v : Value) (w : World) (h64 : All64 xs) (hl : I64 lit) (hr : RI w v xs) (hmay : mayB xs = true) (ha : w.cell? ⟨pa, 0, none⟩ = some v) :
    Calls Tryd.prog 79 #[.int .i64 lit, .pointer (some ⟨pa, 0, none⟩)] w fun e w' => e = .returned (.int .u8 (lookI xs lit)) ∧ Ext w w' := by
  have HM := Lib.hid hmay
  have HR := Lib.hid hr
  clear hmay
  obtain ⟨A, c, rfl, h1, h2, h3⟩ := hr
  clear h3
  go_enter Tryd.func79, Tryd.ntmps79
  go_wp2_with (go_at_call 48; refine (look_any xs lit _ _ h64 hl HR.out HM.out).mono ?_; rintro e w' ⟨rfl, hE⟩)
  go_ret
  exact ⟨rfl, hE⟩
theorem fv_cube_fn : Fv Tryd.prog 62 := ⟨_, Tryd.func62, by kernel_rfl, by kernel_rfl⟩
theorem cube_fn (xs : List Int) (lit : Int) (pa : Nat) (v : Value) (w : World) (h64 : All64 xs) (hl : I64 lit) (hr : RI w v xs) (hmay : mayB xs = true) (ha : w.cell? ⟨pa, 0, none⟩ = some v) :
    Calls Tryd.prog 62 #[.int .i64 lit, .pointer (some ⟨pa, 0, none⟩)] w fun e w' => e = .returned (.int .u8 (lookI xs lit)) ∧ Ext w w' := by
  have HM := Lib.hid hmay
  have HR := Lib.hid hr
  clear hmay
  obtain ⟨A, c, rfl, h1, h2, h3⟩ := hr
  clear h3
  go_enter Tryd.func62, Tryd.ntmps62
  go_wp2_with (go_at_call 48; refine (look_any xs lit _ _ h64 hl HR.out HM.out).mono ?_; rintro e w' ⟨rfl, hE⟩)
  go_ret
  exact ⟨rfl, hE⟩

/-- What asg.clause and its twins ask of a boxed assignment. -/
theorem RI.row {w : World} {A : Option Addr} {n c : Nat} {xs : List Int} (h : RI w (.slice A n c) xs) : n = xs.length ∧ xs.length ≤ c ∧ xs.length ≤ 9223372036854775807 ∧ Row w A (xs.map (Value.int .i64)) := by
  obtain ⟨A', c', e, h1, h2, h3⟩ := h
  cases e
  exact ⟨rfl, h1, h2, h3⟩

set_option maxHeartbeats 400000 in
theorem clause_any (xs cs : List Int) (v u : Value) (w : World) (h64 : All64 xs) (k64 : All64 cs) (hr : RI w v xs) (kr : RI w u cs) (hmay : mayB xs = true) :
    Calls Tryd.prog 45 #[v, u] w fun e w' => e = .returned (.int .u8 (clauseV xs cs)) ∧ Ext w w' := by
  have HM := Lib.hid hmay
  have HR := Lib.hid hr
  clear hmay
  obtain ⟨A, c, rfl, h1, h2, h3⟩ := hr
  obtain ⟨B, d, rfl, k1, k2, k3⟩ := kr
  have HS := Lib.hid (searchI 79 #[.pointer (some ⟨w.heap.size, 0, none⟩)] fv_clause_fn B d (cs.map (Value.int .i64)) (by simpa using k2) (fun k => lookI xs (cs.getD k 0)) 1 2
    (fun w' => Ext (w.alloc (.cells #[.slice A xs.length c] 22)) w') (w.alloc (.cells #[.slice A xs.length c] 22))
    (fun w' hw => k3.ext ((Ext.alloc w _).trans hw))
    (fun k hk w' hw => by
      have hk' : k < cs.length := by simpa using hk
      have hcell := ((Var1.new w 22 (.slice A xs.length c)).ext hw).cell
      have hc := clause_fn xs (cs.getD k 0) w.heap.size (.slice A xs.length c) w' h64 (k64.getD k hk') (HR.out.ext ((Ext.alloc w _).trans hw)) HM.out hcell
      rw [List.getElem_map, ← getD_int cs k hk']
      refine hc.mono ?_
      rintro e w'' ⟨rfl, hE⟩
      exact ⟨rfl, hw.trans hE⟩)
    (Ext.refl _))
  rw [List.length_map] at HS
  clear h3 k3
  go_enter Tryd.func45, Tryd.ntmps45
  go_wp2_with (go_at_call 61; refine HS.out.mono ?_; rintro e w' ⟨rfl, hE⟩)
  go_ret
  exact ⟨rfl, (Ext.alloc w _).trans hE⟩

set_option maxHeartbeats 400000 in
theorem Value_any (xs : List Int) (lit : Int) (v : Value) (w : World) (h64 : All64 xs) (hl : I64 lit) (hr : RI w v xs) :
    Calls Tryd.prog 23 #[v, .int .i64 lit] w fun e w' => e = .returned (.int .u8 (ValueV xs lit)) ∧ Ext w w' := by
  cases hm : mayB xs
  all_goals
    have HM := Lib.hid hm
    have HL := Lib.hid (may_any v xs w hr h64)
    rw [hm] at HL
    clear hm
    go_enter Tryd.func23, Tryd.ntmps23
    go_wp2_with (first
      | (go_at_call 43; refine HL.out.mono ?_; rintro e w' ⟨rfl, rfl⟩)
      | (go_at_call 48; refine (look_any xs lit _ _ h64 hl hr HM.out).mono ?_; rintro e w' ⟨rfl, hE⟩))
    go_ret
  · exact ⟨ret_int (by unfold ValueV; rw [if_neg (by rw [HM.out]; decide)]), Ext.refl _⟩
  · exact ⟨ret_int (by unfold ValueV; rw [if_pos HM.out]), hE⟩

set_option maxHeartbeats 400000 in
theorem Clause_any (xs cs : List Int) (v u : Value) (w : World) (h64 : All64 xs) (k64 : All64 cs) (hr : RI w v xs) (kr : RI w u cs) :
    Calls Tryd.prog 25 #[v, u] w fun e w' => e = .returned (.int .u8 (ClauseV xs cs)) ∧ Ext w w' := by
  cases hm : mayB xs <;> cases km : mayB cs
  all_goals
    have HM := Lib.hid hm
    have KM := Lib.hid km
    have HL := Lib.hid (may_any v xs w hr h64)
    have KL := Lib.hid (may_any u cs w kr k64)
    rw [hm] at HL
    rw [km] at KL
    clear hm km
    go_enter Tryd.func25, Tryd.ntmps25
    go_wp2_with (first
      | (go_at_call_of 43 v; refine HL.out.mono ?_; rintro e w' ⟨rfl, rfl⟩)
      | (go_at_call_of 43 u; refine KL.out.mono ?_; rintro e w' ⟨rfl, rfl⟩)
      | (go_at_call 45; refine (clause_any xs cs _ _ _ h64 k64 hr kr HM.out).mono ?_; rintro e w' ⟨rfl, hE⟩))
    go_ret
  · exact ⟨ret_int (by unfold ClauseV; rw [if_neg (by rw [HM.out]; simp)]), Ext.refl _⟩
  · exact ⟨ret_int (by unfold ClauseV; rw [if_neg (by rw [HM.out]; simp)]), Ext.refl _⟩
  · exact ⟨ret_int (by unfold ClauseV; rw [if_neg (by rw [KM.out]; simp)]), Ext.refl _⟩
  · exact ⟨ret_int (by unfold ClauseV; rw [if_pos ⟨HM.out, KM.out⟩]), hE⟩

theorem RI.mk {w : World} {A : Option Addr} {c : Nat} {xs : List Int} (h1 : xs.length ≤ c) (h2 : xs.length ≤ 9223372036854775807) (h3 : Row w A (xs.map (Value.int .i64))) : RI w (.slice A xs.length c) xs := ⟨A, c, rfl, h1, h2, h3⟩

set_option maxHeartbeats 400000 in
theorem Cube_any (xs cs : List Int) (v u : Value) (w : World) (h64 : All64 xs) (k64 : All64 cs) (hr : RI w v xs) (kr : RI w u cs) :
    Calls Tryd.prog 27 #[v, u] w fun e w' => e = .returned (.int .u8 (CubeV xs cs)) ∧ Ext w w' := by
  cases hm : mayB xs <;> cases km : mayB cs
  all_goals
    have HM := Lib.hid hm
    have KM := Lib.hid km
    have HR := Lib.hid hr
    have KR := Lib.hid kr
    obtain ⟨A, c, rfl, h1, h2, h3⟩ := hr
    obtain ⟨B, d, rfl, k1, k2, k3⟩ := kr
    have HC := Lib.hid (Var1.new w 22 (.slice A xs.length c)).cell
    have HL := Lib.hid (may_any _ xs _ (HR.out.ext (Ext.alloc w (.cells #[.slice A xs.length c] 22))) h64)
    have KL := Lib.hid (may_any _ cs _ (KR.out.ext (Ext.alloc w (.cells #[.slice A xs.length c] 22))) k64)
    rw [hm] at HL
    rw [km] at KL
    clear hm km h3
  case true.true =>
    have HS := Lib.hid (searchI 62 #[.pointer (some ⟨w.heap.size, 0, none⟩)] fv_cube_fn B d (cs.map (Value.int .i64)) (by simpa using k2) (fun k => lookI xs (cs.getD k 0)) 2 1
      (fun w' => Ext (w.alloc (.cells #[.slice A xs.length c] 22)) w') (w.alloc (.cells #[.slice A xs.length c] 22))
      (fun w' hw => k3.ext ((Ext.alloc w _).trans hw))
      (fun k hk w' hw => by
        have hk' : k < cs.length := by simpa using hk
        have hcell := ((Var1.new w 22 (.slice A xs.length c)).ext hw).cell
        have hc := cube_fn xs (cs.getD k 0) w.heap.size (.slice A xs.length c) w' h64 (k64.getD k hk') (HR.out.ext ((Ext.alloc w _).trans hw)) HM.out hcell
        rw [List.getElem_map, ← getD_int cs k hk']
        refine hc.mono ?_
        rintro e w'' ⟨rfl, hE⟩
        exact ⟨rfl, hw.trans hE⟩)
      (Ext.refl _))
    rw [List.length_map] at HS
    clear k3
    have hc := HC.out
    go_enter Tryd.func27, Tryd.ntmps27
    go_wp2_with fail
    refine HL.out.mono ?_
    rintro e w' ⟨rfl, rfl⟩
    go_wp2_with fail
    refine KL.out.mono ?_
    rintro e w' ⟨rfl, rfl⟩
    go_wp2_with (go_at_call 61; refine HS.out.mono ?_; rintro e w' ⟨rfl, hE⟩)
    go_ret
    exact ⟨ret_int (by unfold CubeV; rw [if_pos ⟨HM.out, KM.out⟩]; rfl), (Ext.alloc w _).trans hE⟩
  case true.false =>
    have hc := HC.out
    clear k3
    go_enter Tryd.func27, Tryd.ntmps27
    go_wp2_with fail
    refine HL.out.mono ?_
    rintro e w' ⟨rfl, rfl⟩
    go_wp2_with fail
    refine KL.out.mono ?_
    rintro e w' ⟨rfl, rfl⟩
    go_wp2
    go_ret
    exact ⟨ret_int (by unfold CubeV; rw [if_neg (by rw [KM.out]; simp)]), Ext.alloc w _⟩
  all_goals
    have hc := HC.out
    clear k3
    go_enter Tryd.func27, Tryd.ntmps27
    go_wp2_with fail
    refine HL.out.mono ?_
    rintro e w' ⟨rfl, rfl⟩
    go_wp2
    go_ret
    exact ⟨ret_int (by unfold CubeV; rw [if_neg (by rw [HM.out]; simp)]), Ext.alloc w _⟩

end Go.Proofs.YteokoaggkpjdeaaDoor
