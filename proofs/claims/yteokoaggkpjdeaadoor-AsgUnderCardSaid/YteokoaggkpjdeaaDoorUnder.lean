/- Walks of asg.Under and asg.Cnf. -/
import Derived.Test.YteokoaggkpjdeaaDoorOwn
namespace Go.Proofs.YteokoaggkpjdeaaDoor
open Go.RowKit

theorem fv_under1 : Fv Tryd.prog 47 := ⟨_, Tryd.func47, by kernel_rfl, by kernel_rfl⟩
theorem under_fn (xs : List Int) (lit : Int) (pa : Nat) (v : Value) (w : World) (h64 : All64 xs) (hl : I64 lit) (hr : RI w v xs) (hmay : mayB xs = true) (ha : w.cell? ⟨pa, 0, none⟩ = some v) :
    Calls Tryd.prog 47 #[.int .i64 lit, .pointer (some ⟨pa, 0, none⟩)] w fun e w' => e = .returned (.bool (lookI xs lit == 2)) ∧ Ext w w' := by
  have HM := Lib.hid hmay
  have HR := Lib.hid hr
  clear hmay
  obtain ⟨A, c, rfl, h1, h2, h3⟩ := hr
  clear h3
  go_enter Tryd.func47, Tryd.ntmps47
  go_wp2_with (go_at_call 48; refine (look_any xs lit _ _ h64 hl HR.out HM.out).mono ?_; rintro e w' ⟨rfl, hE⟩)
  go_ret
  exact ⟨rfl, hE⟩

theorem fv_cnf1 : Fv Tryd.prog 52 := ⟨_, Tryd.func52, by kernel_rfl, by kernel_rfl⟩
theorem cnf_fn (xs cs : List Int) (pa : Nat) (v u : Value) (w : World) (h64 : All64 xs) (k64 : All64 cs) (hr : RI w v xs) (kr : RI w u cs) (hmay : mayB xs = true) (ha : w.cell? ⟨pa, 0, none⟩ = some v) :
    Calls Tryd.prog 52 #[u, .pointer (some ⟨pa, 0, none⟩)] w fun e w' => e = .returned (.int .u8 (clauseV xs cs)) ∧ Ext w w' := by
  have HM := Lib.hid hmay
  have HR := Lib.hid hr
  clear hmay
  obtain ⟨A, c, rfl, h1, h2, h3⟩ := hr
  clear h3
  go_enter Tryd.func52, Tryd.ntmps52
  go_wp2_with (go_at_call 45; refine (clause_any xs cs _ _ _ h64 k64 HR.out kr HM.out).mono ?_; rintro e w' ⟨rfl, hE⟩)
  go_ret
  exact ⟨rfl, hE⟩

/-- A one-cell block's fact behind whatever has grown. -/
theorem box_at {w w' : World} {v : Value} {t : TypeId} (h : Ext (w.alloc (.cells #[v] t)) w') : w'.cell? ⟨w.heap.size, 0, none⟩ = some v ∧ Ext w w' :=
  ⟨((Var1.new w t v).ext h).cell, (Ext.alloc w _).trans h⟩

set_option maxHeartbeats 1000000 in
theorem Cnf_any (xs : List Int) (f : List (List Int)) (v u : Value) (w : World) (h64 : All64 xs) (k64 : All64L f) (hr : RI w v xs) (kr : RLL w u f) (ht : f.length ≤ 20000 → total f ≤ 9223372036854775807) :
    Calls Tryd.prog 17 #[v, u] w fun e w' => e = .returned (.int .u8 (CnfV xs f)) ∧ Ext w w' := by
  cases hm : mayB xs <;> cases km : mayCnfB f
  all_goals
    have HM := Lib.hid hm
    have KM := Lib.hid km
    have HR := Lib.hid hr
    have KR := Lib.hid kr
    have HT := Lib.hid ht
    clear ht kr
    obtain ⟨A, c, rfl, h1, h2, h3⟩ := hr
    have HC := Lib.hid (Var1.new w 22 (.slice A xs.length c)).cell
    have HL := Lib.hid (may_any _ xs _ (HR.out.ext (Ext.alloc w (.cells #[.slice A xs.length c] 22))) h64)
    have KL := Lib.hid (mayCnf_any _ f _ (KR.out.ext' (Ext.alloc w (.cells #[.slice A xs.length c] 22))) k64 HT.out)
    rw [hm] at HL
    rw [km] at KL
    clear hm km h3
    have hc := HC.out
    go_enter Tryd.func17, Tryd.ntmps17
  case true.true =>
    go_wp2_with fail
    refine HL.out.mono ?_
    rintro e w' ⟨rfl, rfl⟩
    go_wp2_with fail
    refine KL.out.mono ?_
    rintro e w1 ⟨rfl, hE1⟩
    obtain ⟨hc1, hE⟩ := box_at hE1
    have HE1 := Lib.hid hE1
    have HE := Lib.hid hE
    clear hE hE1 hc
    obtain ⟨B, d, vs, rfl, k1, k2, k3, k4, k5⟩ := KR.out
    have HS := Lib.hid (searchL 52 #[.pointer (some ⟨w.heap.size, 0, none⟩)] fv_cnf1 B d vs k2 (fun k => clauseV xs (f.getD k [])) 2 1
      (fun w' => Ext w1 w') w1
      (fun w' hw => k3.ext (HE.out.trans hw))
      (fun k hk w' hw => by
        have hk' : k < f.length := by rw [← k4]; exact hk
        obtain ⟨hcell, hE'⟩ := box_at (HE1.out.trans hw)
        have hg := getD_of f k hk'
        have hc := cnf_fn xs (f.getD k []) w.heap.size _ vs[k] w' h64 (by rw [hg]; exact k64 _ (List.getElem_mem hk')) (HR.out.ext hE') (by rw [hg]; exact (k5 k hk hk').ext hE') HM.out hcell
        refine hc.mono ?_
        rintro e w'' ⟨rfl, hE⟩
        exact ⟨rfl, hw.trans hE⟩)
      (Ext.refl _))
    have K4 := Lib.hid k4
    clear k3 k5 k4
    go_wp2_with (go_at_call 51; refine HS.out.mono ?_; rintro e w' ⟨rfl, hE⟩)
    go_ret
    exact ⟨ret_int (by unfold CnfV; rw [if_pos ⟨HM.out, KM.out⟩, K4.out]; rfl), HE.out.trans hE⟩
  case true.false =>
    go_wp2_with fail
    refine HL.out.mono ?_
    rintro e w' ⟨rfl, rfl⟩
    go_wp2_with fail
    refine KL.out.mono ?_
    rintro e w1 ⟨rfl, hE1⟩
    go_wp2
    go_ret
    exact ⟨ret_int (by unfold CnfV; rw [if_neg (by rw [KM.out]; simp)]), (Ext.alloc w _).trans hE1⟩
  all_goals
    go_wp2_with fail
    refine HL.out.mono ?_
    rintro e w' ⟨rfl, rfl⟩
    go_wp2
    go_ret
    exact ⟨ret_int (by unfold CnfV; rw [if_neg (by rw [HM.out]; simp)]), Ext.alloc w _⟩

def PostUnder (w : World) (r : List (List Int)) (e : Ending) (w' : World) : Prop := ∃ v, e = .returned v ∧ OwnLL w' w.heap.size v r ∧ Ext w w'

set_option maxHeartbeats 2000000 in
theorem Under_any (xs : List Int) (f : List (List Int)) (v u : Value) (w : World) (h64 : All64 xs) (k64 : All64L f) (hr : RI w v xs) (kr : RLL w u f) (ht : f.length ≤ 20000 → total f ≤ 9223372036854775807) :
    Calls Tryd.prog 14 #[v, u] w (PostUnder w (UnderV xs f)) := by
  cases hm : mayB xs <;> cases km : mayCnfB f
  all_goals
    have HM := Lib.hid hm
    have KM := Lib.hid km
    have HR := Lib.hid hr
    have KR := Lib.hid kr
    have HT := Lib.hid ht
    clear ht kr
    obtain ⟨A, c, rfl, h1, h2, h3⟩ := hr
    have HC := Lib.hid (Var1.new w 22 (.slice A xs.length c)).cell
    have HL := Lib.hid (may_any _ xs _ (HR.out.ext (Ext.alloc w (.cells #[.slice A xs.length c] 22))) h64)
    have KL := Lib.hid (mayCnf_any _ f _ (KR.out.ext' (Ext.alloc w (.cells #[.slice A xs.length c] 22))) k64 HT.out)
    rw [hm] at HL
    rw [km] at KL
    clear hm km h3
    have hc := HC.out
    go_enter Tryd.func14, Tryd.ntmps14
  case true.true =>
    go_wp2_with fail
    refine HL.out.mono ?_
    rintro e w' ⟨rfl, rfl⟩
    go_wp2_with fail
    refine KL.out.mono ?_
    rintro e w1 ⟨rfl, hE1⟩
    have HE1 := Lib.hid hE1
    clear hE1 hc
    obtain ⟨B, d, vs, rfl, k1, k2, k3, k4, k5⟩ := KR.out
    have K3 := Lib.hid k3
    have K4 := Lib.hid k4
    have K5 := Lib.hid k5
    clear k3 k5 k4
    obtain ⟨i0, hi, hz0, hz1, hz2⟩ := info_parts info_ints
    have HI := Lib.hid hi
    have HZ := Lib.hid hz0
    have HZ1 := Lib.hid hz1
    have HZ2 := Lib.hid hz2
    clear hi hz0 hz1 hz2
    go_wp2
    go_loopw [5, 18] (fun o i wr => ∃ (k : Nat), k ≤ vs.length ∧ i = .int .i64 k ∧ Hid (Ext (w.alloc (.cells #[.slice A xs.length c] 22)) wr) ∧ Hid (OwnLL wr (w.heap.size + 1) o (underL xs (f.take k)))) (fun _ i _ => vs.length - (intOf i).toNat)
    case atStart => exact ⟨0, Nat.zero_le _, rfl, HE1, OwnLL.nil _ _⟩
    case round =>
      obtain ⟨k, hk, rfl, HK, HP⟩ := hrel
      by_cases hlt : k < vs.length
      · have hkf : k < f.length := by rw [← K4.out]; exact hlt
        obtain ⟨hcell, hE⟩ := box_at HK.out
        have hrow := K3.out.ext hE
        obtain ⟨ad, rfl, hvk⟩ := hrow k hlt
        have HKR := Lib.hid ((K5.out k hlt hkf).ext hE)
        have HKE := Lib.hid hE
        have hk64 := k64 _ (List.getElem_mem hkf)
        clear hrow hE
        have HCL := Lib.hid (clause_any xs f[k] _ _ _ h64 hk64 (HR.out.ext HKE.out) HKR.out HM.out)
        by_cases hcv : clauseV xs f[k] = 1
        · have hcb : (clauseV xs f[k] != 1) = false := by simp [hcv]
          have HCV := Lib.hid hcv
          clear hcv
          go_wp2_with (go_at_call 45; refine HCL.out.mono ?_; rintro e w2 ⟨rfl, hE2⟩; have HE2 := Lib.hid hE2; clear hE2)
          go_round
          case rel => exact ⟨k + 1, by omega, by go_num, HK.out.trans HE2.out, by rw [underL_take xs f k hkf, if_pos HCV.out, List.append_nil]; exact HP.out.ext HE2.out⟩
          case measure => simp [intOf]; omega
        · have hcb : (clauseV xs f[k] != 1) = true := by simp [hcv]
          have HCV := Lib.hid hcv
          clear hcv
          go_wp2_with fail
          refine HCL.out.mono ?_
          rintro e w2 ⟨rfl, hE2⟩
          have HE2 := Lib.hid hE2
          clear hE2 hcell hvk
          go_wp2_with fail
          refine (cloneI_any _ _ _ (HKR.out.ext HE2.out) ?_).mono ?_
          · have := lens_le f (k + 1)
            have := may_len (mayCnfB_get KM.out k hkf)
            omega
          rintro e w3 ⟨cl, rfl, hcl, hE3⟩
          have HCl := Lib.hid hcl
          have HE3 := Lib.hid hE3
          clear hE3 hcl
          go_wp2_with fail
          refine (deleteI 47 _ fv_under1 _ cl f[k] (fun x => lookI xs x == 2) _ HCl.out ?_).mono ?_
          · intro x hx w4 hg
            have hE4 : Ext (w.alloc (.cells #[.slice A xs.length c] 22)) w4 := ((HK.out.trans HE2.out).trans HE3.out).grown hg (fun g hgv => by
              have := (own_typed HCl.out hgv).1
              have := (HK.out.trans HE2.out).size
              omega)
            obtain ⟨hcell4, hE0⟩ := box_at hE4
            exact under_fn xs x _ _ w4 h64 (hk64 x hx) (HR.out.ext hE0) HM.out hcell4
          rintro e w4 ⟨dv, rfl, hdv, hg4⟩
          have HD := Lib.hid hdv
          have HG4 := Lib.hid hg4
          have hE4 : Ext w2 w4 := HE3.out.grown hg4 (fun g hgv => (own_typed HCl.out hgv).1)
          have HE4 := Lib.hid hE4
          clear hdv hg4 hE4
          obtain ⟨DA, dn, dc, rfl⟩ : ∃ A n c, dv = .slice A n c := by obtain ⟨A, c, h, -⟩ := own_row HD.out; exact ⟨A, _, c, h⟩
          obtain ⟨us, ho, hol, hoi⟩ := HP.out.ext (HE2.out.trans HE4.out)
          have HO := Lib.hid (own_ext ho (Ext.alloc w4 (.cells #[.slice DA dn dc] 22)))
          have HOL := Lib.hid hol
          have HOI := Lib.hid hoi
          have HDI : Hid (OwnI w4 (w.heap.size + 1) (.slice DA dn dc) (f[k].filter (fun x => !(lookI xs x == 2)))) := by
            have := HD.out
            rw [List.length_map] at this
            exact own_lower this (Ext.alloc_size (HK.out.trans HE2.out))
          have hul := underL_len xs (f.take k)
          rw [List.length_take] at hul
          have hbase : w.heap.size + 1 ≤ w4.heap.size := Ext.alloc_size ((HK.out.trans HE2.out).trans HE4.out)
          clear ho hol hoi
          dsimp only
          go_wp2_with (at_builtin; refine wpList_append_own _ rfl (.tmp 26) (.tmp 31) 23 rfl (w.heap.size + 1) 22 i0 (.slice none 0 0) 1 24 Tryd.underlying23 HI.out HZ.out HZ1.out HZ2.out rfl (by decide) _ us.length us rfl HO.out ⟨w4.heap.size, 0, none⟩ 1 1 [.slice DA dn dc] rfl rfl (one_cell w4 _ _) (by simp [Value.oneCell']) (by have := HOL.out; have := mayCnfB_len KM.out; unfold maxLen; omega) (by have := HOL.out; have := mayCnfB_len KM.out; omega) (by simp; omega) ?_; intro v' w5 ho5 hg5 _; have HO5 := Lib.hid ho5; have HG5 := Lib.hid hg5; clear ho5 hg5)
          go_round
          case rel =>
            have e4 : Ext w4 (w4.alloc (.cells #[.slice DA dn dc] 22)) := Ext.alloc w4 _
            refine ⟨k + 1, by omega, by go_num, ?_, ?_⟩
            · refine (((HK.out.trans HE2.out).trans HE4.out).trans e4).grown HG5.out (fun g hg => ?_)
              have := (own_typed HO.out hg).1
              simpa using this
            · rw [underL_take xs f k hkf, if_neg HCV.out]
              exact OwnLL.snoc HOL.out (fun j hj hj' => own_ext (HOI.out j hj hj') e4) HO.out (own_ext HDI.out e4) HO5.out HG5.out
          case measure => simp [intOf]; omega
      · obtain rfl : k = vs.length := by omega
        go_wp2
        go_ret
        refine ⟨_, rfl, ?_, (Ext.alloc w _).trans HK.out⟩
        have := HP.out
        rw [K4.out, List.take_length] at this
        unfold UnderV
        rw [if_pos ⟨HM.out, KM.out⟩]
        exact this.lower (by omega)
  case true.false =>
    go_wp2_with fail
    refine HL.out.mono ?_
    rintro e w' ⟨rfl, rfl⟩
    go_wp2_with fail
    refine KL.out.mono ?_
    rintro e w1 ⟨rfl, hE1⟩
    go_wp2
    go_ret
    exact ⟨_, rfl, by unfold UnderV; rw [if_neg (by rw [KM.out]; simp)]; exact OwnLL.nil _ _, (Ext.alloc w _).trans hE1⟩
  all_goals
    go_wp2_with fail
    refine HL.out.mono ?_
    rintro e w' ⟨rfl, rfl⟩
    go_wp2
    go_ret
    exact ⟨_, rfl, by unfold UnderV; rw [if_neg (by rw [HM.out]; simp)]; exact OwnLL.nil _ _, Ext.alloc w _⟩

end Go.Proofs.YteokoaggkpjdeaaDoor
