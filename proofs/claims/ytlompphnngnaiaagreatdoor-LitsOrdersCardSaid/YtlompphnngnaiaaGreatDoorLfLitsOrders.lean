/- Walk of slices.CompactFunc over lists of integers, with the closure of lits.Sort. Walk of lits.Sort: the library's sort by the order of lists, equal neighbours struck, each list cloned. Walk of LitsOrders' closure. What LitsOrders says, in plain words. Further steps of a region in whatever order: operations that are not wanted, negations, choices, elements of slices. The walk of the law LitsOrders. -/
import Derived.Test.YtlompphnngnaiaaGreatDoorLb
import Derived.Test.YtlompphnngnaiaaGreatDoorLc
import Derived.Test.YtlompphnngnaiaaGreatDoorLa
import Derived.Test.YtlompphnngnaiaaGreatDoorLd
import Derived.Test.YtlompphnngnaiaaGreatDoorLeLitsOrders
namespace Go.Proofs.YtlompphnngnaiaaGreatDoor
open Go.RowKit

set_option maxHeartbeats 400000 in
theorem sort1_fn (xs ys : List Int) (v u : Value) (w : World) (hr : RI w v xs) (kr : RI w u ys) :
    Calls Tryz.prog 84 #[v, u] w fun e w' => e = .returned (.bool (decide (xs = ys))) ∧ ∃ n, w' = w.drewN n := by
  have H := Lib.hid (equal_any xs ys v u w hr kr)
  clear hr kr
  go_enter Tryz.func84, Tryz.ntmps84
  go_wp2_with (go_at_call 85; refine H.out.mono ?_; rintro e w' ⟨rfl, hE⟩; have HE := Lib.hid hE; clear hE)
  go_ret
  exact ⟨rfl, HE.out⟩
theorem fv_sort1 : Fv Tryz.prog 84 := ⟨_, Tryz.func84, by kernel_rfl, by kernel_rfl⟩

/-- Which element is as the one before it. -/
def dups : Option (List Int) → List (Value × List Int) → List ((Value × List Int) × Bool)
  | _, [] => []
  | pr, p :: l => (p, decide (pr = some p.2)) :: dups (some p.2) l
theorem dups_len : ∀ (ps : List (Value × List Int)) (pr : Option (List Int)), (dups pr ps).length = ps.length
  | [], _ => rfl
  | p :: l, pr => by rw [dups, List.length_cons, dups_len l, List.length_cons]
theorem dups_fst : ∀ (ps : List (Value × List Int)) (pr : Option (List Int)), (dups pr ps).map Prod.fst = ps
  | [], _ => rfl
  | p :: l, pr => by rw [dups, List.map_cons, dups_fst l]
theorem dups_snd : ∀ (ps : List (Value × List Int)) (pr : Option (List Int)) (j : Nat) (hj : j < (dups pr ps).length) (h : j < ps.length), (dups pr ps)[j].2 = decide ((if j = 0 then pr else some (ps[j - 1]'(by omega)).2) = some ps[j].2)
  | [], _, _, _, h => absurd h (Nat.not_lt_zero _)
  | p :: l, pr, 0, _, _ => by simp [dups]
  | p :: l, pr, j + 1, hj, h => by
    have ih := dups_snd l (some p.2) j (by simpa [dups] using hj) (by simpa using h)
    simp only [dups, List.getElem_cons_succ]
    rw [ih]
    cases j with
    | zero => simp
    | succ j => simp
theorem dups_at (ps : List (Value × List Int)) (k : Nat) (hj : k + 1 < (dups none ps).length) (h : k + 1 < ps.length) : (dups none ps)[k + 1].2 = decide (ps[k + 1].2 = ps[k].2) := by
  rw [dups_snd ps none (k + 1) hj h, if_neg (by omega)]
  rw [decide_eq_decide]
  exact ⟨fun e => by injection e with e; exact e.symm, fun e => by rw [e]; rfl⟩
theorem dups_some : ∀ (ps : List (Value × List Int)) (c : List Int), compactL (c :: ps.map Prod.snd) = c :: ((dups (some c) ps).filter fun q => !q.2).map (fun q => q.1.2)
  | [], c => rfl
  | p :: l, c => by
    rw [List.map_cons, compactL, dups_some l p.2, dups, List.filter_cons]
    by_cases h : c = p.2
    · rw [if_pos h, if_neg (by simp [h]), h]
    · rw [if_neg h, if_pos (by simp [h]), List.map_cons]
theorem dups_none (ps : List (Value × List Int)) : ((dups none ps).filter fun q => !q.2).map (fun q => q.1.2) = compactL (ps.map Prod.snd) := by
  cases ps with
  | nil => rfl
  | cons p l =>
    rw [List.map_cons, dups_some l p.2, dups, List.filter_cons, if_pos (by simp), List.map_cons]

def PostCmpF (w0 : World) (ps : List (Value × List Int)) (e : Ending) (w' : World) : Prop :=
  ∃ (v' : Value) (rs : List (Value × List Int)), e = .returned v' ∧ w'.ownsRow w0.heap.size 22 1 v' rs.length (rs.map Prod.fst) ∧ Ext w0 w' ∧ (∀ p ∈ rs, p ∈ ps) ∧ rs.map Prod.snd = compactL (ps.map Prod.snd)

theorem zero_ints : ∀ w, (zeroValue 22).run Tryz.prog w = .ok (.slice none 0 0) w := fun _ => by kernel_rfl

theorem compactL_short (l : List (List Int)) (h : l.length < 2) : compactL l = l := by
  match l, h with
  | [], _ => rfl
  | [c], _ => rfl
  | _ :: _ :: _, h => simp at h; omega

set_option maxHeartbeats 4000000 in
theorem compactFunc_any (ps : List (Value × List Int)) (v : Value) (w0 w : World) (hE : Ext w0 w) (hown : w.ownsRow w0.heap.size 22 1 v ps.length (ps.map Prod.fst)) (hp : ∀ p ∈ ps, RI w0 p.1 p.2) (hl : ps.length ≤ 100000000) :
    Calls Tryz.prog 83 #[v, .func (.func 84) #[] #[]] w (PostCmpF w0 ps) := by
  have HO := Lib.hid hown
  have HP := Lib.hid hp
  have HE := Lib.hid hE
  by_cases hn : ps.length < 2
  · have hrow := own_row (show w.ownsRow w0.heap.size 22 1 v (ps.map Prod.fst).length (ps.map Prod.fst) by rw [List.length_map]; exact hown)
    rw [List.length_map] at hrow
    obtain ⟨A, c, rfl, hc1, hc2, -⟩ := hrow
    have hnb : decide ((ps.length : Int) < 2) = true := by rw [decide_eq_true_eq]; omega
    clear hown hp hE
    go_enter Tryz.func83, Tryz.ntmps83
    go_wp2
    go_ret
    exact ⟨_, ps, rfl, HO.out, HE.out, fun p hp => hp, (compactL_short _ (by rw [List.length_map]; exact hn)).symm⟩
  · obtain ⟨-, h | ⟨g, c, cur, rfl, hb, hg, hn', hm, hsz, ht⟩⟩ := hown
    · exact absurd h.2 (by omega)
    have HT := Lib.hid ht
    have HG : Hid (Blk w g 22 cur.toList) := Lib.hid (by unfold Blk; simpa using hg)
    have HSZ := Lib.hid hsz
    have hmc : c ≤ 9223372036854775807 := by unfold maxLen at hm; omega
    have HB := Lib.hid hb
    have HM := Lib.hid hm
    have hcur : ∀ j (h : j < ps.length), cur.toList[j]? = some ps[j].1 := fun j hj => by
      have := congrArg (fun l => l[j]?) ht
      rw [Nat.mul_one] at this
      simp only [List.getElem?_take, if_pos hj, List.getElem?_map, List.getElem?_eq_getElem hj] at this
      exact this
    have HCUR := Lib.hid hcur
    clear ht hg hsz hb hm hp hE hcur
    obtain ⟨n, hnn⟩ : ∃ n, n = ps.length := ⟨_, rfl⟩
    have HN := Lib.hid hnn
    rw [← hnn] at hn hn' hl ⊢
    clear hnn
    go_enter Tryz.func83, Tryz.ntmps83
    go_wp2
    go_loopg [5] n (fun gn i wr => ∃ k : Nat, k + 1 ≤ n ∧ gn + k = n ∧ i = .int .i64 ((k : Int) + 1) ∧ Hid ((∃ q, wr = w.drewN q) ∧ ∀ j (h : j < (dups none ps).length), j ≤ k → (dups none ps)[j].2 = false))
    case atStart =>
      refine ⟨0, by omega, by omega, rfl, ⟨0, rfl⟩, fun j h hj => ?_⟩
      have hj0 : j = 0 := by omega
      subst hj0
      rw [dups_snd ps none 0 h (by rw [dups_len] at h; exact h)]
      simp
    case round =>
      obtain ⟨k, hk, hgk, rfl, HI⟩ := hrel
      obtain ⟨wk, rfl⟩ : ∃ wk : World, wk = wr := ⟨_, rfl⟩
      have HEK : Hid (Ext w wk) := Lib.hid (by obtain ⟨q, e⟩ := HI.out.1; rw [e]; exact Ext.drewN _ _)
      have HBK := Lib.hid (HG.out.ext HEK.out)
      by_cases hlt : k + 1 < n
      · have h1 : k < ps.length := by have := HN.out; omega
        have h2 : k + 1 < ps.length := by have := HN.out; omega
        have c0 : wk.cell? ⟨g, k, none⟩ = some ps[k].1 := by rw [HBK.out.cell, HCUR.out k h1]
        have c1 : wk.cell? ⟨g, k + 1, none⟩ = some ps[k + 1].1 := by rw [HBK.out.cell, HCUR.out (k + 1) h2]
        have hda := dups_at ps k (by rw [dups_len]; exact h2) h2
        have hcl : ∀ m, Calls Tryz.prog 84 #[ps[k + 1].1, ps[k].1] (wk.drewN m) fun e w' => e = .returned (.bool (decide (ps[k + 1].2 = ps[k].2))) ∧ ∃ q, w' = wk.drewN q := fun m => by
          have e0 : Ext w0 (wk.drewN m) := HE.out.trans (HEK.out.trans (Ext.drewN _ _))
          refine (sort1_fn _ _ _ _ (wk.drewN m) ((HP.out _ (List.getElem_mem h2)).ext e0) ((HP.out _ (List.getElem_mem h1)).ext e0)).mono ?_
          rintro e w' ⟨he, q, rfl⟩
          exact ⟨he, m + q, drewN_two _ _ _⟩
        have r0 : ∃ A a c, ps[k].1 = .slice A a c := by obtain ⟨A, c, e, -⟩ := HP.out _ (List.getElem_mem h1); exact ⟨A, _, c, e⟩
        have r1 : ∃ A a c, ps[k + 1].1 = .slice A a c := by obtain ⟨A, c, e, -⟩ := HP.out _ (List.getElem_mem h2); exact ⟨A, _, c, e⟩
        obtain ⟨A0, a0, d0, e0⟩ := r0
        obtain ⟨A1, a1, d1, e1⟩ := r1
        rw [e0] at c0 hcl
        rw [e1] at c1 hcl
        have HCL := Lib.hid hcl
        have HDA := Lib.hid hda
        clear hcl hda e0 e1
        go_upto_region 6 with fail
        cases hdd : decide (ps[k + 1].2 = ps[k].2)
        · rw [hdd] at HCL HDA
          clear hdd
          refine wp_region_quiet_lit (by kernel_rfl) (by kernel_rfl) ?_
          repeat (go_big_quiet_step (fail))
          refine wpQuiet_callv (.tmp 18) #[.tmp 22, .tmp 27] _ rfl rfl #[] rfl fv_sort1 #[.slice A1 a1 d1, .slice A0 a0 d0] (by simp only [List.map_toArray, List.map_cons, List.map_nil]; rfl) _ HCL.out ?_
          simp only [Act.put, List.setIfInBounds_toArray, List.set_cons_zero, List.set_cons_succ]
          repeat (go_big_quiet_step (fail))
          refine wpQuiet_nil ?_
          intro _ hw'
          obtain ⟨nq, hw''⟩ := hw'
          subst hw''
          go_wp2
          go_roundg (n - (k + 1))
          case measure => omega
          case rel =>
            refine ⟨k + 1, by omega, by omega, by go_num, ?_, fun j hj hjk => ?_⟩
            · obtain ⟨q, e⟩ := HI.out.1
              exact ⟨_, by rw [e, drewN_two]⟩
            · by_cases e : j = k + 1
              · subst e; exact HDA.out
              · exact HI.out.2 j hj (by omega)
        · rw [hdd] at HCL HDA
          clear hdd
          refine wp_region_quiet_lit (by kernel_rfl) (by kernel_rfl) ?_
          repeat (go_big_quiet_step (fail))
          refine wpQuiet_callv (.tmp 18) #[.tmp 22, .tmp 27] _ rfl rfl #[] rfl fv_sort1 #[.slice A1 a1 d1, .slice A0 a0 d0] (by simp only [List.map_toArray, List.map_cons, List.map_nil]; rfl) _ HCL.out ?_
          simp only [Act.put, List.setIfInBounds_toArray, List.set_cons_zero, List.set_cons_succ]
          repeat (go_big_quiet_step (fail))
          refine wpQuiet_nil ?_
          intro _ hw'
          obtain ⟨nq, hw''⟩ := hw'
          subst hw''
          generalize hW : wk.drewN nq = W1
          have HE1 : Hid (Ext w W1) := Lib.hid (by rw [← hW]; exact HEK.out.trans (Ext.drewN wk nq))
          have HB1 := Lib.hid (HG.out.ext HE1.out)
          clear hW c0 c1
          have hsl := slice_from Tryz.underlying33 info_ints (some ⟨g, 0, none⟩) n c (k + 1) (by omega)
          rw [if_neg (by omega), Option.map_some, addr0, Nat.mul_one] at hsl
          go_wp2_with fail
          have HQ : Hid ((dups none ps).length = n) := Lib.hid (by rw [dups_len]; exact HN.out.symm)
          have HF : Hid (∀ j (hj : j < (dups none ps).length) (h : j < ps.length), (dups none ps)[j].1 = ps[j]) := Lib.hid (fun j hj h => by
            have := congrArg (fun l => l[j]?) (dups_fst ps none)
            simp only [List.getElem?_map, List.getElem?_eq_getElem hj, List.getElem?_eq_getElem h, Option.map_some] at this
            injection this)
          go_loopg [5, 7] n (fun gn i j wr => ∃ (x d : Nat) (cu : List Value), k + 1 + (d + 1) ≤ n ∧ x < k + 1 + (d + 1) ∧ gn + d = n ∧ i = .int .i64 (x : Int) ∧ j = .int .i64 ((d : Int) + 1) ∧ Hid (Ext w0 wr ∧ Blk wr g 22 cu ∧ cu.length = c ∧ Moved (fun q : (Value × List Int) × Bool => q.1.1) (fun q => q.2) (dups none ps) cu x (k + 1 + (d + 1)) ∧ ∀ (h : k + 1 + d < ps.length), cu[k + 1 + d]? = some ps[k + 1 + d].1))
          case atStart =>
            refine ⟨k + 1, 0, cur.toList, by omega, by omega, by omega, by go_num, rfl, HE.out.trans HE1.out, HB1.out, by have := HSZ.out; simpa using this, ?_, fun h => HCUR.out _ h⟩
            refine Moved.start (by have := HQ.out; omega) HDA.out (fun j hj => HI.out.2 j (by have := HQ.out; omega) (by omega)) (fun j hj => ?_) (by have := HQ.out; have := HSZ.out; simp; omega)
            have hj' : j < ps.length := by have := HQ.out; have := HN.out; omega
            rw [HCUR.out j hj', HF.out j hj hj']
          case round =>
            obtain ⟨x, d, cu, hb1, hb2, hgd, rfl, rfl, HS⟩ := hrel
            obtain ⟨wi, rfl⟩ : ∃ wi : World, wi = wr := ⟨_, rfl⟩
            by_cases hlt2 : k + 1 + (d + 1) < n
            · have h3 : k + 1 + d < ps.length := by have := HN.out; omega
              have h4 : k + 1 + d + 1 < ps.length := by have := HN.out; omega
              have hq4 : k + 1 + d + 1 < (dups none ps).length := by have := HQ.out; omega
              have c0 : wi.cell? ⟨g, k + 1 + d, none⟩ = some ps[k + 1 + d].1 := by rw [HS.out.2.1.cell, HS.out.2.2.2.2 h3]
              have c1 : wi.cell? ⟨g, k + 1 + (d + 1), none⟩ = some ps[k + 1 + d + 1].1 := by rw [HS.out.2.1.cell]; exact (HS.out.2.2.2.1.2.1 (k + 1 + d + 1) hq4 (by omega)).trans (congrArg some (congrArg Prod.fst (HF.out _ hq4 h4)))
              have hda2 := dups_at ps (k + 1 + d) hq4 h4
              have hcl : ∀ m, Calls Tryz.prog 84 #[ps[k + 1 + d + 1].1, ps[k + 1 + d].1] (wi.drewN m) fun e w' => e = .returned (.bool (decide (ps[k + 1 + d + 1].2 = ps[k + 1 + d].2))) ∧ ∃ q, w' = wi.drewN q := fun m => by
                have e0 : Ext w0 (wi.drewN m) := HS.out.1.trans (Ext.drewN _ _)
                refine (sort1_fn _ _ _ _ (wi.drewN m) ((HP.out _ (List.getElem_mem h4)).ext e0) ((HP.out _ (List.getElem_mem h3)).ext e0)).mono ?_
                rintro e w' ⟨he, q, rfl⟩
                exact ⟨he, m + q, drewN_two _ _ _⟩
              have r0 : ∃ A a c, ps[k + 1 + d].1 = .slice A a c := by obtain ⟨A, c, e, -⟩ := HP.out _ (List.getElem_mem h3); exact ⟨A, _, c, e⟩
              have r1 : ∃ A a c, ps[k + 1 + d + 1].1 = .slice A a c := by obtain ⟨A, c, e, -⟩ := HP.out _ (List.getElem_mem h4); exact ⟨A, _, c, e⟩
              obtain ⟨A2, a2, d2, e2⟩ := r0
              obtain ⟨A3, a3, d3, e3⟩ := r1
              have HNX : Hid (∀ cu' : List Value, cu'[k + 1 + (d + 1)]? = some (.slice A3 a3 d3) → ∀ (h : k + 1 + (d + 1) < ps.length), cu'[k + 1 + (d + 1)]? = some ps[k + 1 + (d + 1)].1) := Lib.hid (fun cu' h5 h => h5.trans (congrArg some e3.symm))
              have HEN : Hid ((dups none ps)[k + 1 + d + 1].1.1 = .slice A3 a3 d3) := Lib.hid (by rw [HF.out _ hq4 h4]; exact e3)
              rw [e2] at c0 hcl
              rw [e3] at c1 hcl
              have HC1 := Lib.hid c1
              have hfz := HS.out.2.1.free x
              obtain ⟨u0, hu0⟩ : ∃ u0, cu[x]? = some u0 := ⟨_, List.getElem?_eq_getElem (by have := HS.out.2.2.1; have := HS.out.2.2.2.1.2.2.2.2; have := HQ.out; omega)⟩
              have c2 : wi.cell? ⟨g, x, none⟩ = some u0 := by rw [HS.out.2.1.cell, hu0]
              have HXN : Hid (x < n) := Lib.hid (by omega)
              cases hdd : decide (ps[k + 1 + d + 1].2 = ps[k + 1 + d].2)
              all_goals
                rw [hdd] at hcl hda2
                have HCL2 := Lib.hid hcl
                have HDA2 := Lib.hid hda2
                clear hcl hda2 hdd e2 e3 hu0
                go_upto_region 11 with fail
                refine wp_region_quiet_lit (by kernel_rfl) (by kernel_rfl) ?_
                repeat (go_big_quiet_step (fail))
                refine wpQuiet_callv (.tmp 38) #[.tmp 42, .tmp 47] _ rfl rfl #[] rfl fv_sort1 #[.slice A3 a3 d3, .slice A2 a2 d2] (by simp only [List.map_toArray, List.map_cons, List.map_nil]; rfl) _ HCL2.out ?_
                simp only [Act.put, List.setIfInBounds_toArray, List.set_cons_zero, List.set_cons_succ]
                repeat (go_big_quiet_step (fail))
                refine wpQuiet_nil ?_
                intro _ hw'
                obtain ⟨nq, hw''⟩ := hw'
                subst hw''
              · go_wp2
                go_roundg (n - (d + 1))
                case measure => omega
                case rel =>
                  refine ⟨x + 1, d + 1, cu.set x (.slice A3 a3 d3), by omega, by omega, by omega, by go_num, by go_num, ?_, (HS.out.2.1.ext (Ext.drewN wi nq)).set x _, by rw [List.length_set]; exact HS.out.2.2.1, ?_, HNX.out _ ?_⟩
                  · exact (Upd.set _ g x _).ext (HS.out.1.trans (Ext.drewN _ _)) HB.out
                  · have := HS.out.2.2.2.1.keep hq4 HDA2.out
                    have e9 : (dups none ps)[k + 1 + (d + 1)].1.1 = .slice A3 a3 d3 := HEN.out
                    rw [e9] at this
                    exact this
                  · rw [List.getElem?_set_ne (by omega), ← HS.out.2.1.cell]
                    exact HC1.out
              · go_wp2
                go_roundg (n - (d + 1))
                case measure => omega
                case rel =>
                  refine ⟨x, d + 1, cu, by omega, by omega, by omega, rfl, by go_num, HS.out.1.trans (Ext.drewN _ _), HS.out.2.1.ext (Ext.drewN wi nq), HS.out.2.2.1, HS.out.2.2.2.1.drop hq4 HDA2.out, HNX.out _ ?_⟩
                  rw [← HS.out.2.1.cell]
                  exact HC1.out
            · have hbn : k + 1 + (d + 1) = n := by omega
              have HBN := Lib.hid hbn
              have hB := HS.out.2.1
              have hlc : cu.length = c := HS.out.2.2.1
              have hsl1 := slice_from Tryz.underlying33 info_ints (some ⟨g, 0, none⟩) n c x (by omega)
              rw [if_neg (by omega), Option.map_some, addr0, Nat.mul_one] at hsl1
              have hsl2 := slice_to Tryz.underlying33 info_ints (some ⟨g, 0, none⟩) n c x (by omega)
              have hclr : ∀ ty, (Builtin.clear_ #[33] ty #[.slice (some ⟨g, x, none⟩) (n - x) (c - x)]).run Tryz.prog wi = .ok (.tuple #[]) (wi.setCells g x (List.replicate (n - x) (.slice none 0 0))) := fun ty =>
                Lib.run_clear_slice wi 33 22 ty _ Tryz.underlying33 zero_ints rfl rfl g x (n - x) (c - x) (by omega)
                  (fun j hj => by rw [hB.cell, List.getElem?_eq_getElem (by omega)]; rfl) (fun j _ => hB.free _)
              obtain ⟨hU, cu', hB', hlc', htk⟩ := setCells_keep g (List.replicate (n - x) (.slice none 0 0)) x hB
              have HU := Lib.hid hU
              have HB' := Lib.hid hB'
              have HL' := Lib.hid hlc'
              have HTK := Lib.hid htk
              have HLC := Lib.hid hlc
              clear hU hB' hlc' htk hlc hB hbn
              go_wp2
              go_ret
              have hmv := HS.out.2.2.2.1.1
              rw [HBN.out, show (dups none ps).take n = dups none ps from List.take_of_length_le (by have := HQ.out; omega)] at hmv
              have hlen : x = (((dups none ps).filter fun q => !q.2).map Prod.fst).length := by
                have h9 := congrArg List.length hmv
                rw [List.length_take, List.length_map] at h9
                rw [List.length_map, ← h9]
                have := HLC.out
                omega
              have hmf : ((dups none ps).filter fun q => !q.2).map (fun q => q.1.1) = (((dups none ps).filter fun q => !q.2).map Prod.fst).map Prod.fst := by rw [List.map_map]; rfl
              refine ⟨_, ((dups none ps).filter fun q => !q.2).map Prod.fst, rfl, ?_, HU.out.ext HS.out.1 HB.out, fun p hp => ?_, ?_⟩
              · have h5 := HB'.out
                unfold Blk at h5
                refine ⟨by simp, .inr ⟨g, c, cu'.toArray, ?_, HB.out, h5, by rw [← hlen]; omega, HM.out, ?_, ?_⟩⟩
                · rw [← hlen]; rfl
                · have := HL'.out; have := HLC.out; simp; omega
                · rw [← hlen, Nat.mul_one, ← hmf, ← hmv]
                  exact HTK.out
              · obtain ⟨q, hq, rfl⟩ := List.mem_map.1 hp
                have h6 : q.1 ∈ (dups none ps).map Prod.fst := List.mem_map.2 ⟨q, (List.mem_filter.1 hq).1, rfl⟩
                rw [dups_fst] at h6
                exact h6
              · rw [← dups_none, List.map_map]; rfl
      · have hkn : k + 1 = n := by omega
        have HKN := Lib.hid hkn
        go_wp2
        go_ret
        refine ⟨_, ps, rfl, ?_, HE.out.trans HEK.out, fun p hp => hp, ?_⟩
        · rw [← HN.out]
          have := own_ext HO.out HEK.out
          rwa [← HN.out] at this
        · rw [← dups_none, ← filter_none (p := fun q => q.2) (xs := dups none ps) (fun j hj => HI.out.2 j hj (by rw [dups_len] at hj; have := HN.out; have := HKN.out; omega)), List.filter_filter]
          simp only [Bool.and_self]
          rw [filter_none (p := fun q => q.2) (xs := dups none ps) (fun j hj => HI.out.2 j hj (by rw [dups_len] at hj; have := HN.out; have := HKN.out; omega))]
          have := congrArg (List.map Prod.snd) (dups_fst ps none)
          rw [List.map_map] at this
          exact this.symm
end Go.Proofs.YtlompphnngnaiaaGreatDoor
namespace Go.Proofs.YtlompphnngnaiaaGreatDoor
open Go.RowKit

section
variable {α : Type} [Inhabited α] {enc : α → Value}
theorem holds_blk {w : World} {g : Nat} {cur : Array Value} {e : TypeId} {ss : List α} (hb : w.heap[g]? = some (.cells cur e (0, 0))) (ht : cur.toList.take ss.length = ss.map enc) : Sort.Holds enc w g 0 ss.toArray := by
  have hB : Blk w g e cur.toList := by unfold Blk; simpa using hb
  intro j hj
  have hj' : j < ss.length := by simpa using hj
  refine ⟨?_, hB.free _⟩
  rw [Nat.zero_add, hB.cell]
  have h1 := congrArg (fun l => l[j]?) ht
  simp only [List.getElem?_take, if_pos hj', List.getElem?_map, List.getElem?_eq_getElem hj', Option.map_some] at h1
  rw [h1]
  simp [hj']
theorem sortW_heap {w : World} {g n : Nat} {os : Array Obj} {cur : Array Value} {e : TypeId} (d : Array α) (hb : w.heap[g]? = some (.cells cur e (0, 0))) :
    (sortWorld enc w g 0 n d os).heap[g]? = some (.cells (Sort.putCells enc 0 d cur) e (0, 0)) := by
  unfold sortWorld
  rw [Sort.heap_grow_old]
  · simp [Sort.putRow, Sort.mapBlock, Sort.ahead, Array.getElem?_modify, hb, Sort.onCells]
  · simpa using (Array.getElem?_eq_some_iff.1 hb).1
theorem sortW_grown {w : World} {g n : Nat} {os : Array Obj} (d : Array α) : w.grownBy (sortWorld enc w g 0 n d os) (some g) := by
  refine ⟨rfl, rfl, rfl, by simp [sortWorld], fun k hk hne => ?_⟩
  unfold sortWorld
  rw [Sort.heap_grow_old]
  · have : ¬ g = k := fun e => hne (by rw [e])
    simp [Sort.putRow, Sort.mapBlock, Sort.ahead, Array.getElem?_modify, this]
  · simpa using hk
theorem take_putc (cur : Array Value) (ts : List α) (h : ts.length ≤ cur.size) : (Sort.putCells enc 0 ts.toArray cur).toList.take ts.length = ts.map enc := by
  apply List.ext_getElem?
  intro j
  rw [List.getElem?_take, List.getElem?_map]
  by_cases hj : j < ts.length
  · rw [if_pos hj, Array.getElem?_toList]
    simp [Sort.putCells, hj, show j < cur.size by omega]
  · rw [if_neg hj, List.getElem?_eq_none (by omega)]; rfl
end

/-- A slice value with the list that it reads as. -/
abbrev Lp (w0 : World) : Type := { p : Value × List Int // RI w0 p.1 p.2 ∧ All64 p.2 }
instance (w0 : World) : Inhabited (Lp w0) := ⟨⟨(.slice none 0 0, []), RI.none _, fun _ h => by cases h⟩⟩
def lpF {w0 : World} (x y : Lp w0) : Int := cmpL x.1.2 y.1.2
theorem lpF_lt {w0 : World} (x y : Lp w0) : ltOf lpF x y = decide (llt x.1.2 y.1.2) := rfl
theorem swo_lp (w0 : World) : Sort.SWO (ltOf (lpF (w0 := w0))) := by
  refine ⟨fun x => ?_, fun x y z h k => ?_, fun x y z h k => ?_⟩
  · rw [lpF_lt, decide_eq_false_iff_not]; exact llt_irrefl _
  · rw [lpF_lt, decide_eq_true_eq] at *; exact llt_trans h k
  · rw [lpF_lt, decide_eq_false_iff_not] at *
    intro hz
    rcases llt_tri x.1.2 y.1.2 with a | a | a
    · exact h a
    · rw [a] at hz; exact k hz
    · exact k (llt_trans a hz)

theorem sortW_ext {α : Type} [Inhabited α] {enc : α → Value} {w0 w : World} (hE : Ext w0 w) {g n : Nat} {os : Array Obj} (hb : w0.heap.size ≤ g) (d : Array α) : Ext w0 (sortWorld enc w g 0 n d os) :=
  hE.grown (sortW_grown d) (fun _ hk => by cases hk; exact hb)

theorem attach_map {w0 : World} (ps : List (Lp w0)) : (ps.map Subtype.val).map Prod.fst = ps.map fun p => p.1.1 := by rw [List.map_map]; rfl

def PostSF (w0 : World) (v : Value) (ps : List (Value × List Int)) (e : Ending) (w' : World) : Prop :=
  ∃ qs : List (Value × List Int), e = .returned (.tuple #[]) ∧ w'.ownsRow w0.heap.size 22 1 v qs.length (qs.map Prod.fst) ∧ Ext w0 w' ∧ (∀ p, p ∈ qs ↔ p ∈ ps) ∧ qs.length = ps.length ∧ (qs.map Prod.snd).Pairwise (fun a b => ¬ llt b a)

theorem sortFL (w0 : World) (ps : List (Lp w0)) (v : Value) (w : World) (hE : Ext w0 w) (hown : w.ownsRow w0.heap.size 22 1 v ps.length (ps.map fun p => p.1.1)) (hl : ps.length ≤ 100000000) :
    Calls Tryz.prog 82 #[v, .func (.func 29) #[] #[]] w (PostSF w0 v (ps.map Subtype.val)) := by
  obtain ⟨h0, ⟨rfl, hz⟩ | ⟨g, cap, cur, rfl, hb, hg, hn, hm, hs, ht⟩⟩ := hown
  · have : ps = [] := List.length_eq_zero_iff.1 hz
    subst this
    refine (AnyF.slices_SortFunc_none (P := Tryz.prog) (ρ := Tryz.laysSlF6_f82_ren) { Tryz.laysSlF6_f82 with } none 0 _ w).mono ?_
    rintro e w' ⟨rfl, rfl⟩
    exact ⟨[], rfl, World.ownsRow_nil _ _ _ 1, hE, fun _ => Iff.rfl, rfl, List.Pairwise.nil⟩
  · refine (Tryz.slices_SortFunc_f82 (fun p : Lp w0 => p.1.1) (fun p => by obtain ⟨A, c, e, -⟩ := p.2.1; show p.1.1.oneCell' = true; rw [e]; rfl) lpF (swo_lp w0) 29 #[] g 0 cap ps.toArray w (enters_of Tryz.func29 (by kernel_rfl) rfl)
      (fun m os dk _ x y => ((Compare_any x.1.2 y.1.2 x.1.1 y.1.1 _ x.2.2 y.2.2 (x.2.1.ext (sortW_ext hE hb dk)) (y.2.1.ext (sortW_ext hE hb dk))).mono fun e w' ⟨he, n, o, ho⟩ => ⟨he, n, o, ho⟩))
      (holds_blk hg (by rw [Nat.mul_one] at ht; exact ht)) (Array.getElem?_eq_some_iff.1 hg).1 (by simp; omega)).mono ?_
    rintro e w' ⟨rfl, d', n, os, ⟨hsz, -, hperm⟩, hsort, rfl⟩
    have hdl : d'.toList.length = ps.length := by simpa using hsz
    have hp : d'.toList.Perm ps := by
      have h1 : d'.extract 0 ps.toArray.size = d' := by rw [← hsz]; simp
      have h2 : ps.toArray.extract 0 ps.toArray.size = ps.toArray := by simp
      rw [h1, h2] at hperm
      simpa using hperm
    refine ⟨d'.toList.map Subtype.val, rfl, ?_, sortW_ext hE hb d', fun p => (hp.map Subtype.val).mem_iff, by simp [hdl], ?_⟩
    · have h3 := sortW_heap (enc := fun p : Lp w0 => p.1.1) (n := n) (os := os) d' hg
      have h4 := take_putc (enc := fun p : Lp w0 => p.1.1) cur d'.toList (by omega)
      rw [hdl] at h4
      rw [attach_map]
      simp only [List.length_map, hdl]
      refine ⟨by simp [hdl], .inr ⟨g, cap, _, by simp, hb, h3, hn, hm, by simp [Sort.putCells, hs], ?_⟩⟩
      rw [Nat.mul_one]
      simpa using h4
    · rw [List.map_map, List.pairwise_map, List.pairwise_iff_getElem]
      intro i j hi hj hij
      have := hsort i j (Nat.zero_le _) hij (by simp; omega)
      rw [lpF_lt, decide_eq_false_iff_not] at this
      have hi' : i < d'.size := by simpa using hi
      have hj' : j < d'.size := by simpa using hj
      rw [getElem!_pos d' i hi', getElem!_pos d' j hj'] at this
      simpa using this

def PostSort (w : World) (r : List (List Int)) (e : Ending) (w' : World) : Prop := ∃ v, e = .returned v ∧ OwnLL w' w.heap.size v r ∧ Ext w w'

/-- Slices with the lists that they read as, out of a slice of slices. -/
theorem RLL.lps {w : World} {v : Value} {f : List (List Int)} (h : RLL w v f) (h64 : All64L f) : ∃ A c, ∃ ps : List (Lp w), v = .slice A ps.length c ∧ ps.length ≤ c ∧ ps.length ≤ 9223372036854775807 ∧ Row w A (ps.map fun p => p.1.1) ∧ ps.map (fun p => p.1.2) = f := by
  obtain ⟨A, c, vs, rfl, h1, h2, h3, h4, h5⟩ := h
  refine ⟨A, c, List.ofFn fun j : Fin vs.length => (⟨(vs[j], f[j.1]'(by have := j.2; omega)), h5 j.1 j.2 (by have := j.2; omega), h64 _ (List.getElem_mem _)⟩ : Lp w), by simp, by simpa using h1, by simpa using h2, ?_, ?_⟩
  · have : (List.ofFn fun j : Fin vs.length => (⟨(vs[j], f[j.1]'(by have := j.2; omega)), h5 j.1 j.2 (by have := j.2; omega), h64 _ (List.getElem_mem _)⟩ : Lp w)).map (fun p => p.1.1) = vs := by
      apply List.ext_getElem (by simp)
      intro i h6 h7
      simp
    rw [this]; exact h3
  · apply List.ext_getElem (by simp [h4])
    intro i h6 h7
    simp

theorem own_not {w : World} {base g : Nat} {u : Value} {xs : List Int} {cu : List Value} (h : OwnI w base u xs) (hb : Blk w g 22 cu) : ∀ k, u.ownBlock = some k → ¬ k = g := by
  intro k hk e
  subst e
  obtain ⟨-, -, cur, h1⟩ := own_typed h hk
  unfold Blk at hb
  rw [hb] at h1
  injection h1 with h1
  injection h1 with _ h1
  exact absurd h1 (by decide)

set_option maxHeartbeats 4000000 in
theorem Sort_any (f : List (List Int)) (u : Value) (w : World) (h64 : All64L f) (kr : RLL w u f) (ht : f.length ≤ 20000 → total f ≤ 9223372036854775807) :
    Calls Tryz.prog 47 #[u] w (PostSort w (SortV f)) := by
  have HM := Lib.hid (mayCnf_any u f w kr h64 ht)
  obtain ⟨A, c, ps, rfl, p1, p2, p3, p4⟩ := kr.lps h64
  have HP3 := Lib.hid p3
  unfold SortV
  cases hm : mayCnfB f
  · rw [hm] at HM
    rw [if_neg (by decide)]
    clear hm p3 p4
    go_enter Tryz.func47, Tryz.ntmps47
    go_wp2_with (go_at_call 17; refine HM.out.mono ?_; rintro e w' ⟨rfl, hE⟩; have HE := Lib.hid hE; clear hE)
    go_ret
    exact ⟨_, rfl, OwnLL.nil _ _, HE.out⟩
  · rw [hm] at HM
    rw [if_pos rfl]
    have hfl := mayCnfB_len hm
    have hpl : ps.length = f.length := by rw [← p4, List.length_map]
    have HKM := Lib.hid hm
    have HP4 := Lib.hid p4
    clear hm p3 p4
    have HPL := Lib.hid hpl
    have hps : ps.length ≤ 20000 := by omega
    clear hpl hfl
    have HRS : Hid (∀ (rs : List (Value × List Int)), (∀ p ∈ rs, p ∈ ps.map Subtype.val) → ∀ p ∈ rs, RI w p.1 p.2 ∧ All64 p.2 ∧ p.2.length ≤ 65536) := Lib.hid (fun rs hrs p hp => by
      obtain ⟨q, hq, rfl⟩ := List.mem_map.1 (hrs p hp)
      refine ⟨q.2.1, q.2.2, ?_⟩
      have h7 : q.1.2 ∈ f := by rw [← HP4.out]; exact List.mem_map.2 ⟨q, hq, rfl⟩
      obtain ⟨j, hj, e⟩ := List.getElem_of_mem h7
      rw [← e]
      exact may_len (mayCnfB_get HKM.out j hj))
    have HSC : Hid (∀ qs rs : List (Value × List Int), (∀ p, p ∈ qs ↔ p ∈ ps.map Subtype.val) → (qs.map Prod.snd).Pairwise (fun a b => ¬ llt b a) → rs.map Prod.snd = compactL (qs.map Prod.snd) → rs.map Prod.snd = sortCnf f) := Lib.hid (fun qs rs h1 h2 h3 => by
      rw [h3]
      refine compactL_sort (fun z => ?_) h2
      rw [← HP4.out, List.mem_map, List.mem_map]
      constructor
      · rintro ⟨p, hp, rfl⟩
        obtain ⟨q, hq, rfl⟩ := List.mem_map.1 ((h1 p).1 hp)
        exact ⟨q, hq, rfl⟩
      · rintro ⟨q, hq, rfl⟩
        exact ⟨q.1, (h1 q.1).2 (List.mem_map.2 ⟨q, hq, rfl⟩), rfl⟩)
    go_enter Tryz.func47, Tryz.ntmps47
    go_upto_region 6 with (first
      | (go_at_call 17; refine HM.out.mono ?_; rintro e w1 ⟨rfl, hE⟩; have HE1 := Lib.hid hE; clear hE)
      | (go_at_call 81
         have hcl := cloneRowL A c (ps.map fun p => p.1.1) w1 (fun q hq => by obtain ⟨p, _, rfl⟩ := List.mem_map.1 hq; obtain ⟨A, c, e, -⟩ := p.2.1; rw [e]; rfl) (by rw [List.length_map]; omega) (HP3.out.ext HE1.out) (by rw [List.length_map]; omega)
         rw [List.length_map] at hcl
         refine hcl.mono ?_
         rintro e w2 ⟨v2, rfl, ho, hE⟩
         have HO2 := Lib.hid (own_lower ho HE1.out.size)
         have HE2 := Lib.hid (HE1.out.trans hE)
         clear ho hE hcl)
      | (go_at_call 82
         refine (sortFL w ps v2 _ HE2.out HO2.out (by omega)).mono ?_
         rintro e w3 ⟨qs, rfl, ho, hE, hq1, hq2, hq3⟩
         rw [List.length_map] at hq2
         have HO3 := Lib.hid ho
         have HE3 := Lib.hid hE
         have HQ1 := Lib.hid hq1
         have HQ2 := Lib.hid hq2
         have HQ3 := Lib.hid hq3
         clear ho hE hq1 hq2 hq3)
      | (go_at_call 83
         refine (compactFunc_any qs v2 w _ HE3.out HO3.out (fun p hp => (HRS.out qs (fun p hp => (HQ1.out p).1 hp) p hp).1) (by have := HQ2.out; omega)).mono ?_
         rintro e w4 ⟨v4, rs, rfl, ho, hE, hr1, hr2⟩
         have HO4 := Lib.hid ho
         have HE4 := Lib.hid hE
         have HR1 := Lib.hid (HRS.out rs (fun p hp => (HQ1.out p).1 (hr1 p hp)))
         have HR2 := Lib.hid (HSC.out qs rs HQ1.out HQ3.out hr2)
         clear ho hE hr1 hr2))
    obtain ⟨-, ⟨rfl, hz⟩ | ⟨g, cap, cur, rfl, hb, hg, hn, hmx, hs, htk⟩⟩ := id HO4.out
    · have hr0 : sortCnf f = [] := by
        rw [← HR2.out, List.length_eq_zero_iff.1 hz]; rfl
      have HR0 := Lib.hid hr0
      clear hz hr0
      go_wp2_with fail
      go_loopg [16] 0 (fun gn i wr => i = .int .i64 0 ∧ w4 = wr)
      case atStart => exact ⟨rfl, rfl⟩
      case round =>
        obtain ⟨rfl, rfl⟩ := hrel
        go_wp2
        go_ret
        exact ⟨_, rfl, by rw [HR0.out]; exact OwnLL.nil _ _, HE4.out⟩
    · have HB := Lib.hid hb
      have HG : Hid (Blk w4 g 22 cur.toList) := Lib.hid (by unfold Blk; simpa using hg)
      have HS := Lib.hid hs
      have HTK := Lib.hid htk
      have HMX := Lib.hid hmx
      have hmc : cap ≤ 9223372036854775807 := by unfold maxLen at hmx; omega
      obtain ⟨n, hnn⟩ : ∃ n, n = rs.length := ⟨_, rfl⟩
      have HN := Lib.hid hnn
      rw [← hnn] at hn ⊢
      clear hb hg hs htk hmx hnn
      go_wp2_with fail
      go_loopg [16] n (fun gn i wr => ∃ (k : Nat) (cu : List Value), k ≤ n ∧ gn + k = n ∧ i = .int .i64 k ∧ Hid (Ext w wr ∧ Blk wr g 22 cu ∧ cu.length = cap ∧ (∀ j (h : j < rs.length), k ≤ j → cu[j]? = some rs[j].1) ∧ (∀ j (h : j < rs.length), j < k → ∃ u, cu[j]? = some u ∧ OwnI wr w.heap.size u rs[j].2)))
      case atStart =>
        refine ⟨0, cur.toList, Nat.zero_le _, by omega, rfl, HE4.out, HG.out, by have := HS.out; simpa using this, fun j hj _ => ?_, fun j _ h => absurd h (Nat.not_lt_zero j)⟩
        have := congrArg (fun l => l[j]?) HTK.out
        rw [Nat.mul_one] at this
        simp only [List.getElem?_take, if_pos hj, List.getElem?_map, List.getElem?_eq_getElem hj] at this
        exact this
      case round =>
        obtain ⟨k, cu, hk, hgk, rfl, HI⟩ := hrel
        obtain ⟨wk, rfl⟩ : ∃ wk : World, wk = wr := ⟨_, rfl⟩
        by_cases hlt : k < n
        · have hkr : k < rs.length := by have := HN.out; omega
          have c0 : wk.cell? ⟨g, k, none⟩ = some rs[k].1 := by rw [HI.out.2.1.cell, HI.out.2.2.2.1 k hkr (Nat.le_refl _)]
          obtain ⟨q1, -, q3⟩ := HR1.out _ (List.getElem_mem hkr)
          have HCL := Lib.hid (cloneI_any rs[k].1 rs[k].2 wk (q1.ext HI.out.1) (by omega))
          obtain ⟨E, ce, he, -⟩ := q1
          obtain ⟨L, hL⟩ : ∃ L, L = rs[k].2.length := ⟨_, rfl⟩
          rw [← hL] at he
          rw [he] at c0 HCL
          clear q3 he hL
          go_wp2_with (go_at_call 43
                       refine HCL.out.mono ?_
                       rintro e w5 ⟨v5, rfl, ho, hE⟩
                       obtain ⟨A5, a5, c5, rfl⟩ : ∃ A a c, v5 = .slice A a c := by obtain ⟨A, c, e, -⟩ := ho.reads; exact ⟨A, _, c, e⟩
                       have HO5 := Lib.hid (own_lower ho HI.out.1.size)
                       have HE5 := Lib.hid hE
                       have HB5 := Lib.hid (HI.out.2.1.ext hE)
                       have hfz := HB5.out.free k
                       have hc5 := HE5.out.cell c0
                       clear ho hE)
          go_roundg (n - (k + 1))
          case measure => omega
          case rel =>
            have hb6 := HB5.out.set k (.slice A5 a5 c5)
            refine ⟨k + 1, cu.set k (.slice A5 a5 c5), by omega, by omega, by go_num, (Upd.set w5 g k (.slice A5 a5 c5)).ext (HI.out.1.trans HE5.out) HB.out, hb6, by rw [List.length_set]; exact HI.out.2.2.1, fun j hj hjk => ?_, fun j hj hjk => ?_⟩
            · rw [List.getElem?_set_ne (by omega)]
              exact HI.out.2.2.2.1 j hj (by omega)
            · by_cases e : j = k
              · subst e
                refine ⟨.slice A5 a5 c5, List.getElem?_set_self (by have := HI.out.2.2.1; omega), ?_⟩
                exact (Upd.set w5 g j (.slice A5 a5 c5)).chg.own HO5.out (own_not HO5.out HB5.out)
              · obtain ⟨u, hu1, hu2⟩ := HI.out.2.2.2.2 j hj (by omega)
                refine ⟨u, by rw [List.getElem?_set_ne (by omega)]; exact hu1, ?_⟩
                have hu3 : OwnI w5 w.heap.size u rs[j].2 := own_ext hu2 HE5.out
                exact (Upd.set w5 g k (.slice A5 a5 c5)).chg.own hu3 (own_not hu3 HB5.out)
        · have hkn : k = n := by omega
          have HKN := Lib.hid hkn
          clear hkn
          go_wp2
          go_ret
          have hl1 : (sortCnf f).length = n := by rw [← HR2.out, List.length_map]; exact HN.out.symm
          have hl2 : (cu.take n).length = n := by rw [List.length_take, HI.out.2.2.1]; omega
          refine ⟨_, rfl, ⟨cu.take n, ?_, by omega, fun j hj hj' => ?_⟩, HI.out.1⟩
          · rw [hl2]
            have h5 := HI.out.2.1
            unfold Blk at h5
            exact ⟨by rw [hl2, Nat.mul_one], .inr ⟨g, cap, cu.toArray, rfl, HB.out, h5, hn, HMX.out, by have := HI.out.2.2.1; simp; omega, by rw [Nat.mul_one]⟩⟩
          · have hjr : j < rs.length := by have := HN.out; omega
            obtain ⟨u, hu1, hu2⟩ := HI.out.2.2.2.2 j hjr (by have := HKN.out; omega)
            have e1 : (cu.take n)[j] = u := by
              rw [List.getElem_take]
              have hjc : j < cu.length := by have := HI.out.2.2.1; omega
              rw [List.getElem?_eq_getElem hjc] at hu1
              injection hu1
            have e2 : (sortCnf f)[j] = rs[j].2 := by
              have h7 := congrArg (fun l => l[j]?) HR2.out
              simp only [List.getElem?_map, List.getElem?_eq_getElem hjr, Option.map_some, List.getElem?_eq_getElem hj'] at h7
              injection h7 with h7
              exact h7.symm
            rw [e1, e2]
            exact hu2
end Go.Proofs.YtlompphnngnaiaaGreatDoor
namespace Go.Proofs.YtlompphnngnaiaaGreatDoor
open Go.RowKit

set_option maxRecDepth 100000 in
set_option maxHeartbeats 1000000 in
theorem ord1_fn (x l : List Int) (v u : Value) (g : Nat) (w : World) (hr : RI w v x) (kr : RI w u l) (hc : w.cell? ⟨g, 0, none⟩ = some u) (hs : HasSame w) :
    Calls Tryz.prog 51 #[v, .pointer (some ⟨g, 0, none⟩)] w fun e w' => e = .returned (.bool (decide (x = l))) ∧ Ext w w' := by
  have H := Lib.hid (Same_any x l v u w hr kr)
  obtain ⟨A, c, rfl, h1, h2, h3⟩ := hr
  obtain ⟨B, d, rfl, k1, k2, k3⟩ := kr
  clear h3 k3
  have cg : w.cell? ⟨0, 0, Option.none⟩ = some (.func (.func 86) #[] #[]) := hs
  clear hs
  go_enter Tryz.func51, Tryz.ntmps51
  go_wp2_with (refine wpList_callv (.tmp 4) #[.tmp 5, .tmp 6] _ rfl (by rfl) #[] rfl fv_same #[.slice A x.length c, .slice B l.length d] (by simp only [List.map_toArray, List.map_cons, List.map_nil, List.append_toArray, List.cons_append, List.nil_append]; rfl) ?_
               refine H.out.mono ?_
               rintro e w6 ⟨rfl, hE⟩
               refine ⟨_, rfl, ?_⟩
               simp only [Act.put, List.setIfInBounds_toArray, List.set_cons_zero, List.set_cons_succ])
  go_ret
  exact ⟨rfl, hE⟩
theorem fv_ord1 : Fv Tryz.prog 51 := ⟨_, Tryz.func51, by kernel_rfl, by kernel_rfl⟩
end Go.Proofs.YtlompphnngnaiaaGreatDoor
namespace Go.Proofs.YtlompphnngnaiaaGreatDoor

theorem lens_small {f : List (List Int)} (hb : ∀ c ∈ f, c.length ≤ 200) : ∀ k, k ≤ f.length → lens f k ≤ 200 * k
  | 0, _ => by simp [lens]
  | k + 1, h => by
    have h1 := lens_small hb k (by omega)
    have h2 := hb f[k] (List.getElem_mem (by omega))
    rw [lens_succ f k (by omega)]
    omega
theorem mayCnf_small {f : List (List Int)} (hl : f.length ≤ 1000) (hb : ∀ c ∈ f, c.length ≤ 200) (hm : ∀ c ∈ f, mayB c = true) : mayCnfB f = true := by
  unfold mayCnfB
  rw [Bool.and_eq_true]
  refine ⟨by simp; omega, List.all_eq_true.2 fun k hk => ?_⟩
  have hk' : k < f.length := by simpa using hk
  have h1 := lens_small hb (k + 1) (by omega)
  rw [Bool.and_eq_true]
  refine ⟨by simp; omega, ?_⟩
  rw [getD_of f k hk']
  exact hm _ (List.getElem_mem hk')
theorem mayCnf_each {f : List (List Int)} (h : mayCnfB f = true) : ∀ c ∈ f, mayB c = true := fun c hc => by
  obtain ⟨k, hk, rfl⟩ := List.getElem_of_mem hc
  unfold mayCnfB at h
  have h1 := List.all_eq_true.1 (Bool.and_eq_true_iff.1 h).2 k (by simpa using hk)
  have h2 := (Bool.and_eq_true_iff.1 h1).2
  rwa [getD_of f k hk] at h2
theorem fold_insC_len (f : List (List Int)) : ∀ l : List (List Int), (f.foldl insC l).length ≤ l.length + f.length := by
  induction f with
  | nil => intro l; simp
  | cons c f ih =>
    intro l
    have h1 := ih (insC l c)
    have h2 := insC_len l c
    simp only [List.foldl_cons, List.length_cons] at *
    omega
theorem sortCnf_len (f : List (List Int)) : (sortCnf f).length ≤ f.length := by
  have := fold_insC_len f []
  unfold sortCnf
  simpa using this
theorem SortV_self {f : List (List Int)} (hl : f.length ≤ 1000) (hb : ∀ c ∈ f, c.length ≤ 200) (hm : mayCnfB f = true) : SortV (SortV f) = SortV f := by
  unfold SortV
  rw [if_pos hm]
  have h1 := sortCnf_len f
  have h2 : mayCnfB (sortCnf f) = true := mayCnf_small (by omega) (fun c hc => hb c ((mem_sortCnf f c).1 hc)) fun c hc => mayCnf_each hm c ((mem_sortCnf f c).1 hc)
  rw [if_pos h2]
  exact sortCnf_self (sortCnf_sorted f)
theorem SortV_mem {f : List (List Int)} (hm : mayCnfB f = true) (z : List Int) : z ∈ SortV f ↔ z ∈ f := by
  unfold SortV
  rw [if_pos hm]
  exact mem_sortCnf f z
theorem SortV_lt {f : List (List Int)} (hm : mayCnfB f = true) (i j : Nat) (hij : i < j) (hj : j < (SortV f).length) : cmpL ((SortV f)[i]'(by omega)) ((SortV f)[j]'hj) < 0 := by
  have h := sortCnf_sorted f
  have e : SortV f = sortCnf f := by unfold SortV; rw [if_pos hm]
  have h' : (SortV f).Pairwise llt := by rw [e]; exact h
  exact List.pairwise_iff_getElem.1 h' i j (by omega) hj hij
theorem SortV_no {f : List (List Int)} (hm : mayCnfB f = false) : SortV f = [] := by
  unfold SortV
  rw [if_neg (by rw [hm]; simp)]
end Go.Proofs.YtlompphnngnaiaaGreatDoor
namespace Go.Proofs.YtlompphnngnaiaaGreatDoor
open Go.RowKit
section
variable {P : Program} {ops : Array Oper} {a : Act} {w : World} {o : Oper} {R : World → Value → Prop} {V : Nat → World → Value → Prop}

theorem wanted_u {j : Nat} {b : Bool} {oj : Oper} {d : Tmp} (h : o.guard = some (j, b)) (ho : ops[j]? = some oj) (hd : oj.dst = some d) (hv : a.tmps[d]? = some undef) : Region.wanted o (yielded ops a.tmps) = false := by
  have : yielded ops a.tmps j = none := by
    unfold yielded
    rw [ho]
    show (match (oj.dst.bind fun x => a.tmps[x]?) with | some (.bool b) => some b | _ => none) = none
    rw [hd]
    show (match a.tmps[d]? with | some (.bool b) => some b | _ => none) = none
    rw [hv]; rfl
  unfold Region.wanted
  rw [h]
  show (yielded ops a.tmps j == some b) = false
  rw [this]; rfl
theorem st_not {t : Tmp} {ty : TypeId} {b : Bool} (hg : Region.wanted o (yielded ops a.tmps) = true) (ho : o.op = .unOp .not ty (.tmp t)) (h : a.tmps[t]? = some (.bool b)) (hR : R w (.bool (!b))) : OpOk P ops a o w R :=
  ok_val hg (.bool (!b)) w (by unfold execOp; cases b <;> simp [ho, h, go_sem] <;> rfl) (Ext.refl w) hR
theorem st_pickv {c : Tmp} {x y : Operand} {b : Bool} {v : Value} (hg : Region.wanted o (yielded ops a.tmps) = true) (ho : o.op = .pick (.tmp c) x y) (hc : a.tmps[c]? = some (.bool b)) (h : (if b = true then a.eval x else a.eval y) = v) (hR : R w v) : OpOk P ops a o w R := by
  refine ok_val hg v w ?_ (Ext.refl w) hR
  unfold execOp
  cases b <;> simp at h <;> simp [ho, eval_of hc, asBool, h]
theorem st_at {ty e : TypeId} {s i : Tmp} {ad : Addr} {n c : Nat} {k : Nat} (hg : Region.wanted o (yielded ops a.tmps) = true) (ho : o.op = .indexAddr ty (.tmp s) (.tmp i)) (hu : P.underlying ty = some (.slice e)) (hz : (P.info? e).map (·.size) = some 1) (hs : a.tmps[s]? = some (.slice (some ad) n c)) (hi : a.tmps[i]? = some (.int .i64 (k : Int))) (hk : k < n) (hR : R w (.pointer (some (ad.add k)))) : OpOk P ops a o w R := by
  refine ok_val hg (.pointer (some (ad.add k))) w ?_ (Ext.refl w) hR
  have h1 : k < n := hk
  obtain ⟨i0, hi0, hz0⟩ : ∃ i0, P.info? e = some i0 ∧ i0.size = 1 := by
    cases hx : P.info? e with
    | none => rw [hx] at hz; cases hz
    | some i0 => rw [hx] at hz; exact ⟨i0, rfl, by simpa using hz⟩
  unfold execOp
  simp [ho, eval_of hs, eval_of hi, Instr.indexAt, run_underlying hu, asIntOf, sizeOf, typeInfo, hi0, hz0, h1]
theorem st_load {ty e : TypeId} {s : Tmp} {ad : Addr} {v : Value} (hg : Region.wanted o (yielded ops a.tmps) = true) (ho : o.op = .load ty (.tmp s)) (hu : P.underlying ty = some (.slice e)) (hs : a.tmps[s]? = some (.pointer (some ad))) (hc : w.cell? ad = some v) (hR : R w v) : OpOk P ops a o w R := by
  refine ok_val hg v w ?_ (Ext.refl w) hR
  unfold execOp
  simp [ho, hs, go_sem, hc, isAgg, run_underlying hu]
/-- The frame behind a region, written out again: what the region's own slots hold is told by the frame itself. -/
theorem Kep.re {a0 : Act} (h : Kep ops a0 a) {l : List Value} {df : List Deferred} (ha : a0 = ⟨l.toArray, df⟩) (m M : Nat) (hd : (ops.toList.all fun o => match o.dst with | some d => decide (m ≤ d) && decide (d ≤ M) | none => true) = true) :
    a = ⟨((List.range l.length).map fun i => bif Nat.ble m i && Nat.ble i M then (a.tmps[i]?).getD undef else l.getD i undef).toArray, df⟩ := by
  subst ha
  obtain ⟨h1, h2, h3⟩ := h
  obtain ⟨tm, df'⟩ := a
  simp only at h1 h2 h3
  subst h1
  congr 1
  apply Array.ext'
  simp only
  simp only [List.size_toArray] at h2
  apply List.ext_getElem
  · simp [h2]
  · intro i hi hi'
    have hi0 : i < l.length := by simpa [h2] using hi
    simp only [List.getElem_map, List.getElem_range]
    by_cases hb : (Nat.ble m i && Nat.ble i M) = true
    · rw [hb]
      have : i < tm.size := by omega
      simp [this]
    · have hb' : (Nat.ble m i && Nat.ble i M) = false := Bool.eq_false_iff.2 hb
      rw [hb']
      have h4 := h3 i (fun k o hk e => by
        have h5 := List.all_eq_true.1 hd o (List.mem_of_getElem? (by simpa using hk))
        rw [e] at h5
        have h6 : (decide (m ≤ i) && decide (i ≤ M)) = true := h5
        apply hb
        rw [Bool.and_eq_true, Nat.ble_eq, Nat.ble_eq]
        simpa using h6)
      have : i < tm.size := by omega
      simp [this, hi0] at h4
      simp [h4, hi0]
end
end Go.Proofs.YtlompphnngnaiaaGreatDoor
namespace Go.Proofs.YtlompphnngnaiaaGreatDoor
open Go.RowKit

theorem cmpL_range : ∀ a b : List Int, cmpL a b = -1 ∨ cmpL a b = 0 ∨ cmpL a b = 1 := by
  intro a
  induction a with
  | nil => intro b; cases b <;> simp [cmpL]
  | cons x a ih =>
    intro b
    cases b with
    | nil => simp [cmpL]
    | cons y b =>
      have := ih b
      unfold cmpL
      split
      · exact this
      · unfold ordB
        repeat' split
        all_goals omega

theorem four_RLL {w : World} {a b c : List Int} {va vb vc : Value} (ha : RI w va a) (hb : RI w vb b) (hc : RI w vc c) : RLL (w.alloc (.cells #[va, vb, vc, va] 22)) (slV w.heap.size 4) [a, b, c, a] := by
  have hx := Ext.alloc w (.cells #[va, vb, vc, va] 22)
  refine (Blk.new w 22 [va, vb, vc, va]).RLL (by simp) rfl fun j hj hj' => ?_
  match j, hj, hj' with
  | 0, _, _ => exact RI.ext ha hx
  | 1, _, _ => exact RI.ext hb hx
  | 2, _, _ => exact RI.ext hc hx
  | 3, _, _ => exact RI.ext ha hx
  | j + 4, _, hj' => exact absurd hj' (by simp)

set_option maxRecDepth 100000 in
set_option maxHeartbeats 20000000 in
theorem ord_law (a b c : List Int) (va vb vc : Value) (w : World) (a64 : All64 a) (b64 : All64 b) (c64 : All64 c) (ar : RI w va a) (br : RI w vb b) (cr : RI w vc c) (hL : LW w) :
    Calls Tryz.prog 10 #[va, vb, vc] w fun e w' => e = .returned (.bool true) ∧ Ext w w' := by
  have HA := Lib.hid ar
  have HB := Lib.hid br
  have HC := Lib.hid cr
  have HL := Lib.hid hL
  have hcmp := fun (x y : List Int) (u u' : Value) (x64 : All64 x) (y64 : All64 y) (w' : World) (hx : RI w' u x) (hy : RI w' u' y) => (Compare_any x y u u' w' x64 y64 hx hy).mono (R' := fun e w'' => e = .returned (.int .i64 (cmpL x y)) ∧ Ext w' w'') fun _ _ h => ⟨h.1, h.2.ext⟩
  have HCM := Lib.hid hcmp
  have HAB := Lib.hid (hcmp a b va vb a64 b64 w ar br)
  have HBC := Lib.hid (fun (w' : World) (he : Ext w w') => hcmp b c vb vc b64 c64 w' (HB.out.ext he) (HC.out.ext he))
  have HAC := Lib.hid (fun (w' : World) (he : Ext w w') => hcmp a c va vc a64 c64 w' (HA.out.ext he) (HC.out.ext he))
  have HBA := Lib.hid (fun (w' : World) (he : Ext w w') => hcmp b a vb va b64 a64 w' (HB.out.ext he) (HA.out.ext he))
  have HSM := Lib.hid (fun (w' : World) (he : Ext w w') => Same_any a b va vb w' (HA.out.ext he) (HB.out.ext he))
  have rab := cmpL_range a b
  have rbc := cmpL_range b c
  have rac := cmpL_range a c
  have hsw := cmpL_swap a b
  have htr := cmpL_trans a b c
  have hz : decide (a = b) = decide (cmpL a b = 0) := decide_eq_decide.2 (cmpL_zero a b).symm
  rw [hsw] at HBA
  rw [hz] at HSM
  generalize cmpL a b = ab at *
  generalize cmpL b c = bc at *
  generalize cmpL a c = ac at *
  obtain ⟨A, ca, rfl, h1, h2, h3⟩ := ar
  obtain ⟨B, cb, rfl, k1, k2, k3⟩ := br
  obtain ⟨C, cc, rfl, l1, l2, l3⟩ := cr
  clear h3 k3 l3 hL hcmp hsw hz
  by_cases hbig : a.length > 200 ∨ b.length > 200 ∨ c.length > 200
  · clear rab rbc rac htr
    go_enter Tryz.func10, Tryz.ntmps10
    go_wp2_with ((go_at_call 11; refine (awake_any _ HL.out).mono ?_; rintro e w1 ⟨rfl, hE⟩))
    all_goals first
      | (exfalso; omega)
      | (go_ret; exact ⟨rfl, hE⟩)
  · obtain ⟨hs1, hs2'⟩ := not_or.1 hbig
    obtain ⟨hs2, hs3⟩ := not_or.1 hs2'
    clear hbig hs2'
    have HTR := Lib.hid htr
    have RAB := Lib.hid rab
    have RBC := Lib.hid rbc
    have RAC := Lib.hid rac
    clear htr rab rbc rac
    go_enter Tryz.func10, Tryz.ntmps10
    go_upto_region 4 with (first
      | (go_at_call 29; refine HAB.out.mono ?_; rintro e w1 ⟨rfl, hE⟩; have HE1 := Lib.hid hE; clear hE HAB)
      | (go_at_call 29; refine (HBC.out _ HE1.out).mono ?_; rintro e w2 ⟨rfl, hE⟩; have HE2 := Lib.hid (HE1.out.trans hE); clear hE HBC)
      | (go_at_call 29; refine (HAC.out _ HE2.out).mono ?_; rintro e w3 ⟨rfl, hE⟩; have HE3 := Lib.hid (HE2.out.trans hE); clear hE HAC))
    go_cut [76] from 38 to 76 (fun s wy => s = .bool false ∧ Hid (Ext w wy))
    case first =>
      have htr := HTR.out
      rcases RAB.out with h | h | h <;> rcases RBC.out with h' | h' | h' <;> rcases RAC.out with h'' | h'' | h'' <;> subst h <;> subst h' <;> subst h'' <;> first
        | (exfalso; omega)
        | (clear htr
           have cg : ∀ w', Ext w w' → w'.cell? ⟨0, 0, Option.none⟩ = some (.func (.func 86) #[] #[]) := fun w' he => HL.out.same.ext he
           have CG := Lib.hid cg
           clear cg
           simp at HBA HSM
           go_wp2_with (first
             | (go_at_call 29; refine (HBA.out _ HE3.out).mono ?_; rintro e w4 ⟨rfl, hE⟩; have HE4 := Lib.hid (HE3.out.trans hE); have cg4 := CG.out _ HE4.out; clear hE HBA)
             | (refine wpList_callv (.tmp 47) #[.tmp 48, .tmp 49] _ rfl (by rfl) #[] rfl fv_same #[.slice A a.length ca, .slice B b.length cb] (by simp only [List.map_toArray, List.map_cons, List.map_nil, List.append_toArray, List.cons_append, List.nil_append]; rfl) ?_
                refine (HSM.out _ HE4.out).mono ?_
                rintro e w5 ⟨rfl, hE⟩
                refine ⟨_, rfl, ?_⟩
                simp only [Act.put, List.setIfInBounds_toArray, List.set_cons_zero, List.set_cons_succ]
                have HE5 := Lib.hid (HE4.out.trans hE)
                clear hE cg4 HSM))
           go_meet
           exact ⟨rfl, HE5.out⟩)
    case rest =>
      obtain ⟨rfl, HCT⟩ := hcut
      clear HBA HSM HTR RAB RBC RAC
      have hf64 : All64L [a, b, c, a] := fun x hx => by
        simp at hx
        rcases hx with rfl | rfl | rfl | rfl
        · exact a64
        · exact b64
        · exact c64
        · exact a64
      have HF64 := Lib.hid hf64
      have hfr : RLL (wc.alloc (.cells #[.slice A a.length ca, .slice B b.length cb, .slice C c.length cc, .slice A a.length ca] 22)) (slV wc.heap.size 4) [a, b, c, a] :=
        four_RLL (HA.out.ext HCT.out) (HB.out.ext HCT.out) (HC.out.ext HCT.out)
      have HFR := Lib.hid hfr
      have htot : total [a, b, c, a] ≤ 9223372036854775807 := by
        have h1 := lens_small (f := [a, b, c, a]) (fun x hx => by simp at hx; rcases hx with rfl | rfl | rfl | rfl <;> omega) 4 (by simp)
        have h2 : total [a, b, c, a] = lens [a, b, c, a] 4 := rfl
        omega
      have HTOT := Lib.hid htot
      have HW1 := Lib.hid (HCT.out.trans (Ext.alloc wc (.cells #[.slice A a.length ca, .slice B b.length cb, .slice C c.length cc, .slice A a.length ca] 22)))
      clear hfr htot hf64
      cases hm : mayCnfB [a, b, c, a]
      · have HMY := Lib.hid (fun (w' : World) (u : Value) (h : RLL w' u [a, b, c, a]) => refMayCnf_any [a, b, c, a] u w' HF64.out h HTOT.out)
        have HSO := Lib.hid (Sort_any [a, b, c, a] _ _ HF64.out HFR.out (fun _ => HTOT.out))
        rw [hm] at HMY
        rw [SortV_no hm] at HSO
        clear hm
        go_wp2_with (first
          | (go_at_call 47
             refine HSO.out.mono ?_
             rintro e w4 ⟨v4, rfl, ho, hE⟩
             have HE4 := Lib.hid (HW1.out.trans hE)
             have HF4 := Lib.hid (HFR.out.ext' hE)
             obtain ⟨V, cv, vs, rfl, o1, o2, o3, o4, o5⟩ := ho.reads
             obtain rfl : vs = [] := List.eq_nil_of_length_eq_zero o4
             clear ho hE o3 o5 HSO)
          | (go_at_call 44
             refine (HMY.out _ _ HF4.out).mono ?_
             rintro e w5 ⟨rfl, hE⟩
             have HE5 := Lib.hid (HE4.out.trans hE)
             clear hE)
          | (go_at_call 11; refine (awake_any _ (HL.out.ext HE5.out)).mono ?_; rintro e w6 ⟨rfl, hE⟩; have HE6 := Lib.hid (HE5.out.trans hE); clear hE))
        go_ret
        exact ⟨rfl, HE6.out⟩
      · have HMY := Lib.hid (fun (w' : World) (u : Value) (h : RLL w' u [a, b, c, a]) => refMayCnf_any [a, b, c, a] u w' HF64.out h HTOT.out)
        have HSO := Lib.hid (Sort_any [a, b, c, a] _ _ HF64.out HFR.out (fun _ => HTOT.out))
        rw [hm] at HMY
        have HM := Lib.hid hm
        clear hm
        go_upto_region 10 with (first
          | (go_at_call 47
             refine HSO.out.mono ?_
             rintro e w4 ⟨v4, rfl, ho, hE⟩
             have HO4 := Lib.hid ho.reads
             have HE4 := Lib.hid (HW1.out.trans hE)
             have HF4 := Lib.hid (HFR.out.ext' hE)
             clear ho hE HSO)
          | (go_at_call 44
             refine (HMY.out _ _ HF4.out).mono ?_
             rintro e w5 ⟨rfl, hE⟩
             have HE5 := Lib.hid (HE4.out.trans hE)
             have HO5 := Lib.hid (HO4.out.ext' hE)
             have HF5 := Lib.hid (HF4.out.ext' hE)
             clear hE))
        obtain ⟨S, hS⟩ : ∃ S, S = SortV [a, b, c, a] := ⟨_, rfl⟩
        have hSlt := fun i j (h : i < j) (hj : j < S.length) => (by subst hS; exact SortV_lt HM.out i j h hj : cmpL (S[i]'(Nat.lt_trans h hj)) S[j] < 0)
        have hSm : ∀ z, z ∈ S ↔ z ∈ [a, b, c, a] := fun z => by rw [hS]; exact SortV_mem HM.out z
        have hSs : SortV S = S := by rw [hS]; exact SortV_self (by simp) (fun z hz => by simp at hz; rcases hz with rfl | rfl | rfl | rfl <;> omega) HM.out
        have hSl : S.length ≤ 4 := by rw [hS]; unfold SortV; rw [if_pos HM.out]; exact sortCnf_len _
        have HSL := Lib.hid hSl
        clear hSl
        have HO6 := HO5
        rw [← hS] at HO6
        obtain ⟨V, cv, vs, rfl, q1, q2, q3, q4, q5⟩ := HO6.out
        have HSLT := Lib.hid hSlt
        have HSM := Lib.hid hSm
        have HSS := Lib.hid hSs
        have Q3 := Lib.hid q3
        have Q4 := Lib.hid q4
        have Q5 := Lib.hid q5
        clear hSlt hSm hSs q3 q4 q5 hS HO5 HO4 HMY
        have HS64 : Hid (All64L S) := Lib.hid fun z hz => HF64.out z ((HSM.out z).1 hz)
        go_wp2
        go_loopg [95] vs.length (fun gn i wr => ∃ k : Nat, k ≤ vs.length ∧ gn + k = vs.length ∧ i = .int .i64 k ∧ Hid (Ext w5 wr))
        case atStart => exact ⟨0, Nat.zero_le _, by omega, rfl, Lib.hid (Ext.refl _)⟩
        case round =>
          obtain ⟨k, hk, hgk, rfl, HEW⟩ := hrel
          obtain ⟨wx, rfl⟩ : ∃ wx : World, wx = wr := ⟨_, rfl⟩
          by_cases hlt : k < vs.length
          · obtain ⟨ad, rfl, -⟩ := Q3.out k hlt
            have hkS : k < S.length := by rw [← Q4.out]; exact hlt
            have HXK : Hid (∀ w', Ext wx w' → w'.cell? (ad.add k) = some vs[k] ∧ RI w' vs[k] S[k]) := Lib.hid fun w' he => by
              obtain ⟨ad', had, hc⟩ := Q3.out k hlt
              cases had
              exact ⟨(HEW.out.trans he).cell hc, (Q5.out k hlt hkS).ext (HEW.out.trans he)⟩
            have hXm := (HSM.out S[k]).1 (List.getElem_mem hkS)
            have hX64 := HS64.out _ (List.getElem_mem hkS)
            have HA5 := Lib.hid (HA.out.ext (HE5.out.trans HEW.out))
            have HB5 := Lib.hid (HB.out.ext (HE5.out.trans HEW.out))
            have HC5 := Lib.hid (HC.out.ext (HE5.out.trans HEW.out))
            have cg : wx.cell? ⟨0, 0, Option.none⟩ = some (.func (.func 86) #[] #[]) := HL.out.same.ext (HE5.out.trans HEW.out)
            go_upto_region 13 with fail
            go_cut [142] from 98 to 142 (fun s wy => s = .bool false ∧ Hid (Ext w5 wy))
            case first =>
              rename_i J K1 hRJ hMK
              rcases k with _ | m
              · generalize S[0] = X at *
                generalize vs[0] = vk at *
                have HSA := Lib.hid (fun (w' : World) (u u' : Value) (h1 : RI w' u X) (h2 : RI w' u' a) => Same_any X a u u' w' h1 h2)
                have HSB := Lib.hid (fun (w' : World) (u u' : Value) (h1 : RI w' u X) (h2 : RI w' u' b) => Same_any X b u u' w' h1 h2)
                have HSC := Lib.hid (fun (w' : World) (u u' : Value) (h1 : RI w' u X) (h2 : RI w' u' c) => Same_any X c u u' w' h1 h2)
                by_cases hxa : X = a
                · rw [decide_eq_true hxa] at HSA
                  refine wp_region_mono (W := wx) rfl (Kd.at [.val (.int .i64 ((0 : Nat) : Int)), .val (.bool false), .val (.bool false), .val undef, .val undef, .val undef, .val undef, .val undef, .val undef, .val undef, .val undef, .val undef, .val undef, .val undef, .val (.bool false), .val (.bool false), .fv 86, .val (.slice (some ad) vs.length cv), .val (.int .i64 ((0 : Nat) : Int)), .val (.pointer (some (ad.add 0))), .row X, .row a, .val (.bool true), .val (.bool false), .val (.bool false), .val undef, .val undef, .val undef, .val undef, .val undef, .val undef, .val undef, .val undef, .val (.bool false), .val (.bool false), .val undef, .val undef, .val undef, .val undef, .val undef, .val undef, .val undef, .val undef, .val (.bool false), .val (.bool false)]) (Kd.at_mono _) 162 rfl (by decide) (by decide) (by decide) ?_ ?_
                  · refine ⟨?_, ?_, ?_, ?_, ?_, ?_, ?_, ?_, ?_, ?_, ?_, ?_, ?_, ?_, ?_, ?_, ?_, ?_, ?_, ?_, ?_, ?_, ?_, ?_, ?_, ?_, ?_, ?_, ?_, ?_, ?_, ?_, ?_, ?_, ?_, ?_, ?_, ?_, ?_, ?_, ?_, ?_, ?_, ?_, ?_, trivial⟩
                    · intro a' w' hE hK hd
                      have hi12 : a'.tmps[12]? = some (.int .i64 ((0 : Nat) : Int)) := hK.get 12 (by decide)
                      exact st_move (wanted_none rfl) rfl hi12 rfl
                    · intro a' w' hE hK hd
                      obtain ⟨u0, h0, p0⟩ := got (hd ⟨0, .data⟩ (by simp) rfl) rfl rfl
                      obtain rfl : u0 = .int .i64 ((0 : Nat) : Int) := p0
                      exact st_run (wanted_none rfl) (v := .bool false) (by unfold execOp; simp [h0, go_sem]) rfl
                    · intro a' w' hE hK hd
                      obtain ⟨u1, h1, p1⟩ := got (hd ⟨1, .data⟩ (by simp) rfl) rfl rfl
                      obtain rfl : u1 = .bool false := p1
                      exact st_move (wanted_none rfl) rfl h1 rfl
                    · intro a' w' hE hK hd
                      obtain ⟨ug, hg, pg⟩ := got (hd ⟨2, .guard⟩ (by simp) rfl) rfl rfl
                      obtain rfl : ug = .bool false := pg
                      exact ok_not ((wanted_b rfl rfl rfl hg).trans rfl) rfl
                    · intro a' w' hE hK hd
                      obtain ⟨ug, hg, pg⟩ := got (hd ⟨2, .guard⟩ (by simp) rfl) rfl rfl
                      obtain rfl : ug = .bool false := pg
                      exact ok_not ((wanted_b rfl rfl rfl hg).trans rfl) rfl
                    · intro a' w' hE hK hd
                      obtain ⟨ug, hg, pg⟩ := got (hd ⟨2, .guard⟩ (by simp) rfl) rfl rfl
                      obtain rfl : ug = .bool false := pg
                      exact ok_not ((wanted_b rfl rfl rfl hg).trans rfl) rfl
                    · intro a' w' hE hK hd
                      obtain ⟨ug, hg, pg⟩ := got (hd ⟨2, .guard⟩ (by simp) rfl) rfl rfl
                      obtain rfl : ug = .bool false := pg
                      exact ok_not ((wanted_b rfl rfl rfl hg).trans rfl) rfl
                    · intro a' w' hE hK hd
                      obtain ⟨ug, hg, pg⟩ := got (hd ⟨2, .guard⟩ (by simp) rfl) rfl rfl
                      obtain rfl : ug = .bool false := pg
                      exact ok_not ((wanted_b rfl rfl rfl hg).trans rfl) rfl
                    · intro a' w' hE hK hd
                      obtain ⟨ug, hg, pg⟩ := got (hd ⟨2, .guard⟩ (by simp) rfl) rfl rfl
                      obtain rfl : ug = .bool false := pg
                      exact ok_not ((wanted_b rfl rfl rfl hg).trans rfl) rfl
                    · intro a' w' hE hK hd
                      obtain ⟨ug, hg, pg⟩ := got (hd ⟨2, .guard⟩ (by simp) rfl) rfl rfl
                      obtain rfl : ug = .bool false := pg
                      exact ok_not ((wanted_b rfl rfl rfl hg).trans rfl) rfl
                    · intro a' w' hE hK hd
                      obtain ⟨ug, hg, pg⟩ := got (hd ⟨2, .guard⟩ (by simp) rfl) rfl rfl
                      obtain rfl : ug = .bool false := pg
                      exact ok_not ((wanted_b rfl rfl rfl hg).trans rfl) rfl
                    · intro a' w' hE hK hd
                      obtain ⟨ug, hg, pg⟩ := got (hd ⟨2, .guard⟩ (by simp) rfl) rfl rfl
                      obtain rfl : ug = .bool false := pg
                      exact ok_not ((wanted_b rfl rfl rfl hg).trans rfl) rfl
                    · intro a' w' hE hK hd
                      obtain ⟨ug, hg, pg⟩ := got (hd ⟨2, .guard⟩ (by simp) rfl) rfl rfl
                      obtain rfl : ug = .bool false := pg
                      exact ok_not ((wanted_b rfl rfl rfl hg).trans rfl) rfl
                    · intro a' w' hE hK hd
                      obtain ⟨ug, hg, pg⟩ := got (hd ⟨2, .guard⟩ (by simp) rfl) rfl rfl
                      obtain rfl : ug = .bool false := pg
                      exact ok_not ((wanted_b rfl rfl rfl hg).trans rfl) rfl
                    · intro a' w' hE hK hd
                      obtain ⟨u2, h2, p2⟩ := got (hd ⟨2, .data⟩ (by simp) rfl) rfl rfl
                      obtain rfl : u2 = .bool false := p2
                      exact st_pickv (wanted_none rfl) rfl h2 rfl rfl
                    · intro a' w' hE hK hd
                      obtain ⟨u14, h14, p14⟩ := got (hd ⟨14, .data⟩ (by simp) rfl) rfl rfl
                      obtain rfl : u14 = .bool false := p14
                      exact st_move (wanted_none rfl) rfl h14 rfl
                    · intro a' w' hE hK hd
                      obtain ⟨ug, hg, pg⟩ := got (hd ⟨15, .guard⟩ (by simp) rfl) rfl rfl
                      obtain rfl : ug = .bool false := pg
                      exact st_run ((wanted_b rfl rfl rfl hg).trans rfl) (v := .func (.func 86) #[] #[]) (by have cg' := hE.cell cg; unfold execOp; simp [go_sem, cg']; done) rfl
                    · intro a' w' hE hK hd
                      obtain ⟨ug, hg, pg⟩ := got (hd ⟨15, .guard⟩ (by simp) rfl) rfl rfl
                      obtain rfl : ug = .bool false := pg
                      have hi11 : a'.tmps[11]? = some (.slice (some ad) vs.length cv) := hK.get 11 (by decide)
                      exact st_move ((wanted_b rfl rfl rfl hg).trans rfl) rfl hi11 rfl
                    · intro a' w' hE hK hd
                      obtain ⟨ug, hg, pg⟩ := got (hd ⟨15, .guard⟩ (by simp) rfl) rfl rfl
                      obtain rfl : ug = .bool false := pg
                      have hi12 : a'.tmps[12]? = some (.int .i64 ((0 : Nat) : Int)) := hK.get 12 (by decide)
                      exact st_move ((wanted_b rfl rfl rfl hg).trans rfl) rfl hi12 rfl
                    · intro a' w' hE hK hd
                      obtain ⟨ug, hg, pg⟩ := got (hd ⟨15, .guard⟩ (by simp) rfl) rfl rfl
                      obtain rfl : ug = .bool false := pg
                      obtain ⟨u17, h17, p17⟩ := got (hd ⟨17, .data⟩ (by simp) rfl) rfl rfl
                      obtain rfl : u17 = .slice (some ad) vs.length cv := p17
                      obtain ⟨u18, h18, p18⟩ := got (hd ⟨18, .data⟩ (by simp) rfl) rfl rfl
                      obtain rfl : u18 = .int .i64 ((0 : Nat) : Int) := p18
                      exact st_at ((wanted_b rfl rfl rfl hg).trans rfl) rfl Tryz.underlying33 (by kernel_rfl) h17 h18 hlt rfl
                    · intro a' w' hE hK hd
                      obtain ⟨ug, hg, pg⟩ := got (hd ⟨15, .guard⟩ (by simp) rfl) rfl rfl
                      obtain rfl : ug = .bool false := pg
                      obtain ⟨u19, h19, p19⟩ := got (hd ⟨19, .data⟩ (by simp) rfl) rfl rfl
                      obtain rfl : u19 = .pointer (some (ad.add 0)) := p19
                      exact st_load ((wanted_b rfl rfl rfl hg).trans rfl) rfl Tryz.underlying22 h19 (HXK.out _ hE).1 (HXK.out _ hE).2
                    · intro a' w' hE hK hd
                      obtain ⟨ug, hg, pg⟩ := got (hd ⟨15, .guard⟩ (by simp) rfl) rfl rfl
                      obtain rfl : ug = .bool false := pg
                      have hi0 : a'.tmps[0]? = some (.slice A a.length ca) := hK.get 0 (by decide)
                      exact st_move ((wanted_b rfl rfl rfl hg).trans rfl) rfl hi0 (HA5.out.ext hE)
                    · intro a' w' hE hK hd
                      obtain ⟨ug, hg, pg⟩ := got (hd ⟨15, .guard⟩ (by simp) rfl) rfl rfl
                      obtain rfl : ug = .bool false := pg
                      obtain ⟨u16, h16, p16⟩ := got (hd ⟨16, .data⟩ (by simp) rfl) rfl rfl
                      obtain rfl : u16 = .func (.func 86) #[] #[] := p16
                      obtain ⟨u20, h20, p20⟩ := got (hd ⟨20, .data⟩ (by simp) rfl) rfl rfl
                      have r20 : RI w' u20 X := p20
                      obtain ⟨u21, h21, p21⟩ := got (hd ⟨21, .data⟩ (by simp) rfl) rfl rfl
                      have r21 : RI w' u21 a := p21
                      exact st_call _ _ _ rfl ((wanted_b rfl rfl rfl hg).trans rfl) (eval_of h16) fv_same _ (by simp only [List.map_toArray, List.map_cons, List.map_nil, eval_of h20, eval_of h21]) ((HSA.out _ _ _ r20 r21).mono fun e w'' ⟨H1, H2⟩ => ⟨_, H1, H2, rfl⟩)
                    · intro a' w' hE hK hd
                      obtain ⟨ug, hg, pg⟩ := got (hd ⟨15, .guard⟩ (by simp) rfl) rfl rfl
                      obtain rfl : ug = .bool false := pg
                      obtain ⟨u22, h22, p22⟩ := got (hd ⟨22, .data⟩ (by simp) rfl) rfl rfl
                      obtain rfl : u22 = .bool true := p22
                      exact st_not ((wanted_b rfl rfl rfl hg).trans rfl) rfl h22 rfl
                    · intro a' w' hE hK hd
                      obtain ⟨ug, hg, pg⟩ := got (hd ⟨15, .guard⟩ (by simp) rfl) rfl rfl
                      obtain rfl : ug = .bool false := pg
                      obtain ⟨u23, h23, p23⟩ := got (hd ⟨23, .data⟩ (by simp) rfl) rfl rfl
                      obtain rfl : u23 = .bool false := p23
                      exact st_move ((wanted_b rfl rfl rfl hg).trans rfl) rfl h23 rfl
                    · intro a' w' hE hK hd
                      obtain ⟨ug, hg, pg⟩ := got (hd ⟨24, .guard⟩ (by simp) rfl) rfl rfl
                      obtain rfl : ug = .bool false := pg
                      exact ok_not ((wanted_b rfl rfl rfl hg).trans rfl) rfl
                    · intro a' w' hE hK hd
                      obtain ⟨ug, hg, pg⟩ := got (hd ⟨24, .guard⟩ (by simp) rfl) rfl rfl
                      obtain rfl : ug = .bool false := pg
                      exact ok_not ((wanted_b rfl rfl rfl hg).trans rfl) rfl
                    · intro a' w' hE hK hd
                      obtain ⟨ug, hg, pg⟩ := got (hd ⟨24, .guard⟩ (by simp) rfl) rfl rfl
                      obtain rfl : ug = .bool false := pg
                      exact ok_not ((wanted_b rfl rfl rfl hg).trans rfl) rfl
                    · intro a' w' hE hK hd
                      obtain ⟨ug, hg, pg⟩ := got (hd ⟨24, .guard⟩ (by simp) rfl) rfl rfl
                      obtain rfl : ug = .bool false := pg
                      exact ok_not ((wanted_b rfl rfl rfl hg).trans rfl) rfl
                    · intro a' w' hE hK hd
                      obtain ⟨ug, hg, pg⟩ := got (hd ⟨24, .guard⟩ (by simp) rfl) rfl rfl
                      obtain rfl : ug = .bool false := pg
                      exact ok_not ((wanted_b rfl rfl rfl hg).trans rfl) rfl
                    · intro a' w' hE hK hd
                      obtain ⟨ug, hg, pg⟩ := got (hd ⟨24, .guard⟩ (by simp) rfl) rfl rfl
                      obtain rfl : ug = .bool false := pg
                      exact ok_not ((wanted_b rfl rfl rfl hg).trans rfl) rfl
                    · intro a' w' hE hK hd
                      obtain ⟨ug, hg, pg⟩ := got (hd ⟨24, .guard⟩ (by simp) rfl) rfl rfl
                      obtain rfl : ug = .bool false := pg
                      exact ok_not ((wanted_b rfl rfl rfl hg).trans rfl) rfl
                    · intro a' w' hE hK hd
                      obtain ⟨ug, hg, pg⟩ := got (hd ⟨24, .guard⟩ (by simp) rfl) rfl rfl
                      obtain rfl : ug = .bool false := pg
                      exact ok_not ((wanted_b rfl rfl rfl hg).trans rfl) rfl
                    · intro a' w' hE hK hd
                      obtain ⟨ug, hg, pg⟩ := got (hd ⟨15, .guard⟩ (by simp) rfl) rfl rfl
                      obtain rfl : ug = .bool false := pg
                      obtain ⟨u24, h24, p24⟩ := got (hd ⟨24, .data⟩ (by simp) rfl) rfl rfl
                      obtain rfl : u24 = .bool false := p24
                      exact st_pickv ((wanted_b rfl rfl rfl hg).trans rfl) rfl h24 rfl rfl
                    · intro a' w' hE hK hd
                      obtain ⟨ug, hg, pg⟩ := got (hd ⟨15, .guard⟩ (by simp) rfl) rfl rfl
                      obtain rfl : ug = .bool false := pg
                      obtain ⟨u33, h33, p33⟩ := got (hd ⟨33, .data⟩ (by simp) rfl) rfl rfl
                      obtain rfl : u33 = .bool false := p33
                      exact st_move ((wanted_b rfl rfl rfl hg).trans rfl) rfl h33 rfl
                    · intro a' w' hE hK hd
                      obtain ⟨ug, hg, pg⟩ := got (hd ⟨34, .guard⟩ (by simp) rfl) rfl rfl
                      obtain rfl : ug = .bool false := pg
                      exact ok_not ((wanted_b rfl rfl rfl hg).trans rfl) rfl
                    · intro a' w' hE hK hd
                      obtain ⟨ug, hg, pg⟩ := got (hd ⟨34, .guard⟩ (by simp) rfl) rfl rfl
                      obtain rfl : ug = .bool false := pg
                      exact ok_not ((wanted_b rfl rfl rfl hg).trans rfl) rfl
                    · intro a' w' hE hK hd
                      obtain ⟨ug, hg, pg⟩ := got (hd ⟨34, .guard⟩ (by simp) rfl) rfl rfl
                      obtain rfl : ug = .bool false := pg
                      exact ok_not ((wanted_b rfl rfl rfl hg).trans rfl) rfl
                    · intro a' w' hE hK hd
                      obtain ⟨ug, hg, pg⟩ := got (hd ⟨34, .guard⟩ (by simp) rfl) rfl rfl
                      obtain rfl : ug = .bool false := pg
                      exact ok_not ((wanted_b rfl rfl rfl hg).trans rfl) rfl
                    · intro a' w' hE hK hd
                      obtain ⟨ug, hg, pg⟩ := got (hd ⟨34, .guard⟩ (by simp) rfl) rfl rfl
                      obtain rfl : ug = .bool false := pg
                      exact ok_not ((wanted_b rfl rfl rfl hg).trans rfl) rfl
                    · intro a' w' hE hK hd
                      obtain ⟨ug, hg, pg⟩ := got (hd ⟨34, .guard⟩ (by simp) rfl) rfl rfl
                      obtain rfl : ug = .bool false := pg
                      exact ok_not ((wanted_b rfl rfl rfl hg).trans rfl) rfl
                    · intro a' w' hE hK hd
                      obtain ⟨ug, hg, pg⟩ := got (hd ⟨34, .guard⟩ (by simp) rfl) rfl rfl
                      obtain rfl : ug = .bool false := pg
                      exact ok_not ((wanted_b rfl rfl rfl hg).trans rfl) rfl
                    · intro a' w' hE hK hd
                      obtain ⟨ug, hg, pg⟩ := got (hd ⟨34, .guard⟩ (by simp) rfl) rfl rfl
                      obtain rfl : ug = .bool false := pg
                      exact ok_not ((wanted_b rfl rfl rfl hg).trans rfl) rfl
                    · intro a' w' hE hK hd
                      obtain ⟨ug, hg, pg⟩ := got (hd ⟨15, .guard⟩ (by simp) rfl) rfl rfl
                      obtain rfl : ug = .bool false := pg
                      obtain ⟨u34, h34, p34⟩ := got (hd ⟨34, .data⟩ (by simp) rfl) rfl rfl
                      obtain rfl : u34 = .bool false := p34
                      exact st_pickv ((wanted_b rfl rfl rfl hg).trans rfl) rfl h34 rfl rfl
                    · intro a' w' hE hK hd
                      obtain ⟨u15, h15, p15⟩ := got (hd ⟨15, .data⟩ (by simp) rfl) rfl rfl
                      obtain rfl : u15 = .bool false := p15
                      obtain ⟨u43, h43, p43⟩ := got (hd ⟨43, .data⟩ (by simp) rfl) rfl rfl
                      obtain rfl : u43 = .bool false := p43
                      exact st_pickv (wanted_none rfl) rfl h15 (eval_of h43) rfl
                  · intro a' w' hE hK hG
                    obtain ⟨u, h44, p44⟩ := got (hG 44 (by decide)) rfl rfl
                    obtain rfl : u = .bool false := p44
                    refine hMK a' w' (Met.intro (hRJ a' w' ?_))
                    refine ⟨_, _, _, _, _, _, _, _, _, _, _, _, _, _, _, _, _, _, _, _, _, _, _, _, _, _, _, _, _, _, _, _, _, _, _, _, _, _, _, _, _, _, _, _, _, ?_, Kep.re hK rfl 98 142 (by decide)⟩
                    refine ⟨?_, Lib.hid (HEW.out.trans hE)⟩
                    show (a'.tmps[142]?).getD undef = _
                    rw [h44]; rfl
                · rw [decide_eq_false hxa] at HSA
                  by_cases hxb : X = b
                  · rw [decide_eq_true hxb] at HSB
                    refine wp_region_mono (W := wx) rfl (Kd.at [.val (.int .i64 ((0 : Nat) : Int)), .val (.bool false), .val (.bool false), .val undef, .val undef, .val undef, .val undef, .val undef, .val undef, .val undef, .val undef, .val undef, .val undef, .val undef, .val (.bool false), .val (.bool false), .fv 86, .val (.slice (some ad) vs.length cv), .val (.int .i64 ((0 : Nat) : Int)), .val (.pointer (some (ad.add 0))), .row X, .row a, .val (.bool false), .val (.bool true), .val (.bool true), .fv 86, .val (.slice (some ad) vs.length cv), .val (.int .i64 ((0 : Nat) : Int)), .val (.pointer (some (ad.add 0))), .row X, .row b, .val (.bool true), .val (.bool false), .val (.bool false), .val (.bool false), .val undef, .val undef, .val undef, .val undef, .val undef, .val undef, .val undef, .val undef, .val (.bool false), .val (.bool false)]) (Kd.at_mono _) 162 rfl (by decide) (by decide) (by decide) ?_ ?_
                    · refine ⟨?_, ?_, ?_, ?_, ?_, ?_, ?_, ?_, ?_, ?_, ?_, ?_, ?_, ?_, ?_, ?_, ?_, ?_, ?_, ?_, ?_, ?_, ?_, ?_, ?_, ?_, ?_, ?_, ?_, ?_, ?_, ?_, ?_, ?_, ?_, ?_, ?_, ?_, ?_, ?_, ?_, ?_, ?_, ?_, ?_, trivial⟩
                      · intro a' w' hE hK hd
                        have hi12 : a'.tmps[12]? = some (.int .i64 ((0 : Nat) : Int)) := hK.get 12 (by decide)
                        exact st_move (wanted_none rfl) rfl hi12 rfl
                      · intro a' w' hE hK hd
                        obtain ⟨u0, h0, p0⟩ := got (hd ⟨0, .data⟩ (by simp) rfl) rfl rfl
                        obtain rfl : u0 = .int .i64 ((0 : Nat) : Int) := p0
                        exact st_run (wanted_none rfl) (v := .bool false) (by unfold execOp; simp [h0, go_sem]) rfl
                      · intro a' w' hE hK hd
                        obtain ⟨u1, h1, p1⟩ := got (hd ⟨1, .data⟩ (by simp) rfl) rfl rfl
                        obtain rfl : u1 = .bool false := p1
                        exact st_move (wanted_none rfl) rfl h1 rfl
                      · intro a' w' hE hK hd
                        obtain ⟨ug, hg, pg⟩ := got (hd ⟨2, .guard⟩ (by simp) rfl) rfl rfl
                        obtain rfl : ug = .bool false := pg
                        exact ok_not ((wanted_b rfl rfl rfl hg).trans rfl) rfl
                      · intro a' w' hE hK hd
                        obtain ⟨ug, hg, pg⟩ := got (hd ⟨2, .guard⟩ (by simp) rfl) rfl rfl
                        obtain rfl : ug = .bool false := pg
                        exact ok_not ((wanted_b rfl rfl rfl hg).trans rfl) rfl
                      · intro a' w' hE hK hd
                        obtain ⟨ug, hg, pg⟩ := got (hd ⟨2, .guard⟩ (by simp) rfl) rfl rfl
                        obtain rfl : ug = .bool false := pg
                        exact ok_not ((wanted_b rfl rfl rfl hg).trans rfl) rfl
                      · intro a' w' hE hK hd
                        obtain ⟨ug, hg, pg⟩ := got (hd ⟨2, .guard⟩ (by simp) rfl) rfl rfl
                        obtain rfl : ug = .bool false := pg
                        exact ok_not ((wanted_b rfl rfl rfl hg).trans rfl) rfl
                      · intro a' w' hE hK hd
                        obtain ⟨ug, hg, pg⟩ := got (hd ⟨2, .guard⟩ (by simp) rfl) rfl rfl
                        obtain rfl : ug = .bool false := pg
                        exact ok_not ((wanted_b rfl rfl rfl hg).trans rfl) rfl
                      · intro a' w' hE hK hd
                        obtain ⟨ug, hg, pg⟩ := got (hd ⟨2, .guard⟩ (by simp) rfl) rfl rfl
                        obtain rfl : ug = .bool false := pg
                        exact ok_not ((wanted_b rfl rfl rfl hg).trans rfl) rfl
                      · intro a' w' hE hK hd
                        obtain ⟨ug, hg, pg⟩ := got (hd ⟨2, .guard⟩ (by simp) rfl) rfl rfl
                        obtain rfl : ug = .bool false := pg
                        exact ok_not ((wanted_b rfl rfl rfl hg).trans rfl) rfl
                      · intro a' w' hE hK hd
                        obtain ⟨ug, hg, pg⟩ := got (hd ⟨2, .guard⟩ (by simp) rfl) rfl rfl
                        obtain rfl : ug = .bool false := pg
                        exact ok_not ((wanted_b rfl rfl rfl hg).trans rfl) rfl
                      · intro a' w' hE hK hd
                        obtain ⟨ug, hg, pg⟩ := got (hd ⟨2, .guard⟩ (by simp) rfl) rfl rfl
                        obtain rfl : ug = .bool false := pg
                        exact ok_not ((wanted_b rfl rfl rfl hg).trans rfl) rfl
                      · intro a' w' hE hK hd
                        obtain ⟨ug, hg, pg⟩ := got (hd ⟨2, .guard⟩ (by simp) rfl) rfl rfl
                        obtain rfl : ug = .bool false := pg
                        exact ok_not ((wanted_b rfl rfl rfl hg).trans rfl) rfl
                      · intro a' w' hE hK hd
                        obtain ⟨ug, hg, pg⟩ := got (hd ⟨2, .guard⟩ (by simp) rfl) rfl rfl
                        obtain rfl : ug = .bool false := pg
                        exact ok_not ((wanted_b rfl rfl rfl hg).trans rfl) rfl
                      · intro a' w' hE hK hd
                        obtain ⟨u2, h2, p2⟩ := got (hd ⟨2, .data⟩ (by simp) rfl) rfl rfl
                        obtain rfl : u2 = .bool false := p2
                        exact st_pickv (wanted_none rfl) rfl h2 rfl rfl
                      · intro a' w' hE hK hd
                        obtain ⟨u14, h14, p14⟩ := got (hd ⟨14, .data⟩ (by simp) rfl) rfl rfl
                        obtain rfl : u14 = .bool false := p14
                        exact st_move (wanted_none rfl) rfl h14 rfl
                      · intro a' w' hE hK hd
                        obtain ⟨ug, hg, pg⟩ := got (hd ⟨15, .guard⟩ (by simp) rfl) rfl rfl
                        obtain rfl : ug = .bool false := pg
                        exact st_run ((wanted_b rfl rfl rfl hg).trans rfl) (v := .func (.func 86) #[] #[]) (by have cg' := hE.cell cg; unfold execOp; simp [go_sem, cg']; done) rfl
                      · intro a' w' hE hK hd
                        obtain ⟨ug, hg, pg⟩ := got (hd ⟨15, .guard⟩ (by simp) rfl) rfl rfl
                        obtain rfl : ug = .bool false := pg
                        have hi11 : a'.tmps[11]? = some (.slice (some ad) vs.length cv) := hK.get 11 (by decide)
                        exact st_move ((wanted_b rfl rfl rfl hg).trans rfl) rfl hi11 rfl
                      · intro a' w' hE hK hd
                        obtain ⟨ug, hg, pg⟩ := got (hd ⟨15, .guard⟩ (by simp) rfl) rfl rfl
                        obtain rfl : ug = .bool false := pg
                        have hi12 : a'.tmps[12]? = some (.int .i64 ((0 : Nat) : Int)) := hK.get 12 (by decide)
                        exact st_move ((wanted_b rfl rfl rfl hg).trans rfl) rfl hi12 rfl
                      · intro a' w' hE hK hd
                        obtain ⟨ug, hg, pg⟩ := got (hd ⟨15, .guard⟩ (by simp) rfl) rfl rfl
                        obtain rfl : ug = .bool false := pg
                        obtain ⟨u17, h17, p17⟩ := got (hd ⟨17, .data⟩ (by simp) rfl) rfl rfl
                        obtain rfl : u17 = .slice (some ad) vs.length cv := p17
                        obtain ⟨u18, h18, p18⟩ := got (hd ⟨18, .data⟩ (by simp) rfl) rfl rfl
                        obtain rfl : u18 = .int .i64 ((0 : Nat) : Int) := p18
                        exact st_at ((wanted_b rfl rfl rfl hg).trans rfl) rfl Tryz.underlying33 (by kernel_rfl) h17 h18 hlt rfl
                      · intro a' w' hE hK hd
                        obtain ⟨ug, hg, pg⟩ := got (hd ⟨15, .guard⟩ (by simp) rfl) rfl rfl
                        obtain rfl : ug = .bool false := pg
                        obtain ⟨u19, h19, p19⟩ := got (hd ⟨19, .data⟩ (by simp) rfl) rfl rfl
                        obtain rfl : u19 = .pointer (some (ad.add 0)) := p19
                        exact st_load ((wanted_b rfl rfl rfl hg).trans rfl) rfl Tryz.underlying22 h19 (HXK.out _ hE).1 (HXK.out _ hE).2
                      · intro a' w' hE hK hd
                        obtain ⟨ug, hg, pg⟩ := got (hd ⟨15, .guard⟩ (by simp) rfl) rfl rfl
                        obtain rfl : ug = .bool false := pg
                        have hi0 : a'.tmps[0]? = some (.slice A a.length ca) := hK.get 0 (by decide)
                        exact st_move ((wanted_b rfl rfl rfl hg).trans rfl) rfl hi0 (HA5.out.ext hE)
                      · intro a' w' hE hK hd
                        obtain ⟨ug, hg, pg⟩ := got (hd ⟨15, .guard⟩ (by simp) rfl) rfl rfl
                        obtain rfl : ug = .bool false := pg
                        obtain ⟨u16, h16, p16⟩ := got (hd ⟨16, .data⟩ (by simp) rfl) rfl rfl
                        obtain rfl : u16 = .func (.func 86) #[] #[] := p16
                        obtain ⟨u20, h20, p20⟩ := got (hd ⟨20, .data⟩ (by simp) rfl) rfl rfl
                        have r20 : RI w' u20 X := p20
                        obtain ⟨u21, h21, p21⟩ := got (hd ⟨21, .data⟩ (by simp) rfl) rfl rfl
                        have r21 : RI w' u21 a := p21
                        exact st_call _ _ _ rfl ((wanted_b rfl rfl rfl hg).trans rfl) (eval_of h16) fv_same _ (by simp only [List.map_toArray, List.map_cons, List.map_nil, eval_of h20, eval_of h21]) ((HSA.out _ _ _ r20 r21).mono fun e w'' ⟨H1, H2⟩ => ⟨_, H1, H2, rfl⟩)
                      · intro a' w' hE hK hd
                        obtain ⟨ug, hg, pg⟩ := got (hd ⟨15, .guard⟩ (by simp) rfl) rfl rfl
                        obtain rfl : ug = .bool false := pg
                        obtain ⟨u22, h22, p22⟩ := got (hd ⟨22, .data⟩ (by simp) rfl) rfl rfl
                        obtain rfl : u22 = .bool false := p22
                        exact st_not ((wanted_b rfl rfl rfl hg).trans rfl) rfl h22 rfl
                      · intro a' w' hE hK hd
                        obtain ⟨ug, hg, pg⟩ := got (hd ⟨15, .guard⟩ (by simp) rfl) rfl rfl
                        obtain rfl : ug = .bool false := pg
                        obtain ⟨u23, h23, p23⟩ := got (hd ⟨23, .data⟩ (by simp) rfl) rfl rfl
                        obtain rfl : u23 = .bool true := p23
                        exact st_move ((wanted_b rfl rfl rfl hg).trans rfl) rfl h23 rfl
                      · intro a' w' hE hK hd
                        obtain ⟨ug, hg, pg⟩ := got (hd ⟨24, .guard⟩ (by simp) rfl) rfl rfl
                        obtain rfl : ug = .bool true := pg
                        exact st_run ((wanted_b rfl rfl rfl hg).trans rfl) (v := .func (.func 86) #[] #[]) (by have cg' := hE.cell cg; unfold execOp; simp [go_sem, cg']; done) rfl
                      · intro a' w' hE hK hd
                        obtain ⟨ug, hg, pg⟩ := got (hd ⟨24, .guard⟩ (by simp) rfl) rfl rfl
                        obtain rfl : ug = .bool true := pg
                        have hi11 : a'.tmps[11]? = some (.slice (some ad) vs.length cv) := hK.get 11 (by decide)
                        exact st_move ((wanted_b rfl rfl rfl hg).trans rfl) rfl hi11 rfl
                      · intro a' w' hE hK hd
                        obtain ⟨ug, hg, pg⟩ := got (hd ⟨24, .guard⟩ (by simp) rfl) rfl rfl
                        obtain rfl : ug = .bool true := pg
                        have hi12 : a'.tmps[12]? = some (.int .i64 ((0 : Nat) : Int)) := hK.get 12 (by decide)
                        exact st_move ((wanted_b rfl rfl rfl hg).trans rfl) rfl hi12 rfl
                      · intro a' w' hE hK hd
                        obtain ⟨ug, hg, pg⟩ := got (hd ⟨24, .guard⟩ (by simp) rfl) rfl rfl
                        obtain rfl : ug = .bool true := pg
                        obtain ⟨u26, h26, p26⟩ := got (hd ⟨26, .data⟩ (by simp) rfl) rfl rfl
                        obtain rfl : u26 = .slice (some ad) vs.length cv := p26
                        obtain ⟨u27, h27, p27⟩ := got (hd ⟨27, .data⟩ (by simp) rfl) rfl rfl
                        obtain rfl : u27 = .int .i64 ((0 : Nat) : Int) := p27
                        exact st_at ((wanted_b rfl rfl rfl hg).trans rfl) rfl Tryz.underlying33 (by kernel_rfl) h26 h27 hlt rfl
                      · intro a' w' hE hK hd
                        obtain ⟨ug, hg, pg⟩ := got (hd ⟨24, .guard⟩ (by simp) rfl) rfl rfl
                        obtain rfl : ug = .bool true := pg
                        obtain ⟨u28, h28, p28⟩ := got (hd ⟨28, .data⟩ (by simp) rfl) rfl rfl
                        obtain rfl : u28 = .pointer (some (ad.add 0)) := p28
                        exact st_load ((wanted_b rfl rfl rfl hg).trans rfl) rfl Tryz.underlying22 h28 (HXK.out _ hE).1 (HXK.out _ hE).2
                      · intro a' w' hE hK hd
                        obtain ⟨ug, hg, pg⟩ := got (hd ⟨24, .guard⟩ (by simp) rfl) rfl rfl
                        obtain rfl : ug = .bool true := pg
                        have hi1 : a'.tmps[1]? = some (.slice B b.length cb) := hK.get 1 (by decide)
                        exact st_move ((wanted_b rfl rfl rfl hg).trans rfl) rfl hi1 (HB5.out.ext hE)
                      · intro a' w' hE hK hd
                        obtain ⟨ug, hg, pg⟩ := got (hd ⟨24, .guard⟩ (by simp) rfl) rfl rfl
                        obtain rfl : ug = .bool true := pg
                        obtain ⟨u25, h25, p25⟩ := got (hd ⟨25, .data⟩ (by simp) rfl) rfl rfl
                        obtain rfl : u25 = .func (.func 86) #[] #[] := p25
                        obtain ⟨u29, h29, p29⟩ := got (hd ⟨29, .data⟩ (by simp) rfl) rfl rfl
                        have r29 : RI w' u29 X := p29
                        obtain ⟨u30, h30, p30⟩ := got (hd ⟨30, .data⟩ (by simp) rfl) rfl rfl
                        have r30 : RI w' u30 b := p30
                        exact st_call _ _ _ rfl ((wanted_b rfl rfl rfl hg).trans rfl) (eval_of h25) fv_same _ (by simp only [List.map_toArray, List.map_cons, List.map_nil, eval_of h29, eval_of h30]) ((HSB.out _ _ _ r29 r30).mono fun e w'' ⟨H1, H2⟩ => ⟨_, H1, H2, rfl⟩)
                      · intro a' w' hE hK hd
                        obtain ⟨ug, hg, pg⟩ := got (hd ⟨24, .guard⟩ (by simp) rfl) rfl rfl
                        obtain rfl : ug = .bool true := pg
                        obtain ⟨u31, h31, p31⟩ := got (hd ⟨31, .data⟩ (by simp) rfl) rfl rfl
                        obtain rfl : u31 = .bool true := p31
                        exact st_not ((wanted_b rfl rfl rfl hg).trans rfl) rfl h31 rfl
                      · intro a' w' hE hK hd
                        obtain ⟨ug, hg, pg⟩ := got (hd ⟨15, .guard⟩ (by simp) rfl) rfl rfl
                        obtain rfl : ug = .bool false := pg
                        obtain ⟨u24, h24, p24⟩ := got (hd ⟨24, .data⟩ (by simp) rfl) rfl rfl
                        obtain rfl : u24 = .bool true := p24
                        obtain ⟨u32, h32, p32⟩ := got (hd ⟨32, .data⟩ (by simp) rfl) rfl rfl
                        obtain rfl : u32 = .bool false := p32
                        exact st_pickv ((wanted_b rfl rfl rfl hg).trans rfl) rfl h24 (eval_of h32) rfl
                      · intro a' w' hE hK hd
                        obtain ⟨ug, hg, pg⟩ := got (hd ⟨15, .guard⟩ (by simp) rfl) rfl rfl
                        obtain rfl : ug = .bool false := pg
                        obtain ⟨u33, h33, p33⟩ := got (hd ⟨33, .data⟩ (by simp) rfl) rfl rfl
                        obtain rfl : u33 = .bool false := p33
                        exact st_move ((wanted_b rfl rfl rfl hg).trans rfl) rfl h33 rfl
                      · intro a' w' hE hK hd
                        obtain ⟨ug, hg, pg⟩ := got (hd ⟨34, .guard⟩ (by simp) rfl) rfl rfl
                        obtain rfl : ug = .bool false := pg
                        exact ok_not ((wanted_b rfl rfl rfl hg).trans rfl) rfl
                      · intro a' w' hE hK hd
                        obtain ⟨ug, hg, pg⟩ := got (hd ⟨34, .guard⟩ (by simp) rfl) rfl rfl
                        obtain rfl : ug = .bool false := pg
                        exact ok_not ((wanted_b rfl rfl rfl hg).trans rfl) rfl
                      · intro a' w' hE hK hd
                        obtain ⟨ug, hg, pg⟩ := got (hd ⟨34, .guard⟩ (by simp) rfl) rfl rfl
                        obtain rfl : ug = .bool false := pg
                        exact ok_not ((wanted_b rfl rfl rfl hg).trans rfl) rfl
                      · intro a' w' hE hK hd
                        obtain ⟨ug, hg, pg⟩ := got (hd ⟨34, .guard⟩ (by simp) rfl) rfl rfl
                        obtain rfl : ug = .bool false := pg
                        exact ok_not ((wanted_b rfl rfl rfl hg).trans rfl) rfl
                      · intro a' w' hE hK hd
                        obtain ⟨ug, hg, pg⟩ := got (hd ⟨34, .guard⟩ (by simp) rfl) rfl rfl
                        obtain rfl : ug = .bool false := pg
                        exact ok_not ((wanted_b rfl rfl rfl hg).trans rfl) rfl
                      · intro a' w' hE hK hd
                        obtain ⟨ug, hg, pg⟩ := got (hd ⟨34, .guard⟩ (by simp) rfl) rfl rfl
                        obtain rfl : ug = .bool false := pg
                        exact ok_not ((wanted_b rfl rfl rfl hg).trans rfl) rfl
                      · intro a' w' hE hK hd
                        obtain ⟨ug, hg, pg⟩ := got (hd ⟨34, .guard⟩ (by simp) rfl) rfl rfl
                        obtain rfl : ug = .bool false := pg
                        exact ok_not ((wanted_b rfl rfl rfl hg).trans rfl) rfl
                      · intro a' w' hE hK hd
                        obtain ⟨ug, hg, pg⟩ := got (hd ⟨34, .guard⟩ (by simp) rfl) rfl rfl
                        obtain rfl : ug = .bool false := pg
                        exact ok_not ((wanted_b rfl rfl rfl hg).trans rfl) rfl
                      · intro a' w' hE hK hd
                        obtain ⟨ug, hg, pg⟩ := got (hd ⟨15, .guard⟩ (by simp) rfl) rfl rfl
                        obtain rfl : ug = .bool false := pg
                        obtain ⟨u34, h34, p34⟩ := got (hd ⟨34, .data⟩ (by simp) rfl) rfl rfl
                        obtain rfl : u34 = .bool false := p34
                        exact st_pickv ((wanted_b rfl rfl rfl hg).trans rfl) rfl h34 rfl rfl
                      · intro a' w' hE hK hd
                        obtain ⟨u15, h15, p15⟩ := got (hd ⟨15, .data⟩ (by simp) rfl) rfl rfl
                        obtain rfl : u15 = .bool false := p15
                        obtain ⟨u43, h43, p43⟩ := got (hd ⟨43, .data⟩ (by simp) rfl) rfl rfl
                        obtain rfl : u43 = .bool false := p43
                        exact st_pickv (wanted_none rfl) rfl h15 (eval_of h43) rfl
                    · intro a' w' hE hK hG
                      obtain ⟨u, h44, p44⟩ := got (hG 44 (by decide)) rfl rfl
                      obtain rfl : u = .bool false := p44
                      refine hMK a' w' (Met.intro (hRJ a' w' ?_))
                      refine ⟨_, _, _, _, _, _, _, _, _, _, _, _, _, _, _, _, _, _, _, _, _, _, _, _, _, _, _, _, _, _, _, _, _, _, _, _, _, _, _, _, _, _, _, _, _, ?_, Kep.re hK rfl 98 142 (by decide)⟩
                      refine ⟨?_, Lib.hid (HEW.out.trans hE)⟩
                      show (a'.tmps[142]?).getD undef = _
                      rw [h44]; rfl
                  · rw [decide_eq_false hxb] at HSB
                    have hxc : X = c := by simpa [hxa, hxb] using hXm
                    rw [decide_eq_true hxc] at HSC
                    refine wp_region_mono (W := wx) rfl (Kd.at [.val (.int .i64 ((0 : Nat) : Int)), .val (.bool false), .val (.bool false), .val undef, .val undef, .val undef, .val undef, .val undef, .val undef, .val undef, .val undef, .val undef, .val undef, .val undef, .val (.bool false), .val (.bool false), .fv 86, .val (.slice (some ad) vs.length cv), .val (.int .i64 ((0 : Nat) : Int)), .val (.pointer (some (ad.add 0))), .row X, .row a, .val (.bool false), .val (.bool true), .val (.bool true), .fv 86, .val (.slice (some ad) vs.length cv), .val (.int .i64 ((0 : Nat) : Int)), .val (.pointer (some (ad.add 0))), .row X, .row b, .val (.bool false), .val (.bool true), .val (.bool true), .val (.bool true), .fv 86, .val (.slice (some ad) vs.length cv), .val (.int .i64 ((0 : Nat) : Int)), .val (.pointer (some (ad.add 0))), .row X, .row c, .val (.bool true), .val (.bool false), .val (.bool false), .val (.bool false)]) (Kd.at_mono _) 162 rfl (by decide) (by decide) (by decide) ?_ ?_
                    · refine ⟨?_, ?_, ?_, ?_, ?_, ?_, ?_, ?_, ?_, ?_, ?_, ?_, ?_, ?_, ?_, ?_, ?_, ?_, ?_, ?_, ?_, ?_, ?_, ?_, ?_, ?_, ?_, ?_, ?_, ?_, ?_, ?_, ?_, ?_, ?_, ?_, ?_, ?_, ?_, ?_, ?_, ?_, ?_, ?_, ?_, trivial⟩
                      · intro a' w' hE hK hd
                        have hi12 : a'.tmps[12]? = some (.int .i64 ((0 : Nat) : Int)) := hK.get 12 (by decide)
                        exact st_move (wanted_none rfl) rfl hi12 rfl
                      · intro a' w' hE hK hd
                        obtain ⟨u0, h0, p0⟩ := got (hd ⟨0, .data⟩ (by simp) rfl) rfl rfl
                        obtain rfl : u0 = .int .i64 ((0 : Nat) : Int) := p0
                        exact st_run (wanted_none rfl) (v := .bool false) (by unfold execOp; simp [h0, go_sem]) rfl
                      · intro a' w' hE hK hd
                        obtain ⟨u1, h1, p1⟩ := got (hd ⟨1, .data⟩ (by simp) rfl) rfl rfl
                        obtain rfl : u1 = .bool false := p1
                        exact st_move (wanted_none rfl) rfl h1 rfl
                      · intro a' w' hE hK hd
                        obtain ⟨ug, hg, pg⟩ := got (hd ⟨2, .guard⟩ (by simp) rfl) rfl rfl
                        obtain rfl : ug = .bool false := pg
                        exact ok_not ((wanted_b rfl rfl rfl hg).trans rfl) rfl
                      · intro a' w' hE hK hd
                        obtain ⟨ug, hg, pg⟩ := got (hd ⟨2, .guard⟩ (by simp) rfl) rfl rfl
                        obtain rfl : ug = .bool false := pg
                        exact ok_not ((wanted_b rfl rfl rfl hg).trans rfl) rfl
                      · intro a' w' hE hK hd
                        obtain ⟨ug, hg, pg⟩ := got (hd ⟨2, .guard⟩ (by simp) rfl) rfl rfl
                        obtain rfl : ug = .bool false := pg
                        exact ok_not ((wanted_b rfl rfl rfl hg).trans rfl) rfl
                      · intro a' w' hE hK hd
                        obtain ⟨ug, hg, pg⟩ := got (hd ⟨2, .guard⟩ (by simp) rfl) rfl rfl
                        obtain rfl : ug = .bool false := pg
                        exact ok_not ((wanted_b rfl rfl rfl hg).trans rfl) rfl
                      · intro a' w' hE hK hd
                        obtain ⟨ug, hg, pg⟩ := got (hd ⟨2, .guard⟩ (by simp) rfl) rfl rfl
                        obtain rfl : ug = .bool false := pg
                        exact ok_not ((wanted_b rfl rfl rfl hg).trans rfl) rfl
                      · intro a' w' hE hK hd
                        obtain ⟨ug, hg, pg⟩ := got (hd ⟨2, .guard⟩ (by simp) rfl) rfl rfl
                        obtain rfl : ug = .bool false := pg
                        exact ok_not ((wanted_b rfl rfl rfl hg).trans rfl) rfl
                      · intro a' w' hE hK hd
                        obtain ⟨ug, hg, pg⟩ := got (hd ⟨2, .guard⟩ (by simp) rfl) rfl rfl
                        obtain rfl : ug = .bool false := pg
                        exact ok_not ((wanted_b rfl rfl rfl hg).trans rfl) rfl
                      · intro a' w' hE hK hd
                        obtain ⟨ug, hg, pg⟩ := got (hd ⟨2, .guard⟩ (by simp) rfl) rfl rfl
                        obtain rfl : ug = .bool false := pg
                        exact ok_not ((wanted_b rfl rfl rfl hg).trans rfl) rfl
                      · intro a' w' hE hK hd
                        obtain ⟨ug, hg, pg⟩ := got (hd ⟨2, .guard⟩ (by simp) rfl) rfl rfl
                        obtain rfl : ug = .bool false := pg
                        exact ok_not ((wanted_b rfl rfl rfl hg).trans rfl) rfl
                      · intro a' w' hE hK hd
                        obtain ⟨ug, hg, pg⟩ := got (hd ⟨2, .guard⟩ (by simp) rfl) rfl rfl
                        obtain rfl : ug = .bool false := pg
                        exact ok_not ((wanted_b rfl rfl rfl hg).trans rfl) rfl
                      · intro a' w' hE hK hd
                        obtain ⟨ug, hg, pg⟩ := got (hd ⟨2, .guard⟩ (by simp) rfl) rfl rfl
                        obtain rfl : ug = .bool false := pg
                        exact ok_not ((wanted_b rfl rfl rfl hg).trans rfl) rfl
                      · intro a' w' hE hK hd
                        obtain ⟨u2, h2, p2⟩ := got (hd ⟨2, .data⟩ (by simp) rfl) rfl rfl
                        obtain rfl : u2 = .bool false := p2
                        exact st_pickv (wanted_none rfl) rfl h2 rfl rfl
                      · intro a' w' hE hK hd
                        obtain ⟨u14, h14, p14⟩ := got (hd ⟨14, .data⟩ (by simp) rfl) rfl rfl
                        obtain rfl : u14 = .bool false := p14
                        exact st_move (wanted_none rfl) rfl h14 rfl
                      · intro a' w' hE hK hd
                        obtain ⟨ug, hg, pg⟩ := got (hd ⟨15, .guard⟩ (by simp) rfl) rfl rfl
                        obtain rfl : ug = .bool false := pg
                        exact st_run ((wanted_b rfl rfl rfl hg).trans rfl) (v := .func (.func 86) #[] #[]) (by have cg' := hE.cell cg; unfold execOp; simp [go_sem, cg']; done) rfl
                      · intro a' w' hE hK hd
                        obtain ⟨ug, hg, pg⟩ := got (hd ⟨15, .guard⟩ (by simp) rfl) rfl rfl
                        obtain rfl : ug = .bool false := pg
                        have hi11 : a'.tmps[11]? = some (.slice (some ad) vs.length cv) := hK.get 11 (by decide)
                        exact st_move ((wanted_b rfl rfl rfl hg).trans rfl) rfl hi11 rfl
                      · intro a' w' hE hK hd
                        obtain ⟨ug, hg, pg⟩ := got (hd ⟨15, .guard⟩ (by simp) rfl) rfl rfl
                        obtain rfl : ug = .bool false := pg
                        have hi12 : a'.tmps[12]? = some (.int .i64 ((0 : Nat) : Int)) := hK.get 12 (by decide)
                        exact st_move ((wanted_b rfl rfl rfl hg).trans rfl) rfl hi12 rfl
                      · intro a' w' hE hK hd
                        obtain ⟨ug, hg, pg⟩ := got (hd ⟨15, .guard⟩ (by simp) rfl) rfl rfl
                        obtain rfl : ug = .bool false := pg
                        obtain ⟨u17, h17, p17⟩ := got (hd ⟨17, .data⟩ (by simp) rfl) rfl rfl
                        obtain rfl : u17 = .slice (some ad) vs.length cv := p17
                        obtain ⟨u18, h18, p18⟩ := got (hd ⟨18, .data⟩ (by simp) rfl) rfl rfl
                        obtain rfl : u18 = .int .i64 ((0 : Nat) : Int) := p18
                        exact st_at ((wanted_b rfl rfl rfl hg).trans rfl) rfl Tryz.underlying33 (by kernel_rfl) h17 h18 hlt rfl
                      · intro a' w' hE hK hd
                        obtain ⟨ug, hg, pg⟩ := got (hd ⟨15, .guard⟩ (by simp) rfl) rfl rfl
                        obtain rfl : ug = .bool false := pg
                        obtain ⟨u19, h19, p19⟩ := got (hd ⟨19, .data⟩ (by simp) rfl) rfl rfl
                        obtain rfl : u19 = .pointer (some (ad.add 0)) := p19
                        exact st_load ((wanted_b rfl rfl rfl hg).trans rfl) rfl Tryz.underlying22 h19 (HXK.out _ hE).1 (HXK.out _ hE).2
                      · intro a' w' hE hK hd
                        obtain ⟨ug, hg, pg⟩ := got (hd ⟨15, .guard⟩ (by simp) rfl) rfl rfl
                        obtain rfl : ug = .bool false := pg
                        have hi0 : a'.tmps[0]? = some (.slice A a.length ca) := hK.get 0 (by decide)
                        exact st_move ((wanted_b rfl rfl rfl hg).trans rfl) rfl hi0 (HA5.out.ext hE)
                      · intro a' w' hE hK hd
                        obtain ⟨ug, hg, pg⟩ := got (hd ⟨15, .guard⟩ (by simp) rfl) rfl rfl
                        obtain rfl : ug = .bool false := pg
                        obtain ⟨u16, h16, p16⟩ := got (hd ⟨16, .data⟩ (by simp) rfl) rfl rfl
                        obtain rfl : u16 = .func (.func 86) #[] #[] := p16
                        obtain ⟨u20, h20, p20⟩ := got (hd ⟨20, .data⟩ (by simp) rfl) rfl rfl
                        have r20 : RI w' u20 X := p20
                        obtain ⟨u21, h21, p21⟩ := got (hd ⟨21, .data⟩ (by simp) rfl) rfl rfl
                        have r21 : RI w' u21 a := p21
                        exact st_call _ _ _ rfl ((wanted_b rfl rfl rfl hg).trans rfl) (eval_of h16) fv_same _ (by simp only [List.map_toArray, List.map_cons, List.map_nil, eval_of h20, eval_of h21]) ((HSA.out _ _ _ r20 r21).mono fun e w'' ⟨H1, H2⟩ => ⟨_, H1, H2, rfl⟩)
                      · intro a' w' hE hK hd
                        obtain ⟨ug, hg, pg⟩ := got (hd ⟨15, .guard⟩ (by simp) rfl) rfl rfl
                        obtain rfl : ug = .bool false := pg
                        obtain ⟨u22, h22, p22⟩ := got (hd ⟨22, .data⟩ (by simp) rfl) rfl rfl
                        obtain rfl : u22 = .bool false := p22
                        exact st_not ((wanted_b rfl rfl rfl hg).trans rfl) rfl h22 rfl
                      · intro a' w' hE hK hd
                        obtain ⟨ug, hg, pg⟩ := got (hd ⟨15, .guard⟩ (by simp) rfl) rfl rfl
                        obtain rfl : ug = .bool false := pg
                        obtain ⟨u23, h23, p23⟩ := got (hd ⟨23, .data⟩ (by simp) rfl) rfl rfl
                        obtain rfl : u23 = .bool true := p23
                        exact st_move ((wanted_b rfl rfl rfl hg).trans rfl) rfl h23 rfl
                      · intro a' w' hE hK hd
                        obtain ⟨ug, hg, pg⟩ := got (hd ⟨24, .guard⟩ (by simp) rfl) rfl rfl
                        obtain rfl : ug = .bool true := pg
                        exact st_run ((wanted_b rfl rfl rfl hg).trans rfl) (v := .func (.func 86) #[] #[]) (by have cg' := hE.cell cg; unfold execOp; simp [go_sem, cg']; done) rfl
                      · intro a' w' hE hK hd
                        obtain ⟨ug, hg, pg⟩ := got (hd ⟨24, .guard⟩ (by simp) rfl) rfl rfl
                        obtain rfl : ug = .bool true := pg
                        have hi11 : a'.tmps[11]? = some (.slice (some ad) vs.length cv) := hK.get 11 (by decide)
                        exact st_move ((wanted_b rfl rfl rfl hg).trans rfl) rfl hi11 rfl
                      · intro a' w' hE hK hd
                        obtain ⟨ug, hg, pg⟩ := got (hd ⟨24, .guard⟩ (by simp) rfl) rfl rfl
                        obtain rfl : ug = .bool true := pg
                        have hi12 : a'.tmps[12]? = some (.int .i64 ((0 : Nat) : Int)) := hK.get 12 (by decide)
                        exact st_move ((wanted_b rfl rfl rfl hg).trans rfl) rfl hi12 rfl
                      · intro a' w' hE hK hd
                        obtain ⟨ug, hg, pg⟩ := got (hd ⟨24, .guard⟩ (by simp) rfl) rfl rfl
                        obtain rfl : ug = .bool true := pg
                        obtain ⟨u26, h26, p26⟩ := got (hd ⟨26, .data⟩ (by simp) rfl) rfl rfl
                        obtain rfl : u26 = .slice (some ad) vs.length cv := p26
                        obtain ⟨u27, h27, p27⟩ := got (hd ⟨27, .data⟩ (by simp) rfl) rfl rfl
                        obtain rfl : u27 = .int .i64 ((0 : Nat) : Int) := p27
                        exact st_at ((wanted_b rfl rfl rfl hg).trans rfl) rfl Tryz.underlying33 (by kernel_rfl) h26 h27 hlt rfl
                      · intro a' w' hE hK hd
                        obtain ⟨ug, hg, pg⟩ := got (hd ⟨24, .guard⟩ (by simp) rfl) rfl rfl
                        obtain rfl : ug = .bool true := pg
                        obtain ⟨u28, h28, p28⟩ := got (hd ⟨28, .data⟩ (by simp) rfl) rfl rfl
                        obtain rfl : u28 = .pointer (some (ad.add 0)) := p28
                        exact st_load ((wanted_b rfl rfl rfl hg).trans rfl) rfl Tryz.underlying22 h28 (HXK.out _ hE).1 (HXK.out _ hE).2
                      · intro a' w' hE hK hd
                        obtain ⟨ug, hg, pg⟩ := got (hd ⟨24, .guard⟩ (by simp) rfl) rfl rfl
                        obtain rfl : ug = .bool true := pg
                        have hi1 : a'.tmps[1]? = some (.slice B b.length cb) := hK.get 1 (by decide)
                        exact st_move ((wanted_b rfl rfl rfl hg).trans rfl) rfl hi1 (HB5.out.ext hE)
                      · intro a' w' hE hK hd
                        obtain ⟨ug, hg, pg⟩ := got (hd ⟨24, .guard⟩ (by simp) rfl) rfl rfl
                        obtain rfl : ug = .bool true := pg
                        obtain ⟨u25, h25, p25⟩ := got (hd ⟨25, .data⟩ (by simp) rfl) rfl rfl
                        obtain rfl : u25 = .func (.func 86) #[] #[] := p25
                        obtain ⟨u29, h29, p29⟩ := got (hd ⟨29, .data⟩ (by simp) rfl) rfl rfl
                        have r29 : RI w' u29 X := p29
                        obtain ⟨u30, h30, p30⟩ := got (hd ⟨30, .data⟩ (by simp) rfl) rfl rfl
                        have r30 : RI w' u30 b := p30
                        exact st_call _ _ _ rfl ((wanted_b rfl rfl rfl hg).trans rfl) (eval_of h25) fv_same _ (by simp only [List.map_toArray, List.map_cons, List.map_nil, eval_of h29, eval_of h30]) ((HSB.out _ _ _ r29 r30).mono fun e w'' ⟨H1, H2⟩ => ⟨_, H1, H2, rfl⟩)
                      · intro a' w' hE hK hd
                        obtain ⟨ug, hg, pg⟩ := got (hd ⟨24, .guard⟩ (by simp) rfl) rfl rfl
                        obtain rfl : ug = .bool true := pg
                        obtain ⟨u31, h31, p31⟩ := got (hd ⟨31, .data⟩ (by simp) rfl) rfl rfl
                        obtain rfl : u31 = .bool false := p31
                        exact st_not ((wanted_b rfl rfl rfl hg).trans rfl) rfl h31 rfl
                      · intro a' w' hE hK hd
                        obtain ⟨ug, hg, pg⟩ := got (hd ⟨15, .guard⟩ (by simp) rfl) rfl rfl
                        obtain rfl : ug = .bool false := pg
                        obtain ⟨u24, h24, p24⟩ := got (hd ⟨24, .data⟩ (by simp) rfl) rfl rfl
                        obtain rfl : u24 = .bool true := p24
                        obtain ⟨u32, h32, p32⟩ := got (hd ⟨32, .data⟩ (by simp) rfl) rfl rfl
                        obtain rfl : u32 = .bool true := p32
                        exact st_pickv ((wanted_b rfl rfl rfl hg).trans rfl) rfl h24 (eval_of h32) rfl
                      · intro a' w' hE hK hd
                        obtain ⟨ug, hg, pg⟩ := got (hd ⟨15, .guard⟩ (by simp) rfl) rfl rfl
                        obtain rfl : ug = .bool false := pg
                        obtain ⟨u33, h33, p33⟩ := got (hd ⟨33, .data⟩ (by simp) rfl) rfl rfl
                        obtain rfl : u33 = .bool true := p33
                        exact st_move ((wanted_b rfl rfl rfl hg).trans rfl) rfl h33 rfl
                      · intro a' w' hE hK hd
                        obtain ⟨ug, hg, pg⟩ := got (hd ⟨34, .guard⟩ (by simp) rfl) rfl rfl
                        obtain rfl : ug = .bool true := pg
                        exact st_run ((wanted_b rfl rfl rfl hg).trans rfl) (v := .func (.func 86) #[] #[]) (by have cg' := hE.cell cg; unfold execOp; simp [go_sem, cg']; done) rfl
                      · intro a' w' hE hK hd
                        obtain ⟨ug, hg, pg⟩ := got (hd ⟨34, .guard⟩ (by simp) rfl) rfl rfl
                        obtain rfl : ug = .bool true := pg
                        have hi11 : a'.tmps[11]? = some (.slice (some ad) vs.length cv) := hK.get 11 (by decide)
                        exact st_move ((wanted_b rfl rfl rfl hg).trans rfl) rfl hi11 rfl
                      · intro a' w' hE hK hd
                        obtain ⟨ug, hg, pg⟩ := got (hd ⟨34, .guard⟩ (by simp) rfl) rfl rfl
                        obtain rfl : ug = .bool true := pg
                        have hi12 : a'.tmps[12]? = some (.int .i64 ((0 : Nat) : Int)) := hK.get 12 (by decide)
                        exact st_move ((wanted_b rfl rfl rfl hg).trans rfl) rfl hi12 rfl
                      · intro a' w' hE hK hd
                        obtain ⟨ug, hg, pg⟩ := got (hd ⟨34, .guard⟩ (by simp) rfl) rfl rfl
                        obtain rfl : ug = .bool true := pg
                        obtain ⟨u36, h36, p36⟩ := got (hd ⟨36, .data⟩ (by simp) rfl) rfl rfl
                        obtain rfl : u36 = .slice (some ad) vs.length cv := p36
                        obtain ⟨u37, h37, p37⟩ := got (hd ⟨37, .data⟩ (by simp) rfl) rfl rfl
                        obtain rfl : u37 = .int .i64 ((0 : Nat) : Int) := p37
                        exact st_at ((wanted_b rfl rfl rfl hg).trans rfl) rfl Tryz.underlying33 (by kernel_rfl) h36 h37 hlt rfl
                      · intro a' w' hE hK hd
                        obtain ⟨ug, hg, pg⟩ := got (hd ⟨34, .guard⟩ (by simp) rfl) rfl rfl
                        obtain rfl : ug = .bool true := pg
                        obtain ⟨u38, h38, p38⟩ := got (hd ⟨38, .data⟩ (by simp) rfl) rfl rfl
                        obtain rfl : u38 = .pointer (some (ad.add 0)) := p38
                        exact st_load ((wanted_b rfl rfl rfl hg).trans rfl) rfl Tryz.underlying22 h38 (HXK.out _ hE).1 (HXK.out _ hE).2
                      · intro a' w' hE hK hd
                        obtain ⟨ug, hg, pg⟩ := got (hd ⟨34, .guard⟩ (by simp) rfl) rfl rfl
                        obtain rfl : ug = .bool true := pg
                        have hi2 : a'.tmps[2]? = some (.slice C c.length cc) := hK.get 2 (by decide)
                        exact st_move ((wanted_b rfl rfl rfl hg).trans rfl) rfl hi2 (HC5.out.ext hE)
                      · intro a' w' hE hK hd
                        obtain ⟨ug, hg, pg⟩ := got (hd ⟨34, .guard⟩ (by simp) rfl) rfl rfl
                        obtain rfl : ug = .bool true := pg
                        obtain ⟨u35, h35, p35⟩ := got (hd ⟨35, .data⟩ (by simp) rfl) rfl rfl
                        obtain rfl : u35 = .func (.func 86) #[] #[] := p35
                        obtain ⟨u39, h39, p39⟩ := got (hd ⟨39, .data⟩ (by simp) rfl) rfl rfl
                        have r39 : RI w' u39 X := p39
                        obtain ⟨u40, h40, p40⟩ := got (hd ⟨40, .data⟩ (by simp) rfl) rfl rfl
                        have r40 : RI w' u40 c := p40
                        exact st_call _ _ _ rfl ((wanted_b rfl rfl rfl hg).trans rfl) (eval_of h35) fv_same _ (by simp only [List.map_toArray, List.map_cons, List.map_nil, eval_of h39, eval_of h40]) ((HSC.out _ _ _ r39 r40).mono fun e w'' ⟨H1, H2⟩ => ⟨_, H1, H2, rfl⟩)
                      · intro a' w' hE hK hd
                        obtain ⟨ug, hg, pg⟩ := got (hd ⟨34, .guard⟩ (by simp) rfl) rfl rfl
                        obtain rfl : ug = .bool true := pg
                        obtain ⟨u41, h41, p41⟩ := got (hd ⟨41, .data⟩ (by simp) rfl) rfl rfl
                        obtain rfl : u41 = .bool true := p41
                        exact st_not ((wanted_b rfl rfl rfl hg).trans rfl) rfl h41 rfl
                      · intro a' w' hE hK hd
                        obtain ⟨ug, hg, pg⟩ := got (hd ⟨15, .guard⟩ (by simp) rfl) rfl rfl
                        obtain rfl : ug = .bool false := pg
                        obtain ⟨u34, h34, p34⟩ := got (hd ⟨34, .data⟩ (by simp) rfl) rfl rfl
                        obtain rfl : u34 = .bool true := p34
                        obtain ⟨u42, h42, p42⟩ := got (hd ⟨42, .data⟩ (by simp) rfl) rfl rfl
                        obtain rfl : u42 = .bool false := p42
                        exact st_pickv ((wanted_b rfl rfl rfl hg).trans rfl) rfl h34 (eval_of h42) rfl
                      · intro a' w' hE hK hd
                        obtain ⟨u15, h15, p15⟩ := got (hd ⟨15, .data⟩ (by simp) rfl) rfl rfl
                        obtain rfl : u15 = .bool false := p15
                        obtain ⟨u43, h43, p43⟩ := got (hd ⟨43, .data⟩ (by simp) rfl) rfl rfl
                        obtain rfl : u43 = .bool false := p43
                        exact st_pickv (wanted_none rfl) rfl h15 (eval_of h43) rfl
                    · intro a' w' hE hK hG
                      obtain ⟨u, h44, p44⟩ := got (hG 44 (by decide)) rfl rfl
                      obtain rfl : u = .bool false := p44
                      refine hMK a' w' (Met.intro (hRJ a' w' ?_))
                      refine ⟨_, _, _, _, _, _, _, _, _, _, _, _, _, _, _, _, _, _, _, _, _, _, _, _, _, _, _, _, _, _, _, _, _, _, _, _, _, _, _, _, _, _, _, _, _, ?_, Kep.re hK rfl 98 142 (by decide)⟩
                      refine ⟨?_, Lib.hid (HEW.out.trans hE)⟩
                      show (a'.tmps[142]?).getD undef = _
                      rw [h44]; rfl
              · have hmS : m < S.length := Nat.lt_of_succ_lt hkS
                have hml : m < vs.length := Nat.lt_of_succ_lt hlt
                have HXM : Hid (∀ w', Ext wx w' → w'.cell? (ad.add m) = some vs[m] ∧ RI w' vs[m] S[m]) := Lib.hid fun w' he => by
                  obtain ⟨ad', had, hc⟩ := Q3.out m hml
                  cases had
                  exact ⟨(HEW.out.trans he).cell hc, (Q5.out m hml hmS).ext (HEW.out.trans he)⟩
                have hY64 := HS64.out _ (List.getElem_mem hmS)
                have hd0 := HSLT.out m (m + 1) (Nat.lt_succ_self m) hkS
                have hsub : IntKind.i64.wrap (m : Int) = (m : Int) := IntWalk.i64_in _ (by omega)
                generalize S[m + 1] = X at *
                generalize vs[m + 1] = vk at *
                generalize S[m] = Y at *
                generalize vs[m] = vm at *
                have HCY := Lib.hid (fun (w' : World) (u u' : Value) (h1 : RI w' u Y) (h2 : RI w' u' X) => HCM.out Y X u u' hY64 hX64 w' h1 h2)
                generalize cmpL Y X = d at HCY hd0
                have HSA := Lib.hid (fun (w' : World) (u u' : Value) (h1 : RI w' u X) (h2 : RI w' u' a) => Same_any X a u u' w' h1 h2)
                have HSB := Lib.hid (fun (w' : World) (u u' : Value) (h1 : RI w' u X) (h2 : RI w' u' b) => Same_any X b u u' w' h1 h2)
                have HSC := Lib.hid (fun (w' : World) (u u' : Value) (h1 : RI w' u X) (h2 : RI w' u' c) => Same_any X c u u' w' h1 h2)
                by_cases hxa : X = a
                · rw [decide_eq_true hxa] at HSA
                  refine wp_region_mono (W := wx) rfl (Kd.at [.val (.int .i64 ((m + 1 : Nat) : Int)), .val (.bool true), .val (.bool true), .val (.slice (some ad) vs.length cv), .val (.int .i64 ((m + 1 : Nat) : Int)), .val (.int .i64 (m : Int)), .val (.pointer (some (ad.add m))), .row Y, .val (.slice (some ad) vs.length cv), .val (.int .i64 ((m + 1 : Nat) : Int)), .val (.pointer (some (ad.add (m + 1)))), .row X, .val (.int .i64 d), .val (.bool false), .val (.bool false), .val (.bool false), .fv 86, .val (.slice (some ad) vs.length cv), .val (.int .i64 ((m + 1 : Nat) : Int)), .val (.pointer (some (ad.add (m + 1)))), .row X, .row a, .val (.bool true), .val (.bool false), .val (.bool false), .val undef, .val undef, .val undef, .val undef, .val undef, .val undef, .val undef, .val undef, .val (.bool false), .val (.bool false), .val undef, .val undef, .val undef, .val undef, .val undef, .val undef, .val undef, .val undef, .val (.bool false), .val (.bool false)]) (Kd.at_mono _) 162 rfl (by decide) (by decide) (by decide) ?_ ?_
                  · refine ⟨?_, ?_, ?_, ?_, ?_, ?_, ?_, ?_, ?_, ?_, ?_, ?_, ?_, ?_, ?_, ?_, ?_, ?_, ?_, ?_, ?_, ?_, ?_, ?_, ?_, ?_, ?_, ?_, ?_, ?_, ?_, ?_, ?_, ?_, ?_, ?_, ?_, ?_, ?_, ?_, ?_, ?_, ?_, ?_, ?_, trivial⟩
                    · intro a' w' hE hK hd
                      have hi12 : a'.tmps[12]? = some (.int .i64 ((m + 1 : Nat) : Int)) := hK.get 12 (by decide)
                      exact st_move (wanted_none rfl) rfl hi12 rfl
                    · intro a' w' hE hK hd
                      obtain ⟨u0, h0, p0⟩ := got (hd ⟨0, .data⟩ (by simp) rfl) rfl rfl
                      obtain rfl : u0 = .int .i64 ((m + 1 : Nat) : Int) := p0
                      exact st_run (wanted_none rfl) (v := .bool true) (by unfold execOp; simp [h0, go_sem]; done) rfl
                    · intro a' w' hE hK hd
                      obtain ⟨u1, h1, p1⟩ := got (hd ⟨1, .data⟩ (by simp) rfl) rfl rfl
                      obtain rfl : u1 = .bool true := p1
                      exact st_move (wanted_none rfl) rfl h1 rfl
                    · intro a' w' hE hK hd
                      obtain ⟨ug, hg, pg⟩ := got (hd ⟨2, .guard⟩ (by simp) rfl) rfl rfl
                      obtain rfl : ug = .bool true := pg
                      have hi11 : a'.tmps[11]? = some (.slice (some ad) vs.length cv) := hK.get 11 (by decide)
                      exact st_move ((wanted_b rfl rfl rfl hg).trans rfl) rfl hi11 rfl
                    · intro a' w' hE hK hd
                      obtain ⟨ug, hg, pg⟩ := got (hd ⟨2, .guard⟩ (by simp) rfl) rfl rfl
                      obtain rfl : ug = .bool true := pg
                      have hi12 : a'.tmps[12]? = some (.int .i64 ((m + 1 : Nat) : Int)) := hK.get 12 (by decide)
                      exact st_move ((wanted_b rfl rfl rfl hg).trans rfl) rfl hi12 rfl
                    · intro a' w' hE hK hd
                      obtain ⟨ug, hg, pg⟩ := got (hd ⟨2, .guard⟩ (by simp) rfl) rfl rfl
                      obtain rfl : ug = .bool true := pg
                      obtain ⟨u4, h4, p4⟩ := got (hd ⟨4, .data⟩ (by simp) rfl) rfl rfl
                      obtain rfl : u4 = .int .i64 ((m + 1 : Nat) : Int) := p4
                      exact st_run ((wanted_b rfl rfl rfl hg).trans rfl) (v := .int .i64 (m : Int)) (by unfold execOp; simp [h4, go_sem]; exact hsub) rfl
                    · intro a' w' hE hK hd
                      obtain ⟨ug, hg, pg⟩ := got (hd ⟨2, .guard⟩ (by simp) rfl) rfl rfl
                      obtain rfl : ug = .bool true := pg
                      obtain ⟨u3, h3, p3⟩ := got (hd ⟨3, .data⟩ (by simp) rfl) rfl rfl
                      obtain rfl : u3 = .slice (some ad) vs.length cv := p3
                      obtain ⟨u5, h5, p5⟩ := got (hd ⟨5, .data⟩ (by simp) rfl) rfl rfl
                      obtain rfl : u5 = .int .i64 (m : Int) := p5
                      exact st_at ((wanted_b rfl rfl rfl hg).trans rfl) rfl Tryz.underlying33 (by kernel_rfl) h3 h5 (Nat.lt_of_succ_lt hlt) rfl
                    · intro a' w' hE hK hd
                      obtain ⟨ug, hg, pg⟩ := got (hd ⟨2, .guard⟩ (by simp) rfl) rfl rfl
                      obtain rfl : ug = .bool true := pg
                      obtain ⟨u6, h6, p6⟩ := got (hd ⟨6, .data⟩ (by simp) rfl) rfl rfl
                      obtain rfl : u6 = .pointer (some (ad.add m)) := p6
                      exact st_load ((wanted_b rfl rfl rfl hg).trans rfl) rfl Tryz.underlying22 h6 (HXM.out _ hE).1 (HXM.out _ hE).2
                    · intro a' w' hE hK hd
                      obtain ⟨ug, hg, pg⟩ := got (hd ⟨2, .guard⟩ (by simp) rfl) rfl rfl
                      obtain rfl : ug = .bool true := pg
                      have hi11 : a'.tmps[11]? = some (.slice (some ad) vs.length cv) := hK.get 11 (by decide)
                      exact st_move ((wanted_b rfl rfl rfl hg).trans rfl) rfl hi11 rfl
                    · intro a' w' hE hK hd
                      obtain ⟨ug, hg, pg⟩ := got (hd ⟨2, .guard⟩ (by simp) rfl) rfl rfl
                      obtain rfl : ug = .bool true := pg
                      have hi12 : a'.tmps[12]? = some (.int .i64 ((m + 1 : Nat) : Int)) := hK.get 12 (by decide)
                      exact st_move ((wanted_b rfl rfl rfl hg).trans rfl) rfl hi12 rfl
                    · intro a' w' hE hK hd
                      obtain ⟨ug, hg, pg⟩ := got (hd ⟨2, .guard⟩ (by simp) rfl) rfl rfl
                      obtain rfl : ug = .bool true := pg
                      obtain ⟨u8, h8, p8⟩ := got (hd ⟨8, .data⟩ (by simp) rfl) rfl rfl
                      obtain rfl : u8 = .slice (some ad) vs.length cv := p8
                      obtain ⟨u9, h9, p9⟩ := got (hd ⟨9, .data⟩ (by simp) rfl) rfl rfl
                      obtain rfl : u9 = .int .i64 ((m + 1 : Nat) : Int) := p9
                      exact st_at ((wanted_b rfl rfl rfl hg).trans rfl) rfl Tryz.underlying33 (by kernel_rfl) h8 h9 hlt rfl
                    · intro a' w' hE hK hd
                      obtain ⟨ug, hg, pg⟩ := got (hd ⟨2, .guard⟩ (by simp) rfl) rfl rfl
                      obtain rfl : ug = .bool true := pg
                      obtain ⟨u10, h10, p10⟩ := got (hd ⟨10, .data⟩ (by simp) rfl) rfl rfl
                      obtain rfl : u10 = .pointer (some (ad.add (m + 1))) := p10
                      exact st_load ((wanted_b rfl rfl rfl hg).trans rfl) rfl Tryz.underlying22 h10 (HXK.out _ hE).1 (HXK.out _ hE).2
                    · intro a' w' hE hK hd
                      obtain ⟨ug, hg, pg⟩ := got (hd ⟨2, .guard⟩ (by simp) rfl) rfl rfl
                      obtain rfl : ug = .bool true := pg
                      obtain ⟨u7, h7, p7⟩ := got (hd ⟨7, .data⟩ (by simp) rfl) rfl rfl
                      have r7 : RI w' u7 Y := p7
                      obtain ⟨u11, h11, p11⟩ := got (hd ⟨11, .data⟩ (by simp) rfl) rfl rfl
                      have r11 : RI w' u11 X := p11
                      exact st_call _ _ _ rfl ((wanted_b rfl rfl rfl hg).trans rfl) rfl fv_compare _ (by simp only [List.map_toArray, List.map_cons, List.map_nil, eval_of h7, eval_of h11]) ((HCY.out _ _ _ r7 r11).mono fun e w'' ⟨H1, H2⟩ => ⟨_, H1, H2, rfl⟩)
                    · intro a' w' hE hK hd
                      obtain ⟨ug, hg, pg⟩ := got (hd ⟨2, .guard⟩ (by simp) rfl) rfl rfl
                      obtain rfl : ug = .bool true := pg
                      obtain ⟨u12, h12, p12⟩ := got (hd ⟨12, .data⟩ (by simp) rfl) rfl rfl
                      obtain rfl : u12 = .int .i64 d := p12
                      exact st_run ((wanted_b rfl rfl rfl hg).trans rfl) (v := .bool false) (by unfold execOp; simp [h12, go_sem, hd0]; done) rfl
                    · intro a' w' hE hK hd
                      obtain ⟨u2, h2, p2⟩ := got (hd ⟨2, .data⟩ (by simp) rfl) rfl rfl
                      obtain rfl : u2 = .bool true := p2
                      obtain ⟨u13, h13, p13⟩ := got (hd ⟨13, .data⟩ (by simp) rfl) rfl rfl
                      obtain rfl : u13 = .bool false := p13
                      exact st_pickv (wanted_none rfl) rfl h2 (eval_of h13) rfl
                    · intro a' w' hE hK hd
                      obtain ⟨u14, h14, p14⟩ := got (hd ⟨14, .data⟩ (by simp) rfl) rfl rfl
                      obtain rfl : u14 = .bool false := p14
                      exact st_move (wanted_none rfl) rfl h14 rfl
                    · intro a' w' hE hK hd
                      obtain ⟨ug, hg, pg⟩ := got (hd ⟨15, .guard⟩ (by simp) rfl) rfl rfl
                      obtain rfl : ug = .bool false := pg
                      exact st_run ((wanted_b rfl rfl rfl hg).trans rfl) (v := .func (.func 86) #[] #[]) (by have cg' := hE.cell cg; unfold execOp; simp [go_sem, cg']; done) rfl
                    · intro a' w' hE hK hd
                      obtain ⟨ug, hg, pg⟩ := got (hd ⟨15, .guard⟩ (by simp) rfl) rfl rfl
                      obtain rfl : ug = .bool false := pg
                      have hi11 : a'.tmps[11]? = some (.slice (some ad) vs.length cv) := hK.get 11 (by decide)
                      exact st_move ((wanted_b rfl rfl rfl hg).trans rfl) rfl hi11 rfl
                    · intro a' w' hE hK hd
                      obtain ⟨ug, hg, pg⟩ := got (hd ⟨15, .guard⟩ (by simp) rfl) rfl rfl
                      obtain rfl : ug = .bool false := pg
                      have hi12 : a'.tmps[12]? = some (.int .i64 ((m + 1 : Nat) : Int)) := hK.get 12 (by decide)
                      exact st_move ((wanted_b rfl rfl rfl hg).trans rfl) rfl hi12 rfl
                    · intro a' w' hE hK hd
                      obtain ⟨ug, hg, pg⟩ := got (hd ⟨15, .guard⟩ (by simp) rfl) rfl rfl
                      obtain rfl : ug = .bool false := pg
                      obtain ⟨u17, h17, p17⟩ := got (hd ⟨17, .data⟩ (by simp) rfl) rfl rfl
                      obtain rfl : u17 = .slice (some ad) vs.length cv := p17
                      obtain ⟨u18, h18, p18⟩ := got (hd ⟨18, .data⟩ (by simp) rfl) rfl rfl
                      obtain rfl : u18 = .int .i64 ((m + 1 : Nat) : Int) := p18
                      exact st_at ((wanted_b rfl rfl rfl hg).trans rfl) rfl Tryz.underlying33 (by kernel_rfl) h17 h18 hlt rfl
                    · intro a' w' hE hK hd
                      obtain ⟨ug, hg, pg⟩ := got (hd ⟨15, .guard⟩ (by simp) rfl) rfl rfl
                      obtain rfl : ug = .bool false := pg
                      obtain ⟨u19, h19, p19⟩ := got (hd ⟨19, .data⟩ (by simp) rfl) rfl rfl
                      obtain rfl : u19 = .pointer (some (ad.add (m + 1))) := p19
                      exact st_load ((wanted_b rfl rfl rfl hg).trans rfl) rfl Tryz.underlying22 h19 (HXK.out _ hE).1 (HXK.out _ hE).2
                    · intro a' w' hE hK hd
                      obtain ⟨ug, hg, pg⟩ := got (hd ⟨15, .guard⟩ (by simp) rfl) rfl rfl
                      obtain rfl : ug = .bool false := pg
                      have hi0 : a'.tmps[0]? = some (.slice A a.length ca) := hK.get 0 (by decide)
                      exact st_move ((wanted_b rfl rfl rfl hg).trans rfl) rfl hi0 (HA5.out.ext hE)
                    · intro a' w' hE hK hd
                      obtain ⟨ug, hg, pg⟩ := got (hd ⟨15, .guard⟩ (by simp) rfl) rfl rfl
                      obtain rfl : ug = .bool false := pg
                      obtain ⟨u16, h16, p16⟩ := got (hd ⟨16, .data⟩ (by simp) rfl) rfl rfl
                      obtain rfl : u16 = .func (.func 86) #[] #[] := p16
                      obtain ⟨u20, h20, p20⟩ := got (hd ⟨20, .data⟩ (by simp) rfl) rfl rfl
                      have r20 : RI w' u20 X := p20
                      obtain ⟨u21, h21, p21⟩ := got (hd ⟨21, .data⟩ (by simp) rfl) rfl rfl
                      have r21 : RI w' u21 a := p21
                      exact st_call _ _ _ rfl ((wanted_b rfl rfl rfl hg).trans rfl) (eval_of h16) fv_same _ (by simp only [List.map_toArray, List.map_cons, List.map_nil, eval_of h20, eval_of h21]) ((HSA.out _ _ _ r20 r21).mono fun e w'' ⟨H1, H2⟩ => ⟨_, H1, H2, rfl⟩)
                    · intro a' w' hE hK hd
                      obtain ⟨ug, hg, pg⟩ := got (hd ⟨15, .guard⟩ (by simp) rfl) rfl rfl
                      obtain rfl : ug = .bool false := pg
                      obtain ⟨u22, h22, p22⟩ := got (hd ⟨22, .data⟩ (by simp) rfl) rfl rfl
                      obtain rfl : u22 = .bool true := p22
                      exact st_not ((wanted_b rfl rfl rfl hg).trans rfl) rfl h22 rfl
                    · intro a' w' hE hK hd
                      obtain ⟨ug, hg, pg⟩ := got (hd ⟨15, .guard⟩ (by simp) rfl) rfl rfl
                      obtain rfl : ug = .bool false := pg
                      obtain ⟨u23, h23, p23⟩ := got (hd ⟨23, .data⟩ (by simp) rfl) rfl rfl
                      obtain rfl : u23 = .bool false := p23
                      exact st_move ((wanted_b rfl rfl rfl hg).trans rfl) rfl h23 rfl
                    · intro a' w' hE hK hd
                      obtain ⟨ug, hg, pg⟩ := got (hd ⟨24, .guard⟩ (by simp) rfl) rfl rfl
                      obtain rfl : ug = .bool false := pg
                      exact ok_not ((wanted_b rfl rfl rfl hg).trans rfl) rfl
                    · intro a' w' hE hK hd
                      obtain ⟨ug, hg, pg⟩ := got (hd ⟨24, .guard⟩ (by simp) rfl) rfl rfl
                      obtain rfl : ug = .bool false := pg
                      exact ok_not ((wanted_b rfl rfl rfl hg).trans rfl) rfl
                    · intro a' w' hE hK hd
                      obtain ⟨ug, hg, pg⟩ := got (hd ⟨24, .guard⟩ (by simp) rfl) rfl rfl
                      obtain rfl : ug = .bool false := pg
                      exact ok_not ((wanted_b rfl rfl rfl hg).trans rfl) rfl
                    · intro a' w' hE hK hd
                      obtain ⟨ug, hg, pg⟩ := got (hd ⟨24, .guard⟩ (by simp) rfl) rfl rfl
                      obtain rfl : ug = .bool false := pg
                      exact ok_not ((wanted_b rfl rfl rfl hg).trans rfl) rfl
                    · intro a' w' hE hK hd
                      obtain ⟨ug, hg, pg⟩ := got (hd ⟨24, .guard⟩ (by simp) rfl) rfl rfl
                      obtain rfl : ug = .bool false := pg
                      exact ok_not ((wanted_b rfl rfl rfl hg).trans rfl) rfl
                    · intro a' w' hE hK hd
                      obtain ⟨ug, hg, pg⟩ := got (hd ⟨24, .guard⟩ (by simp) rfl) rfl rfl
                      obtain rfl : ug = .bool false := pg
                      exact ok_not ((wanted_b rfl rfl rfl hg).trans rfl) rfl
                    · intro a' w' hE hK hd
                      obtain ⟨ug, hg, pg⟩ := got (hd ⟨24, .guard⟩ (by simp) rfl) rfl rfl
                      obtain rfl : ug = .bool false := pg
                      exact ok_not ((wanted_b rfl rfl rfl hg).trans rfl) rfl
                    · intro a' w' hE hK hd
                      obtain ⟨ug, hg, pg⟩ := got (hd ⟨24, .guard⟩ (by simp) rfl) rfl rfl
                      obtain rfl : ug = .bool false := pg
                      exact ok_not ((wanted_b rfl rfl rfl hg).trans rfl) rfl
                    · intro a' w' hE hK hd
                      obtain ⟨ug, hg, pg⟩ := got (hd ⟨15, .guard⟩ (by simp) rfl) rfl rfl
                      obtain rfl : ug = .bool false := pg
                      obtain ⟨u24, h24, p24⟩ := got (hd ⟨24, .data⟩ (by simp) rfl) rfl rfl
                      obtain rfl : u24 = .bool false := p24
                      exact st_pickv ((wanted_b rfl rfl rfl hg).trans rfl) rfl h24 rfl rfl
                    · intro a' w' hE hK hd
                      obtain ⟨ug, hg, pg⟩ := got (hd ⟨15, .guard⟩ (by simp) rfl) rfl rfl
                      obtain rfl : ug = .bool false := pg
                      obtain ⟨u33, h33, p33⟩ := got (hd ⟨33, .data⟩ (by simp) rfl) rfl rfl
                      obtain rfl : u33 = .bool false := p33
                      exact st_move ((wanted_b rfl rfl rfl hg).trans rfl) rfl h33 rfl
                    · intro a' w' hE hK hd
                      obtain ⟨ug, hg, pg⟩ := got (hd ⟨34, .guard⟩ (by simp) rfl) rfl rfl
                      obtain rfl : ug = .bool false := pg
                      exact ok_not ((wanted_b rfl rfl rfl hg).trans rfl) rfl
                    · intro a' w' hE hK hd
                      obtain ⟨ug, hg, pg⟩ := got (hd ⟨34, .guard⟩ (by simp) rfl) rfl rfl
                      obtain rfl : ug = .bool false := pg
                      exact ok_not ((wanted_b rfl rfl rfl hg).trans rfl) rfl
                    · intro a' w' hE hK hd
                      obtain ⟨ug, hg, pg⟩ := got (hd ⟨34, .guard⟩ (by simp) rfl) rfl rfl
                      obtain rfl : ug = .bool false := pg
                      exact ok_not ((wanted_b rfl rfl rfl hg).trans rfl) rfl
                    · intro a' w' hE hK hd
                      obtain ⟨ug, hg, pg⟩ := got (hd ⟨34, .guard⟩ (by simp) rfl) rfl rfl
                      obtain rfl : ug = .bool false := pg
                      exact ok_not ((wanted_b rfl rfl rfl hg).trans rfl) rfl
                    · intro a' w' hE hK hd
                      obtain ⟨ug, hg, pg⟩ := got (hd ⟨34, .guard⟩ (by simp) rfl) rfl rfl
                      obtain rfl : ug = .bool false := pg
                      exact ok_not ((wanted_b rfl rfl rfl hg).trans rfl) rfl
                    · intro a' w' hE hK hd
                      obtain ⟨ug, hg, pg⟩ := got (hd ⟨34, .guard⟩ (by simp) rfl) rfl rfl
                      obtain rfl : ug = .bool false := pg
                      exact ok_not ((wanted_b rfl rfl rfl hg).trans rfl) rfl
                    · intro a' w' hE hK hd
                      obtain ⟨ug, hg, pg⟩ := got (hd ⟨34, .guard⟩ (by simp) rfl) rfl rfl
                      obtain rfl : ug = .bool false := pg
                      exact ok_not ((wanted_b rfl rfl rfl hg).trans rfl) rfl
                    · intro a' w' hE hK hd
                      obtain ⟨ug, hg, pg⟩ := got (hd ⟨34, .guard⟩ (by simp) rfl) rfl rfl
                      obtain rfl : ug = .bool false := pg
                      exact ok_not ((wanted_b rfl rfl rfl hg).trans rfl) rfl
                    · intro a' w' hE hK hd
                      obtain ⟨ug, hg, pg⟩ := got (hd ⟨15, .guard⟩ (by simp) rfl) rfl rfl
                      obtain rfl : ug = .bool false := pg
                      obtain ⟨u34, h34, p34⟩ := got (hd ⟨34, .data⟩ (by simp) rfl) rfl rfl
                      obtain rfl : u34 = .bool false := p34
                      exact st_pickv ((wanted_b rfl rfl rfl hg).trans rfl) rfl h34 rfl rfl
                    · intro a' w' hE hK hd
                      obtain ⟨u15, h15, p15⟩ := got (hd ⟨15, .data⟩ (by simp) rfl) rfl rfl
                      obtain rfl : u15 = .bool false := p15
                      obtain ⟨u43, h43, p43⟩ := got (hd ⟨43, .data⟩ (by simp) rfl) rfl rfl
                      obtain rfl : u43 = .bool false := p43
                      exact st_pickv (wanted_none rfl) rfl h15 (eval_of h43) rfl
                  · intro a' w' hE hK hG
                    obtain ⟨u, h44, p44⟩ := got (hG 44 (by decide)) rfl rfl
                    obtain rfl : u = .bool false := p44
                    refine hMK a' w' (Met.intro (hRJ a' w' ?_))
                    refine ⟨_, _, _, _, _, _, _, _, _, _, _, _, _, _, _, _, _, _, _, _, _, _, _, _, _, _, _, _, _, _, _, _, _, _, _, _, _, _, _, _, _, _, _, _, _, ?_, Kep.re hK rfl 98 142 (by decide)⟩
                    refine ⟨?_, Lib.hid (HEW.out.trans hE)⟩
                    show (a'.tmps[142]?).getD undef = _
                    rw [h44]; rfl
                · rw [decide_eq_false hxa] at HSA
                  by_cases hxb : X = b
                  · rw [decide_eq_true hxb] at HSB
                    refine wp_region_mono (W := wx) rfl (Kd.at [.val (.int .i64 ((m + 1 : Nat) : Int)), .val (.bool true), .val (.bool true), .val (.slice (some ad) vs.length cv), .val (.int .i64 ((m + 1 : Nat) : Int)), .val (.int .i64 (m : Int)), .val (.pointer (some (ad.add m))), .row Y, .val (.slice (some ad) vs.length cv), .val (.int .i64 ((m + 1 : Nat) : Int)), .val (.pointer (some (ad.add (m + 1)))), .row X, .val (.int .i64 d), .val (.bool false), .val (.bool false), .val (.bool false), .fv 86, .val (.slice (some ad) vs.length cv), .val (.int .i64 ((m + 1 : Nat) : Int)), .val (.pointer (some (ad.add (m + 1)))), .row X, .row a, .val (.bool false), .val (.bool true), .val (.bool true), .fv 86, .val (.slice (some ad) vs.length cv), .val (.int .i64 ((m + 1 : Nat) : Int)), .val (.pointer (some (ad.add (m + 1)))), .row X, .row b, .val (.bool true), .val (.bool false), .val (.bool false), .val (.bool false), .val undef, .val undef, .val undef, .val undef, .val undef, .val undef, .val undef, .val undef, .val (.bool false), .val (.bool false)]) (Kd.at_mono _) 162 rfl (by decide) (by decide) (by decide) ?_ ?_
                    · refine ⟨?_, ?_, ?_, ?_, ?_, ?_, ?_, ?_, ?_, ?_, ?_, ?_, ?_, ?_, ?_, ?_, ?_, ?_, ?_, ?_, ?_, ?_, ?_, ?_, ?_, ?_, ?_, ?_, ?_, ?_, ?_, ?_, ?_, ?_, ?_, ?_, ?_, ?_, ?_, ?_, ?_, ?_, ?_, ?_, ?_, trivial⟩
                      · intro a' w' hE hK hd
                        have hi12 : a'.tmps[12]? = some (.int .i64 ((m + 1 : Nat) : Int)) := hK.get 12 (by decide)
                        exact st_move (wanted_none rfl) rfl hi12 rfl
                      · intro a' w' hE hK hd
                        obtain ⟨u0, h0, p0⟩ := got (hd ⟨0, .data⟩ (by simp) rfl) rfl rfl
                        obtain rfl : u0 = .int .i64 ((m + 1 : Nat) : Int) := p0
                        exact st_run (wanted_none rfl) (v := .bool true) (by unfold execOp; simp [h0, go_sem]; done) rfl
                      · intro a' w' hE hK hd
                        obtain ⟨u1, h1, p1⟩ := got (hd ⟨1, .data⟩ (by simp) rfl) rfl rfl
                        obtain rfl : u1 = .bool true := p1
                        exact st_move (wanted_none rfl) rfl h1 rfl
                      · intro a' w' hE hK hd
                        obtain ⟨ug, hg, pg⟩ := got (hd ⟨2, .guard⟩ (by simp) rfl) rfl rfl
                        obtain rfl : ug = .bool true := pg
                        have hi11 : a'.tmps[11]? = some (.slice (some ad) vs.length cv) := hK.get 11 (by decide)
                        exact st_move ((wanted_b rfl rfl rfl hg).trans rfl) rfl hi11 rfl
                      · intro a' w' hE hK hd
                        obtain ⟨ug, hg, pg⟩ := got (hd ⟨2, .guard⟩ (by simp) rfl) rfl rfl
                        obtain rfl : ug = .bool true := pg
                        have hi12 : a'.tmps[12]? = some (.int .i64 ((m + 1 : Nat) : Int)) := hK.get 12 (by decide)
                        exact st_move ((wanted_b rfl rfl rfl hg).trans rfl) rfl hi12 rfl
                      · intro a' w' hE hK hd
                        obtain ⟨ug, hg, pg⟩ := got (hd ⟨2, .guard⟩ (by simp) rfl) rfl rfl
                        obtain rfl : ug = .bool true := pg
                        obtain ⟨u4, h4, p4⟩ := got (hd ⟨4, .data⟩ (by simp) rfl) rfl rfl
                        obtain rfl : u4 = .int .i64 ((m + 1 : Nat) : Int) := p4
                        exact st_run ((wanted_b rfl rfl rfl hg).trans rfl) (v := .int .i64 (m : Int)) (by unfold execOp; simp [h4, go_sem]; exact hsub) rfl
                      · intro a' w' hE hK hd
                        obtain ⟨ug, hg, pg⟩ := got (hd ⟨2, .guard⟩ (by simp) rfl) rfl rfl
                        obtain rfl : ug = .bool true := pg
                        obtain ⟨u3, h3, p3⟩ := got (hd ⟨3, .data⟩ (by simp) rfl) rfl rfl
                        obtain rfl : u3 = .slice (some ad) vs.length cv := p3
                        obtain ⟨u5, h5, p5⟩ := got (hd ⟨5, .data⟩ (by simp) rfl) rfl rfl
                        obtain rfl : u5 = .int .i64 (m : Int) := p5
                        exact st_at ((wanted_b rfl rfl rfl hg).trans rfl) rfl Tryz.underlying33 (by kernel_rfl) h3 h5 (Nat.lt_of_succ_lt hlt) rfl
                      · intro a' w' hE hK hd
                        obtain ⟨ug, hg, pg⟩ := got (hd ⟨2, .guard⟩ (by simp) rfl) rfl rfl
                        obtain rfl : ug = .bool true := pg
                        obtain ⟨u6, h6, p6⟩ := got (hd ⟨6, .data⟩ (by simp) rfl) rfl rfl
                        obtain rfl : u6 = .pointer (some (ad.add m)) := p6
                        exact st_load ((wanted_b rfl rfl rfl hg).trans rfl) rfl Tryz.underlying22 h6 (HXM.out _ hE).1 (HXM.out _ hE).2
                      · intro a' w' hE hK hd
                        obtain ⟨ug, hg, pg⟩ := got (hd ⟨2, .guard⟩ (by simp) rfl) rfl rfl
                        obtain rfl : ug = .bool true := pg
                        have hi11 : a'.tmps[11]? = some (.slice (some ad) vs.length cv) := hK.get 11 (by decide)
                        exact st_move ((wanted_b rfl rfl rfl hg).trans rfl) rfl hi11 rfl
                      · intro a' w' hE hK hd
                        obtain ⟨ug, hg, pg⟩ := got (hd ⟨2, .guard⟩ (by simp) rfl) rfl rfl
                        obtain rfl : ug = .bool true := pg
                        have hi12 : a'.tmps[12]? = some (.int .i64 ((m + 1 : Nat) : Int)) := hK.get 12 (by decide)
                        exact st_move ((wanted_b rfl rfl rfl hg).trans rfl) rfl hi12 rfl
                      · intro a' w' hE hK hd
                        obtain ⟨ug, hg, pg⟩ := got (hd ⟨2, .guard⟩ (by simp) rfl) rfl rfl
                        obtain rfl : ug = .bool true := pg
                        obtain ⟨u8, h8, p8⟩ := got (hd ⟨8, .data⟩ (by simp) rfl) rfl rfl
                        obtain rfl : u8 = .slice (some ad) vs.length cv := p8
                        obtain ⟨u9, h9, p9⟩ := got (hd ⟨9, .data⟩ (by simp) rfl) rfl rfl
                        obtain rfl : u9 = .int .i64 ((m + 1 : Nat) : Int) := p9
                        exact st_at ((wanted_b rfl rfl rfl hg).trans rfl) rfl Tryz.underlying33 (by kernel_rfl) h8 h9 hlt rfl
                      · intro a' w' hE hK hd
                        obtain ⟨ug, hg, pg⟩ := got (hd ⟨2, .guard⟩ (by simp) rfl) rfl rfl
                        obtain rfl : ug = .bool true := pg
                        obtain ⟨u10, h10, p10⟩ := got (hd ⟨10, .data⟩ (by simp) rfl) rfl rfl
                        obtain rfl : u10 = .pointer (some (ad.add (m + 1))) := p10
                        exact st_load ((wanted_b rfl rfl rfl hg).trans rfl) rfl Tryz.underlying22 h10 (HXK.out _ hE).1 (HXK.out _ hE).2
                      · intro a' w' hE hK hd
                        obtain ⟨ug, hg, pg⟩ := got (hd ⟨2, .guard⟩ (by simp) rfl) rfl rfl
                        obtain rfl : ug = .bool true := pg
                        obtain ⟨u7, h7, p7⟩ := got (hd ⟨7, .data⟩ (by simp) rfl) rfl rfl
                        have r7 : RI w' u7 Y := p7
                        obtain ⟨u11, h11, p11⟩ := got (hd ⟨11, .data⟩ (by simp) rfl) rfl rfl
                        have r11 : RI w' u11 X := p11
                        exact st_call _ _ _ rfl ((wanted_b rfl rfl rfl hg).trans rfl) rfl fv_compare _ (by simp only [List.map_toArray, List.map_cons, List.map_nil, eval_of h7, eval_of h11]) ((HCY.out _ _ _ r7 r11).mono fun e w'' ⟨H1, H2⟩ => ⟨_, H1, H2, rfl⟩)
                      · intro a' w' hE hK hd
                        obtain ⟨ug, hg, pg⟩ := got (hd ⟨2, .guard⟩ (by simp) rfl) rfl rfl
                        obtain rfl : ug = .bool true := pg
                        obtain ⟨u12, h12, p12⟩ := got (hd ⟨12, .data⟩ (by simp) rfl) rfl rfl
                        obtain rfl : u12 = .int .i64 d := p12
                        exact st_run ((wanted_b rfl rfl rfl hg).trans rfl) (v := .bool false) (by unfold execOp; simp [h12, go_sem, hd0]; done) rfl
                      · intro a' w' hE hK hd
                        obtain ⟨u2, h2, p2⟩ := got (hd ⟨2, .data⟩ (by simp) rfl) rfl rfl
                        obtain rfl : u2 = .bool true := p2
                        obtain ⟨u13, h13, p13⟩ := got (hd ⟨13, .data⟩ (by simp) rfl) rfl rfl
                        obtain rfl : u13 = .bool false := p13
                        exact st_pickv (wanted_none rfl) rfl h2 (eval_of h13) rfl
                      · intro a' w' hE hK hd
                        obtain ⟨u14, h14, p14⟩ := got (hd ⟨14, .data⟩ (by simp) rfl) rfl rfl
                        obtain rfl : u14 = .bool false := p14
                        exact st_move (wanted_none rfl) rfl h14 rfl
                      · intro a' w' hE hK hd
                        obtain ⟨ug, hg, pg⟩ := got (hd ⟨15, .guard⟩ (by simp) rfl) rfl rfl
                        obtain rfl : ug = .bool false := pg
                        exact st_run ((wanted_b rfl rfl rfl hg).trans rfl) (v := .func (.func 86) #[] #[]) (by have cg' := hE.cell cg; unfold execOp; simp [go_sem, cg']; done) rfl
                      · intro a' w' hE hK hd
                        obtain ⟨ug, hg, pg⟩ := got (hd ⟨15, .guard⟩ (by simp) rfl) rfl rfl
                        obtain rfl : ug = .bool false := pg
                        have hi11 : a'.tmps[11]? = some (.slice (some ad) vs.length cv) := hK.get 11 (by decide)
                        exact st_move ((wanted_b rfl rfl rfl hg).trans rfl) rfl hi11 rfl
                      · intro a' w' hE hK hd
                        obtain ⟨ug, hg, pg⟩ := got (hd ⟨15, .guard⟩ (by simp) rfl) rfl rfl
                        obtain rfl : ug = .bool false := pg
                        have hi12 : a'.tmps[12]? = some (.int .i64 ((m + 1 : Nat) : Int)) := hK.get 12 (by decide)
                        exact st_move ((wanted_b rfl rfl rfl hg).trans rfl) rfl hi12 rfl
                      · intro a' w' hE hK hd
                        obtain ⟨ug, hg, pg⟩ := got (hd ⟨15, .guard⟩ (by simp) rfl) rfl rfl
                        obtain rfl : ug = .bool false := pg
                        obtain ⟨u17, h17, p17⟩ := got (hd ⟨17, .data⟩ (by simp) rfl) rfl rfl
                        obtain rfl : u17 = .slice (some ad) vs.length cv := p17
                        obtain ⟨u18, h18, p18⟩ := got (hd ⟨18, .data⟩ (by simp) rfl) rfl rfl
                        obtain rfl : u18 = .int .i64 ((m + 1 : Nat) : Int) := p18
                        exact st_at ((wanted_b rfl rfl rfl hg).trans rfl) rfl Tryz.underlying33 (by kernel_rfl) h17 h18 hlt rfl
                      · intro a' w' hE hK hd
                        obtain ⟨ug, hg, pg⟩ := got (hd ⟨15, .guard⟩ (by simp) rfl) rfl rfl
                        obtain rfl : ug = .bool false := pg
                        obtain ⟨u19, h19, p19⟩ := got (hd ⟨19, .data⟩ (by simp) rfl) rfl rfl
                        obtain rfl : u19 = .pointer (some (ad.add (m + 1))) := p19
                        exact st_load ((wanted_b rfl rfl rfl hg).trans rfl) rfl Tryz.underlying22 h19 (HXK.out _ hE).1 (HXK.out _ hE).2
                      · intro a' w' hE hK hd
                        obtain ⟨ug, hg, pg⟩ := got (hd ⟨15, .guard⟩ (by simp) rfl) rfl rfl
                        obtain rfl : ug = .bool false := pg
                        have hi0 : a'.tmps[0]? = some (.slice A a.length ca) := hK.get 0 (by decide)
                        exact st_move ((wanted_b rfl rfl rfl hg).trans rfl) rfl hi0 (HA5.out.ext hE)
                      · intro a' w' hE hK hd
                        obtain ⟨ug, hg, pg⟩ := got (hd ⟨15, .guard⟩ (by simp) rfl) rfl rfl
                        obtain rfl : ug = .bool false := pg
                        obtain ⟨u16, h16, p16⟩ := got (hd ⟨16, .data⟩ (by simp) rfl) rfl rfl
                        obtain rfl : u16 = .func (.func 86) #[] #[] := p16
                        obtain ⟨u20, h20, p20⟩ := got (hd ⟨20, .data⟩ (by simp) rfl) rfl rfl
                        have r20 : RI w' u20 X := p20
                        obtain ⟨u21, h21, p21⟩ := got (hd ⟨21, .data⟩ (by simp) rfl) rfl rfl
                        have r21 : RI w' u21 a := p21
                        exact st_call _ _ _ rfl ((wanted_b rfl rfl rfl hg).trans rfl) (eval_of h16) fv_same _ (by simp only [List.map_toArray, List.map_cons, List.map_nil, eval_of h20, eval_of h21]) ((HSA.out _ _ _ r20 r21).mono fun e w'' ⟨H1, H2⟩ => ⟨_, H1, H2, rfl⟩)
                      · intro a' w' hE hK hd
                        obtain ⟨ug, hg, pg⟩ := got (hd ⟨15, .guard⟩ (by simp) rfl) rfl rfl
                        obtain rfl : ug = .bool false := pg
                        obtain ⟨u22, h22, p22⟩ := got (hd ⟨22, .data⟩ (by simp) rfl) rfl rfl
                        obtain rfl : u22 = .bool false := p22
                        exact st_not ((wanted_b rfl rfl rfl hg).trans rfl) rfl h22 rfl
                      · intro a' w' hE hK hd
                        obtain ⟨ug, hg, pg⟩ := got (hd ⟨15, .guard⟩ (by simp) rfl) rfl rfl
                        obtain rfl : ug = .bool false := pg
                        obtain ⟨u23, h23, p23⟩ := got (hd ⟨23, .data⟩ (by simp) rfl) rfl rfl
                        obtain rfl : u23 = .bool true := p23
                        exact st_move ((wanted_b rfl rfl rfl hg).trans rfl) rfl h23 rfl
                      · intro a' w' hE hK hd
                        obtain ⟨ug, hg, pg⟩ := got (hd ⟨24, .guard⟩ (by simp) rfl) rfl rfl
                        obtain rfl : ug = .bool true := pg
                        exact st_run ((wanted_b rfl rfl rfl hg).trans rfl) (v := .func (.func 86) #[] #[]) (by have cg' := hE.cell cg; unfold execOp; simp [go_sem, cg']; done) rfl
                      · intro a' w' hE hK hd
                        obtain ⟨ug, hg, pg⟩ := got (hd ⟨24, .guard⟩ (by simp) rfl) rfl rfl
                        obtain rfl : ug = .bool true := pg
                        have hi11 : a'.tmps[11]? = some (.slice (some ad) vs.length cv) := hK.get 11 (by decide)
                        exact st_move ((wanted_b rfl rfl rfl hg).trans rfl) rfl hi11 rfl
                      · intro a' w' hE hK hd
                        obtain ⟨ug, hg, pg⟩ := got (hd ⟨24, .guard⟩ (by simp) rfl) rfl rfl
                        obtain rfl : ug = .bool true := pg
                        have hi12 : a'.tmps[12]? = some (.int .i64 ((m + 1 : Nat) : Int)) := hK.get 12 (by decide)
                        exact st_move ((wanted_b rfl rfl rfl hg).trans rfl) rfl hi12 rfl
                      · intro a' w' hE hK hd
                        obtain ⟨ug, hg, pg⟩ := got (hd ⟨24, .guard⟩ (by simp) rfl) rfl rfl
                        obtain rfl : ug = .bool true := pg
                        obtain ⟨u26, h26, p26⟩ := got (hd ⟨26, .data⟩ (by simp) rfl) rfl rfl
                        obtain rfl : u26 = .slice (some ad) vs.length cv := p26
                        obtain ⟨u27, h27, p27⟩ := got (hd ⟨27, .data⟩ (by simp) rfl) rfl rfl
                        obtain rfl : u27 = .int .i64 ((m + 1 : Nat) : Int) := p27
                        exact st_at ((wanted_b rfl rfl rfl hg).trans rfl) rfl Tryz.underlying33 (by kernel_rfl) h26 h27 hlt rfl
                      · intro a' w' hE hK hd
                        obtain ⟨ug, hg, pg⟩ := got (hd ⟨24, .guard⟩ (by simp) rfl) rfl rfl
                        obtain rfl : ug = .bool true := pg
                        obtain ⟨u28, h28, p28⟩ := got (hd ⟨28, .data⟩ (by simp) rfl) rfl rfl
                        obtain rfl : u28 = .pointer (some (ad.add (m + 1))) := p28
                        exact st_load ((wanted_b rfl rfl rfl hg).trans rfl) rfl Tryz.underlying22 h28 (HXK.out _ hE).1 (HXK.out _ hE).2
                      · intro a' w' hE hK hd
                        obtain ⟨ug, hg, pg⟩ := got (hd ⟨24, .guard⟩ (by simp) rfl) rfl rfl
                        obtain rfl : ug = .bool true := pg
                        have hi1 : a'.tmps[1]? = some (.slice B b.length cb) := hK.get 1 (by decide)
                        exact st_move ((wanted_b rfl rfl rfl hg).trans rfl) rfl hi1 (HB5.out.ext hE)
                      · intro a' w' hE hK hd
                        obtain ⟨ug, hg, pg⟩ := got (hd ⟨24, .guard⟩ (by simp) rfl) rfl rfl
                        obtain rfl : ug = .bool true := pg
                        obtain ⟨u25, h25, p25⟩ := got (hd ⟨25, .data⟩ (by simp) rfl) rfl rfl
                        obtain rfl : u25 = .func (.func 86) #[] #[] := p25
                        obtain ⟨u29, h29, p29⟩ := got (hd ⟨29, .data⟩ (by simp) rfl) rfl rfl
                        have r29 : RI w' u29 X := p29
                        obtain ⟨u30, h30, p30⟩ := got (hd ⟨30, .data⟩ (by simp) rfl) rfl rfl
                        have r30 : RI w' u30 b := p30
                        exact st_call _ _ _ rfl ((wanted_b rfl rfl rfl hg).trans rfl) (eval_of h25) fv_same _ (by simp only [List.map_toArray, List.map_cons, List.map_nil, eval_of h29, eval_of h30]) ((HSB.out _ _ _ r29 r30).mono fun e w'' ⟨H1, H2⟩ => ⟨_, H1, H2, rfl⟩)
                      · intro a' w' hE hK hd
                        obtain ⟨ug, hg, pg⟩ := got (hd ⟨24, .guard⟩ (by simp) rfl) rfl rfl
                        obtain rfl : ug = .bool true := pg
                        obtain ⟨u31, h31, p31⟩ := got (hd ⟨31, .data⟩ (by simp) rfl) rfl rfl
                        obtain rfl : u31 = .bool true := p31
                        exact st_not ((wanted_b rfl rfl rfl hg).trans rfl) rfl h31 rfl
                      · intro a' w' hE hK hd
                        obtain ⟨ug, hg, pg⟩ := got (hd ⟨15, .guard⟩ (by simp) rfl) rfl rfl
                        obtain rfl : ug = .bool false := pg
                        obtain ⟨u24, h24, p24⟩ := got (hd ⟨24, .data⟩ (by simp) rfl) rfl rfl
                        obtain rfl : u24 = .bool true := p24
                        obtain ⟨u32, h32, p32⟩ := got (hd ⟨32, .data⟩ (by simp) rfl) rfl rfl
                        obtain rfl : u32 = .bool false := p32
                        exact st_pickv ((wanted_b rfl rfl rfl hg).trans rfl) rfl h24 (eval_of h32) rfl
                      · intro a' w' hE hK hd
                        obtain ⟨ug, hg, pg⟩ := got (hd ⟨15, .guard⟩ (by simp) rfl) rfl rfl
                        obtain rfl : ug = .bool false := pg
                        obtain ⟨u33, h33, p33⟩ := got (hd ⟨33, .data⟩ (by simp) rfl) rfl rfl
                        obtain rfl : u33 = .bool false := p33
                        exact st_move ((wanted_b rfl rfl rfl hg).trans rfl) rfl h33 rfl
                      · intro a' w' hE hK hd
                        obtain ⟨ug, hg, pg⟩ := got (hd ⟨34, .guard⟩ (by simp) rfl) rfl rfl
                        obtain rfl : ug = .bool false := pg
                        exact ok_not ((wanted_b rfl rfl rfl hg).trans rfl) rfl
                      · intro a' w' hE hK hd
                        obtain ⟨ug, hg, pg⟩ := got (hd ⟨34, .guard⟩ (by simp) rfl) rfl rfl
                        obtain rfl : ug = .bool false := pg
                        exact ok_not ((wanted_b rfl rfl rfl hg).trans rfl) rfl
                      · intro a' w' hE hK hd
                        obtain ⟨ug, hg, pg⟩ := got (hd ⟨34, .guard⟩ (by simp) rfl) rfl rfl
                        obtain rfl : ug = .bool false := pg
                        exact ok_not ((wanted_b rfl rfl rfl hg).trans rfl) rfl
                      · intro a' w' hE hK hd
                        obtain ⟨ug, hg, pg⟩ := got (hd ⟨34, .guard⟩ (by simp) rfl) rfl rfl
                        obtain rfl : ug = .bool false := pg
                        exact ok_not ((wanted_b rfl rfl rfl hg).trans rfl) rfl
                      · intro a' w' hE hK hd
                        obtain ⟨ug, hg, pg⟩ := got (hd ⟨34, .guard⟩ (by simp) rfl) rfl rfl
                        obtain rfl : ug = .bool false := pg
                        exact ok_not ((wanted_b rfl rfl rfl hg).trans rfl) rfl
                      · intro a' w' hE hK hd
                        obtain ⟨ug, hg, pg⟩ := got (hd ⟨34, .guard⟩ (by simp) rfl) rfl rfl
                        obtain rfl : ug = .bool false := pg
                        exact ok_not ((wanted_b rfl rfl rfl hg).trans rfl) rfl
                      · intro a' w' hE hK hd
                        obtain ⟨ug, hg, pg⟩ := got (hd ⟨34, .guard⟩ (by simp) rfl) rfl rfl
                        obtain rfl : ug = .bool false := pg
                        exact ok_not ((wanted_b rfl rfl rfl hg).trans rfl) rfl
                      · intro a' w' hE hK hd
                        obtain ⟨ug, hg, pg⟩ := got (hd ⟨34, .guard⟩ (by simp) rfl) rfl rfl
                        obtain rfl : ug = .bool false := pg
                        exact ok_not ((wanted_b rfl rfl rfl hg).trans rfl) rfl
                      · intro a' w' hE hK hd
                        obtain ⟨ug, hg, pg⟩ := got (hd ⟨15, .guard⟩ (by simp) rfl) rfl rfl
                        obtain rfl : ug = .bool false := pg
                        obtain ⟨u34, h34, p34⟩ := got (hd ⟨34, .data⟩ (by simp) rfl) rfl rfl
                        obtain rfl : u34 = .bool false := p34
                        exact st_pickv ((wanted_b rfl rfl rfl hg).trans rfl) rfl h34 rfl rfl
                      · intro a' w' hE hK hd
                        obtain ⟨u15, h15, p15⟩ := got (hd ⟨15, .data⟩ (by simp) rfl) rfl rfl
                        obtain rfl : u15 = .bool false := p15
                        obtain ⟨u43, h43, p43⟩ := got (hd ⟨43, .data⟩ (by simp) rfl) rfl rfl
                        obtain rfl : u43 = .bool false := p43
                        exact st_pickv (wanted_none rfl) rfl h15 (eval_of h43) rfl
                    · intro a' w' hE hK hG
                      obtain ⟨u, h44, p44⟩ := got (hG 44 (by decide)) rfl rfl
                      obtain rfl : u = .bool false := p44
                      refine hMK a' w' (Met.intro (hRJ a' w' ?_))
                      refine ⟨_, _, _, _, _, _, _, _, _, _, _, _, _, _, _, _, _, _, _, _, _, _, _, _, _, _, _, _, _, _, _, _, _, _, _, _, _, _, _, _, _, _, _, _, _, ?_, Kep.re hK rfl 98 142 (by decide)⟩
                      refine ⟨?_, Lib.hid (HEW.out.trans hE)⟩
                      show (a'.tmps[142]?).getD undef = _
                      rw [h44]; rfl
                  · rw [decide_eq_false hxb] at HSB
                    have hxc : X = c := by simpa [hxa, hxb] using hXm
                    rw [decide_eq_true hxc] at HSC
                    refine wp_region_mono (W := wx) rfl (Kd.at [.val (.int .i64 ((m + 1 : Nat) : Int)), .val (.bool true), .val (.bool true), .val (.slice (some ad) vs.length cv), .val (.int .i64 ((m + 1 : Nat) : Int)), .val (.int .i64 (m : Int)), .val (.pointer (some (ad.add m))), .row Y, .val (.slice (some ad) vs.length cv), .val (.int .i64 ((m + 1 : Nat) : Int)), .val (.pointer (some (ad.add (m + 1)))), .row X, .val (.int .i64 d), .val (.bool false), .val (.bool false), .val (.bool false), .fv 86, .val (.slice (some ad) vs.length cv), .val (.int .i64 ((m + 1 : Nat) : Int)), .val (.pointer (some (ad.add (m + 1)))), .row X, .row a, .val (.bool false), .val (.bool true), .val (.bool true), .fv 86, .val (.slice (some ad) vs.length cv), .val (.int .i64 ((m + 1 : Nat) : Int)), .val (.pointer (some (ad.add (m + 1)))), .row X, .row b, .val (.bool false), .val (.bool true), .val (.bool true), .val (.bool true), .fv 86, .val (.slice (some ad) vs.length cv), .val (.int .i64 ((m + 1 : Nat) : Int)), .val (.pointer (some (ad.add (m + 1)))), .row X, .row c, .val (.bool true), .val (.bool false), .val (.bool false), .val (.bool false)]) (Kd.at_mono _) 162 rfl (by decide) (by decide) (by decide) ?_ ?_
                    · refine ⟨?_, ?_, ?_, ?_, ?_, ?_, ?_, ?_, ?_, ?_, ?_, ?_, ?_, ?_, ?_, ?_, ?_, ?_, ?_, ?_, ?_, ?_, ?_, ?_, ?_, ?_, ?_, ?_, ?_, ?_, ?_, ?_, ?_, ?_, ?_, ?_, ?_, ?_, ?_, ?_, ?_, ?_, ?_, ?_, ?_, trivial⟩
                      · intro a' w' hE hK hd
                        have hi12 : a'.tmps[12]? = some (.int .i64 ((m + 1 : Nat) : Int)) := hK.get 12 (by decide)
                        exact st_move (wanted_none rfl) rfl hi12 rfl
                      · intro a' w' hE hK hd
                        obtain ⟨u0, h0, p0⟩ := got (hd ⟨0, .data⟩ (by simp) rfl) rfl rfl
                        obtain rfl : u0 = .int .i64 ((m + 1 : Nat) : Int) := p0
                        exact st_run (wanted_none rfl) (v := .bool true) (by unfold execOp; simp [h0, go_sem]; done) rfl
                      · intro a' w' hE hK hd
                        obtain ⟨u1, h1, p1⟩ := got (hd ⟨1, .data⟩ (by simp) rfl) rfl rfl
                        obtain rfl : u1 = .bool true := p1
                        exact st_move (wanted_none rfl) rfl h1 rfl
                      · intro a' w' hE hK hd
                        obtain ⟨ug, hg, pg⟩ := got (hd ⟨2, .guard⟩ (by simp) rfl) rfl rfl
                        obtain rfl : ug = .bool true := pg
                        have hi11 : a'.tmps[11]? = some (.slice (some ad) vs.length cv) := hK.get 11 (by decide)
                        exact st_move ((wanted_b rfl rfl rfl hg).trans rfl) rfl hi11 rfl
                      · intro a' w' hE hK hd
                        obtain ⟨ug, hg, pg⟩ := got (hd ⟨2, .guard⟩ (by simp) rfl) rfl rfl
                        obtain rfl : ug = .bool true := pg
                        have hi12 : a'.tmps[12]? = some (.int .i64 ((m + 1 : Nat) : Int)) := hK.get 12 (by decide)
                        exact st_move ((wanted_b rfl rfl rfl hg).trans rfl) rfl hi12 rfl
                      · intro a' w' hE hK hd
                        obtain ⟨ug, hg, pg⟩ := got (hd ⟨2, .guard⟩ (by simp) rfl) rfl rfl
                        obtain rfl : ug = .bool true := pg
                        obtain ⟨u4, h4, p4⟩ := got (hd ⟨4, .data⟩ (by simp) rfl) rfl rfl
                        obtain rfl : u4 = .int .i64 ((m + 1 : Nat) : Int) := p4
                        exact st_run ((wanted_b rfl rfl rfl hg).trans rfl) (v := .int .i64 (m : Int)) (by unfold execOp; simp [h4, go_sem]; exact hsub) rfl
                      · intro a' w' hE hK hd
                        obtain ⟨ug, hg, pg⟩ := got (hd ⟨2, .guard⟩ (by simp) rfl) rfl rfl
                        obtain rfl : ug = .bool true := pg
                        obtain ⟨u3, h3, p3⟩ := got (hd ⟨3, .data⟩ (by simp) rfl) rfl rfl
                        obtain rfl : u3 = .slice (some ad) vs.length cv := p3
                        obtain ⟨u5, h5, p5⟩ := got (hd ⟨5, .data⟩ (by simp) rfl) rfl rfl
                        obtain rfl : u5 = .int .i64 (m : Int) := p5
                        exact st_at ((wanted_b rfl rfl rfl hg).trans rfl) rfl Tryz.underlying33 (by kernel_rfl) h3 h5 (Nat.lt_of_succ_lt hlt) rfl
                      · intro a' w' hE hK hd
                        obtain ⟨ug, hg, pg⟩ := got (hd ⟨2, .guard⟩ (by simp) rfl) rfl rfl
                        obtain rfl : ug = .bool true := pg
                        obtain ⟨u6, h6, p6⟩ := got (hd ⟨6, .data⟩ (by simp) rfl) rfl rfl
                        obtain rfl : u6 = .pointer (some (ad.add m)) := p6
                        exact st_load ((wanted_b rfl rfl rfl hg).trans rfl) rfl Tryz.underlying22 h6 (HXM.out _ hE).1 (HXM.out _ hE).2
                      · intro a' w' hE hK hd
                        obtain ⟨ug, hg, pg⟩ := got (hd ⟨2, .guard⟩ (by simp) rfl) rfl rfl
                        obtain rfl : ug = .bool true := pg
                        have hi11 : a'.tmps[11]? = some (.slice (some ad) vs.length cv) := hK.get 11 (by decide)
                        exact st_move ((wanted_b rfl rfl rfl hg).trans rfl) rfl hi11 rfl
                      · intro a' w' hE hK hd
                        obtain ⟨ug, hg, pg⟩ := got (hd ⟨2, .guard⟩ (by simp) rfl) rfl rfl
                        obtain rfl : ug = .bool true := pg
                        have hi12 : a'.tmps[12]? = some (.int .i64 ((m + 1 : Nat) : Int)) := hK.get 12 (by decide)
                        exact st_move ((wanted_b rfl rfl rfl hg).trans rfl) rfl hi12 rfl
                      · intro a' w' hE hK hd
                        obtain ⟨ug, hg, pg⟩ := got (hd ⟨2, .guard⟩ (by simp) rfl) rfl rfl
                        obtain rfl : ug = .bool true := pg
                        obtain ⟨u8, h8, p8⟩ := got (hd ⟨8, .data⟩ (by simp) rfl) rfl rfl
                        obtain rfl : u8 = .slice (some ad) vs.length cv := p8
                        obtain ⟨u9, h9, p9⟩ := got (hd ⟨9, .data⟩ (by simp) rfl) rfl rfl
                        obtain rfl : u9 = .int .i64 ((m + 1 : Nat) : Int) := p9
                        exact st_at ((wanted_b rfl rfl rfl hg).trans rfl) rfl Tryz.underlying33 (by kernel_rfl) h8 h9 hlt rfl
                      · intro a' w' hE hK hd
                        obtain ⟨ug, hg, pg⟩ := got (hd ⟨2, .guard⟩ (by simp) rfl) rfl rfl
                        obtain rfl : ug = .bool true := pg
                        obtain ⟨u10, h10, p10⟩ := got (hd ⟨10, .data⟩ (by simp) rfl) rfl rfl
                        obtain rfl : u10 = .pointer (some (ad.add (m + 1))) := p10
                        exact st_load ((wanted_b rfl rfl rfl hg).trans rfl) rfl Tryz.underlying22 h10 (HXK.out _ hE).1 (HXK.out _ hE).2
                      · intro a' w' hE hK hd
                        obtain ⟨ug, hg, pg⟩ := got (hd ⟨2, .guard⟩ (by simp) rfl) rfl rfl
                        obtain rfl : ug = .bool true := pg
                        obtain ⟨u7, h7, p7⟩ := got (hd ⟨7, .data⟩ (by simp) rfl) rfl rfl
                        have r7 : RI w' u7 Y := p7
                        obtain ⟨u11, h11, p11⟩ := got (hd ⟨11, .data⟩ (by simp) rfl) rfl rfl
                        have r11 : RI w' u11 X := p11
                        exact st_call _ _ _ rfl ((wanted_b rfl rfl rfl hg).trans rfl) rfl fv_compare _ (by simp only [List.map_toArray, List.map_cons, List.map_nil, eval_of h7, eval_of h11]) ((HCY.out _ _ _ r7 r11).mono fun e w'' ⟨H1, H2⟩ => ⟨_, H1, H2, rfl⟩)
                      · intro a' w' hE hK hd
                        obtain ⟨ug, hg, pg⟩ := got (hd ⟨2, .guard⟩ (by simp) rfl) rfl rfl
                        obtain rfl : ug = .bool true := pg
                        obtain ⟨u12, h12, p12⟩ := got (hd ⟨12, .data⟩ (by simp) rfl) rfl rfl
                        obtain rfl : u12 = .int .i64 d := p12
                        exact st_run ((wanted_b rfl rfl rfl hg).trans rfl) (v := .bool false) (by unfold execOp; simp [h12, go_sem, hd0]; done) rfl
                      · intro a' w' hE hK hd
                        obtain ⟨u2, h2, p2⟩ := got (hd ⟨2, .data⟩ (by simp) rfl) rfl rfl
                        obtain rfl : u2 = .bool true := p2
                        obtain ⟨u13, h13, p13⟩ := got (hd ⟨13, .data⟩ (by simp) rfl) rfl rfl
                        obtain rfl : u13 = .bool false := p13
                        exact st_pickv (wanted_none rfl) rfl h2 (eval_of h13) rfl
                      · intro a' w' hE hK hd
                        obtain ⟨u14, h14, p14⟩ := got (hd ⟨14, .data⟩ (by simp) rfl) rfl rfl
                        obtain rfl : u14 = .bool false := p14
                        exact st_move (wanted_none rfl) rfl h14 rfl
                      · intro a' w' hE hK hd
                        obtain ⟨ug, hg, pg⟩ := got (hd ⟨15, .guard⟩ (by simp) rfl) rfl rfl
                        obtain rfl : ug = .bool false := pg
                        exact st_run ((wanted_b rfl rfl rfl hg).trans rfl) (v := .func (.func 86) #[] #[]) (by have cg' := hE.cell cg; unfold execOp; simp [go_sem, cg']; done) rfl
                      · intro a' w' hE hK hd
                        obtain ⟨ug, hg, pg⟩ := got (hd ⟨15, .guard⟩ (by simp) rfl) rfl rfl
                        obtain rfl : ug = .bool false := pg
                        have hi11 : a'.tmps[11]? = some (.slice (some ad) vs.length cv) := hK.get 11 (by decide)
                        exact st_move ((wanted_b rfl rfl rfl hg).trans rfl) rfl hi11 rfl
                      · intro a' w' hE hK hd
                        obtain ⟨ug, hg, pg⟩ := got (hd ⟨15, .guard⟩ (by simp) rfl) rfl rfl
                        obtain rfl : ug = .bool false := pg
                        have hi12 : a'.tmps[12]? = some (.int .i64 ((m + 1 : Nat) : Int)) := hK.get 12 (by decide)
                        exact st_move ((wanted_b rfl rfl rfl hg).trans rfl) rfl hi12 rfl
                      · intro a' w' hE hK hd
                        obtain ⟨ug, hg, pg⟩ := got (hd ⟨15, .guard⟩ (by simp) rfl) rfl rfl
                        obtain rfl : ug = .bool false := pg
                        obtain ⟨u17, h17, p17⟩ := got (hd ⟨17, .data⟩ (by simp) rfl) rfl rfl
                        obtain rfl : u17 = .slice (some ad) vs.length cv := p17
                        obtain ⟨u18, h18, p18⟩ := got (hd ⟨18, .data⟩ (by simp) rfl) rfl rfl
                        obtain rfl : u18 = .int .i64 ((m + 1 : Nat) : Int) := p18
                        exact st_at ((wanted_b rfl rfl rfl hg).trans rfl) rfl Tryz.underlying33 (by kernel_rfl) h17 h18 hlt rfl
                      · intro a' w' hE hK hd
                        obtain ⟨ug, hg, pg⟩ := got (hd ⟨15, .guard⟩ (by simp) rfl) rfl rfl
                        obtain rfl : ug = .bool false := pg
                        obtain ⟨u19, h19, p19⟩ := got (hd ⟨19, .data⟩ (by simp) rfl) rfl rfl
                        obtain rfl : u19 = .pointer (some (ad.add (m + 1))) := p19
                        exact st_load ((wanted_b rfl rfl rfl hg).trans rfl) rfl Tryz.underlying22 h19 (HXK.out _ hE).1 (HXK.out _ hE).2
                      · intro a' w' hE hK hd
                        obtain ⟨ug, hg, pg⟩ := got (hd ⟨15, .guard⟩ (by simp) rfl) rfl rfl
                        obtain rfl : ug = .bool false := pg
                        have hi0 : a'.tmps[0]? = some (.slice A a.length ca) := hK.get 0 (by decide)
                        exact st_move ((wanted_b rfl rfl rfl hg).trans rfl) rfl hi0 (HA5.out.ext hE)
                      · intro a' w' hE hK hd
                        obtain ⟨ug, hg, pg⟩ := got (hd ⟨15, .guard⟩ (by simp) rfl) rfl rfl
                        obtain rfl : ug = .bool false := pg
                        obtain ⟨u16, h16, p16⟩ := got (hd ⟨16, .data⟩ (by simp) rfl) rfl rfl
                        obtain rfl : u16 = .func (.func 86) #[] #[] := p16
                        obtain ⟨u20, h20, p20⟩ := got (hd ⟨20, .data⟩ (by simp) rfl) rfl rfl
                        have r20 : RI w' u20 X := p20
                        obtain ⟨u21, h21, p21⟩ := got (hd ⟨21, .data⟩ (by simp) rfl) rfl rfl
                        have r21 : RI w' u21 a := p21
                        exact st_call _ _ _ rfl ((wanted_b rfl rfl rfl hg).trans rfl) (eval_of h16) fv_same _ (by simp only [List.map_toArray, List.map_cons, List.map_nil, eval_of h20, eval_of h21]) ((HSA.out _ _ _ r20 r21).mono fun e w'' ⟨H1, H2⟩ => ⟨_, H1, H2, rfl⟩)
                      · intro a' w' hE hK hd
                        obtain ⟨ug, hg, pg⟩ := got (hd ⟨15, .guard⟩ (by simp) rfl) rfl rfl
                        obtain rfl : ug = .bool false := pg
                        obtain ⟨u22, h22, p22⟩ := got (hd ⟨22, .data⟩ (by simp) rfl) rfl rfl
                        obtain rfl : u22 = .bool false := p22
                        exact st_not ((wanted_b rfl rfl rfl hg).trans rfl) rfl h22 rfl
                      · intro a' w' hE hK hd
                        obtain ⟨ug, hg, pg⟩ := got (hd ⟨15, .guard⟩ (by simp) rfl) rfl rfl
                        obtain rfl : ug = .bool false := pg
                        obtain ⟨u23, h23, p23⟩ := got (hd ⟨23, .data⟩ (by simp) rfl) rfl rfl
                        obtain rfl : u23 = .bool true := p23
                        exact st_move ((wanted_b rfl rfl rfl hg).trans rfl) rfl h23 rfl
                      · intro a' w' hE hK hd
                        obtain ⟨ug, hg, pg⟩ := got (hd ⟨24, .guard⟩ (by simp) rfl) rfl rfl
                        obtain rfl : ug = .bool true := pg
                        exact st_run ((wanted_b rfl rfl rfl hg).trans rfl) (v := .func (.func 86) #[] #[]) (by have cg' := hE.cell cg; unfold execOp; simp [go_sem, cg']; done) rfl
                      · intro a' w' hE hK hd
                        obtain ⟨ug, hg, pg⟩ := got (hd ⟨24, .guard⟩ (by simp) rfl) rfl rfl
                        obtain rfl : ug = .bool true := pg
                        have hi11 : a'.tmps[11]? = some (.slice (some ad) vs.length cv) := hK.get 11 (by decide)
                        exact st_move ((wanted_b rfl rfl rfl hg).trans rfl) rfl hi11 rfl
                      · intro a' w' hE hK hd
                        obtain ⟨ug, hg, pg⟩ := got (hd ⟨24, .guard⟩ (by simp) rfl) rfl rfl
                        obtain rfl : ug = .bool true := pg
                        have hi12 : a'.tmps[12]? = some (.int .i64 ((m + 1 : Nat) : Int)) := hK.get 12 (by decide)
                        exact st_move ((wanted_b rfl rfl rfl hg).trans rfl) rfl hi12 rfl
                      · intro a' w' hE hK hd
                        obtain ⟨ug, hg, pg⟩ := got (hd ⟨24, .guard⟩ (by simp) rfl) rfl rfl
                        obtain rfl : ug = .bool true := pg
                        obtain ⟨u26, h26, p26⟩ := got (hd ⟨26, .data⟩ (by simp) rfl) rfl rfl
                        obtain rfl : u26 = .slice (some ad) vs.length cv := p26
                        obtain ⟨u27, h27, p27⟩ := got (hd ⟨27, .data⟩ (by simp) rfl) rfl rfl
                        obtain rfl : u27 = .int .i64 ((m + 1 : Nat) : Int) := p27
                        exact st_at ((wanted_b rfl rfl rfl hg).trans rfl) rfl Tryz.underlying33 (by kernel_rfl) h26 h27 hlt rfl
                      · intro a' w' hE hK hd
                        obtain ⟨ug, hg, pg⟩ := got (hd ⟨24, .guard⟩ (by simp) rfl) rfl rfl
                        obtain rfl : ug = .bool true := pg
                        obtain ⟨u28, h28, p28⟩ := got (hd ⟨28, .data⟩ (by simp) rfl) rfl rfl
                        obtain rfl : u28 = .pointer (some (ad.add (m + 1))) := p28
                        exact st_load ((wanted_b rfl rfl rfl hg).trans rfl) rfl Tryz.underlying22 h28 (HXK.out _ hE).1 (HXK.out _ hE).2
                      · intro a' w' hE hK hd
                        obtain ⟨ug, hg, pg⟩ := got (hd ⟨24, .guard⟩ (by simp) rfl) rfl rfl
                        obtain rfl : ug = .bool true := pg
                        have hi1 : a'.tmps[1]? = some (.slice B b.length cb) := hK.get 1 (by decide)
                        exact st_move ((wanted_b rfl rfl rfl hg).trans rfl) rfl hi1 (HB5.out.ext hE)
                      · intro a' w' hE hK hd
                        obtain ⟨ug, hg, pg⟩ := got (hd ⟨24, .guard⟩ (by simp) rfl) rfl rfl
                        obtain rfl : ug = .bool true := pg
                        obtain ⟨u25, h25, p25⟩ := got (hd ⟨25, .data⟩ (by simp) rfl) rfl rfl
                        obtain rfl : u25 = .func (.func 86) #[] #[] := p25
                        obtain ⟨u29, h29, p29⟩ := got (hd ⟨29, .data⟩ (by simp) rfl) rfl rfl
                        have r29 : RI w' u29 X := p29
                        obtain ⟨u30, h30, p30⟩ := got (hd ⟨30, .data⟩ (by simp) rfl) rfl rfl
                        have r30 : RI w' u30 b := p30
                        exact st_call _ _ _ rfl ((wanted_b rfl rfl rfl hg).trans rfl) (eval_of h25) fv_same _ (by simp only [List.map_toArray, List.map_cons, List.map_nil, eval_of h29, eval_of h30]) ((HSB.out _ _ _ r29 r30).mono fun e w'' ⟨H1, H2⟩ => ⟨_, H1, H2, rfl⟩)
                      · intro a' w' hE hK hd
                        obtain ⟨ug, hg, pg⟩ := got (hd ⟨24, .guard⟩ (by simp) rfl) rfl rfl
                        obtain rfl : ug = .bool true := pg
                        obtain ⟨u31, h31, p31⟩ := got (hd ⟨31, .data⟩ (by simp) rfl) rfl rfl
                        obtain rfl : u31 = .bool false := p31
                        exact st_not ((wanted_b rfl rfl rfl hg).trans rfl) rfl h31 rfl
                      · intro a' w' hE hK hd
                        obtain ⟨ug, hg, pg⟩ := got (hd ⟨15, .guard⟩ (by simp) rfl) rfl rfl
                        obtain rfl : ug = .bool false := pg
                        obtain ⟨u24, h24, p24⟩ := got (hd ⟨24, .data⟩ (by simp) rfl) rfl rfl
                        obtain rfl : u24 = .bool true := p24
                        obtain ⟨u32, h32, p32⟩ := got (hd ⟨32, .data⟩ (by simp) rfl) rfl rfl
                        obtain rfl : u32 = .bool true := p32
                        exact st_pickv ((wanted_b rfl rfl rfl hg).trans rfl) rfl h24 (eval_of h32) rfl
                      · intro a' w' hE hK hd
                        obtain ⟨ug, hg, pg⟩ := got (hd ⟨15, .guard⟩ (by simp) rfl) rfl rfl
                        obtain rfl : ug = .bool false := pg
                        obtain ⟨u33, h33, p33⟩ := got (hd ⟨33, .data⟩ (by simp) rfl) rfl rfl
                        obtain rfl : u33 = .bool true := p33
                        exact st_move ((wanted_b rfl rfl rfl hg).trans rfl) rfl h33 rfl
                      · intro a' w' hE hK hd
                        obtain ⟨ug, hg, pg⟩ := got (hd ⟨34, .guard⟩ (by simp) rfl) rfl rfl
                        obtain rfl : ug = .bool true := pg
                        exact st_run ((wanted_b rfl rfl rfl hg).trans rfl) (v := .func (.func 86) #[] #[]) (by have cg' := hE.cell cg; unfold execOp; simp [go_sem, cg']; done) rfl
                      · intro a' w' hE hK hd
                        obtain ⟨ug, hg, pg⟩ := got (hd ⟨34, .guard⟩ (by simp) rfl) rfl rfl
                        obtain rfl : ug = .bool true := pg
                        have hi11 : a'.tmps[11]? = some (.slice (some ad) vs.length cv) := hK.get 11 (by decide)
                        exact st_move ((wanted_b rfl rfl rfl hg).trans rfl) rfl hi11 rfl
                      · intro a' w' hE hK hd
                        obtain ⟨ug, hg, pg⟩ := got (hd ⟨34, .guard⟩ (by simp) rfl) rfl rfl
                        obtain rfl : ug = .bool true := pg
                        have hi12 : a'.tmps[12]? = some (.int .i64 ((m + 1 : Nat) : Int)) := hK.get 12 (by decide)
                        exact st_move ((wanted_b rfl rfl rfl hg).trans rfl) rfl hi12 rfl
                      · intro a' w' hE hK hd
                        obtain ⟨ug, hg, pg⟩ := got (hd ⟨34, .guard⟩ (by simp) rfl) rfl rfl
                        obtain rfl : ug = .bool true := pg
                        obtain ⟨u36, h36, p36⟩ := got (hd ⟨36, .data⟩ (by simp) rfl) rfl rfl
                        obtain rfl : u36 = .slice (some ad) vs.length cv := p36
                        obtain ⟨u37, h37, p37⟩ := got (hd ⟨37, .data⟩ (by simp) rfl) rfl rfl
                        obtain rfl : u37 = .int .i64 ((m + 1 : Nat) : Int) := p37
                        exact st_at ((wanted_b rfl rfl rfl hg).trans rfl) rfl Tryz.underlying33 (by kernel_rfl) h36 h37 hlt rfl
                      · intro a' w' hE hK hd
                        obtain ⟨ug, hg, pg⟩ := got (hd ⟨34, .guard⟩ (by simp) rfl) rfl rfl
                        obtain rfl : ug = .bool true := pg
                        obtain ⟨u38, h38, p38⟩ := got (hd ⟨38, .data⟩ (by simp) rfl) rfl rfl
                        obtain rfl : u38 = .pointer (some (ad.add (m + 1))) := p38
                        exact st_load ((wanted_b rfl rfl rfl hg).trans rfl) rfl Tryz.underlying22 h38 (HXK.out _ hE).1 (HXK.out _ hE).2
                      · intro a' w' hE hK hd
                        obtain ⟨ug, hg, pg⟩ := got (hd ⟨34, .guard⟩ (by simp) rfl) rfl rfl
                        obtain rfl : ug = .bool true := pg
                        have hi2 : a'.tmps[2]? = some (.slice C c.length cc) := hK.get 2 (by decide)
                        exact st_move ((wanted_b rfl rfl rfl hg).trans rfl) rfl hi2 (HC5.out.ext hE)
                      · intro a' w' hE hK hd
                        obtain ⟨ug, hg, pg⟩ := got (hd ⟨34, .guard⟩ (by simp) rfl) rfl rfl
                        obtain rfl : ug = .bool true := pg
                        obtain ⟨u35, h35, p35⟩ := got (hd ⟨35, .data⟩ (by simp) rfl) rfl rfl
                        obtain rfl : u35 = .func (.func 86) #[] #[] := p35
                        obtain ⟨u39, h39, p39⟩ := got (hd ⟨39, .data⟩ (by simp) rfl) rfl rfl
                        have r39 : RI w' u39 X := p39
                        obtain ⟨u40, h40, p40⟩ := got (hd ⟨40, .data⟩ (by simp) rfl) rfl rfl
                        have r40 : RI w' u40 c := p40
                        exact st_call _ _ _ rfl ((wanted_b rfl rfl rfl hg).trans rfl) (eval_of h35) fv_same _ (by simp only [List.map_toArray, List.map_cons, List.map_nil, eval_of h39, eval_of h40]) ((HSC.out _ _ _ r39 r40).mono fun e w'' ⟨H1, H2⟩ => ⟨_, H1, H2, rfl⟩)
                      · intro a' w' hE hK hd
                        obtain ⟨ug, hg, pg⟩ := got (hd ⟨34, .guard⟩ (by simp) rfl) rfl rfl
                        obtain rfl : ug = .bool true := pg
                        obtain ⟨u41, h41, p41⟩ := got (hd ⟨41, .data⟩ (by simp) rfl) rfl rfl
                        obtain rfl : u41 = .bool true := p41
                        exact st_not ((wanted_b rfl rfl rfl hg).trans rfl) rfl h41 rfl
                      · intro a' w' hE hK hd
                        obtain ⟨ug, hg, pg⟩ := got (hd ⟨15, .guard⟩ (by simp) rfl) rfl rfl
                        obtain rfl : ug = .bool false := pg
                        obtain ⟨u34, h34, p34⟩ := got (hd ⟨34, .data⟩ (by simp) rfl) rfl rfl
                        obtain rfl : u34 = .bool true := p34
                        obtain ⟨u42, h42, p42⟩ := got (hd ⟨42, .data⟩ (by simp) rfl) rfl rfl
                        obtain rfl : u42 = .bool false := p42
                        exact st_pickv ((wanted_b rfl rfl rfl hg).trans rfl) rfl h34 (eval_of h42) rfl
                      · intro a' w' hE hK hd
                        obtain ⟨u15, h15, p15⟩ := got (hd ⟨15, .data⟩ (by simp) rfl) rfl rfl
                        obtain rfl : u15 = .bool false := p15
                        obtain ⟨u43, h43, p43⟩ := got (hd ⟨43, .data⟩ (by simp) rfl) rfl rfl
                        obtain rfl : u43 = .bool false := p43
                        exact st_pickv (wanted_none rfl) rfl h15 (eval_of h43) rfl
                    · intro a' w' hE hK hG
                      obtain ⟨u, h44, p44⟩ := got (hG 44 (by decide)) rfl rfl
                      obtain rfl : u = .bool false := p44
                      refine hMK a' w' (Met.intro (hRJ a' w' ?_))
                      refine ⟨_, _, _, _, _, _, _, _, _, _, _, _, _, _, _, _, _, _, _, _, _, _, _, _, _, _, _, _, _, _, _, _, _, _, _, _, _, _, _, _, _, _, _, _, _, ?_, Kep.re hK rfl 98 142 (by decide)⟩
                      refine ⟨?_, Lib.hid (HEW.out.trans hE)⟩
                      show (a'.tmps[142]?).getD undef = _
                      rw [h44]; rfl
            case rest =>
              obtain ⟨rfl, HCT2⟩ := hcut
              go_wp2
              go_roundg (vs.length - (k + 1))
              case measure => omega
              case rel => exact ⟨k + 1, by omega, by omega, by go_num, HCT2⟩
          · obtain rfl : k = vs.length := by omega
            clear hk hgk hlt
            have HWX := Lib.hid (HE5.out.trans HEW.out)
            have HFX := Lib.hid (HF5.out.ext' HEW.out)
            have HOX := Lib.hid (HO6.out.ext' HEW.out)
            obtain ⟨FA, fc, fs, hfe, f1, f2, f3, f4, f5⟩ := HFX.out
            injection hfe with g1 g2 g3
            subst g1 g3
            have hfs : fs.length = 4 := by omega
            have HF3 := Lib.hid f3
            have HF4 := Lib.hid hfs
            have HF5' := Lib.hid f5
            clear f3 f4 f5 g2 f1 f2 hfs
            go_wp2
            go_loopg [146] 4 (fun gn i wr => ∃ k : Nat, k ≤ 4 ∧ gn + k = 4 ∧ i = .int .i64 k ∧ Hid (Ext wx wr))
            case atStart => exact ⟨0, Nat.zero_le _, by omega, rfl, Lib.hid (Ext.refl _)⟩
            case round =>
              obtain ⟨k, hk, hgk, rfl, HEY⟩ := hrel
              obtain ⟨wy, rfl⟩ : ∃ wy : World, wy = wr := ⟨_, rfl⟩
              by_cases hlt : k < 4
              · have hkf : k < fs.length := by rw [HF4.out]; exact hlt
                have hk4 : k < [a, b, c, a].length := hlt
                obtain ⟨ad, had, hcl⟩ := (HF3.out.ext HEY.out) k hkf
                obtain rfl := Option.some.inj had
                rw [addr0] at hcl
                clear had
                have HXR := Lib.hid ((HF5'.out k hkf hk4).ext HEY.out)
                have hXS : [a, b, c, a][k] ∈ S := (HSM.out _).2 (List.getElem_mem hk4)
                generalize [a, b, c, a][k] = X at HXR hXS
                generalize fs[k] = xv at HXR hcl
                obtain ⟨XA, xc, hxe, x1, x2, -⟩ := HXR.out
                subst hxe
                have HXR1 := Lib.hid (HXR.out.ext (Ext.alloc wy (.cells #[.slice XA X.length xc] 22)))
                have HCF : Hid (Calls Tryz.prog 50 #[.slice V vs.length cv, .func (.func 51) #[] #[.pointer (some ⟨wy.heap.size, 0, none⟩)]] (wy.alloc (.cells #[.slice XA X.length xc] 22)) fun e w' => e = .returned (.bool true) ∧ Ext wx w') := Lib.hid (by
                  have hrx := HOX.out
                  obtain ⟨V', cv', vs', hve, -, -, v3, v4, v5⟩ := hrx
                  have hn : vs'.length = vs.length := by rw [v4, Q4.out]
                  injection hve with e1 e2 e3
                  subst e1 e3
                  have hEA := HEY.out.trans (Ext.alloc wy (.cells #[.slice XA X.length xc] 22))
                  have hc := containsFuncL 51 #[.pointer (some ⟨wy.heap.size, 0, none⟩)] fv_ord1 V cv vs' (by omega)
                    (fun j => decide (S.getD j [] = X)) (fun _ w' => Ext (wy.alloc (.cells #[.slice XA X.length xc] 22)) w') (wy.alloc (.cells #[.slice XA X.length xc] 22))
                    (fun _ w' h => v3.ext (hEA.trans h))
                    (fun j hj w' h => by
                      have hjS : j < S.length := by rw [← v4]; exact hj
                      refine (ord1_fn S[j] X vs'[j] _ wy.heap.size w' ((v5 j hj hjS).ext (hEA.trans h)) (HXR1.out.ext h) (h.cell (Var1.new wy 22 (.slice XA X.length xc)).cell) (HL.out.same.ext ((HWX.out.trans hEA).trans h))).mono ?_
                      rintro e w'' ⟨rfl, he⟩
                      exact ⟨by rw [getD_of S j hjS], h.trans he⟩)
                    (Ext.refl _)
                  rw [hn] at hc
                  refine hc.mono ?_
                  rintro e w' ⟨r, rfl, hst⟩
                  rcases hst with ⟨j, hj, -, -, rfl, he⟩ | ⟨hno, -, -⟩
                  · exact ⟨by rw [decide_eq_true (by omega)], hEA.trans he⟩
                  · obtain ⟨j, hj, hje⟩ := List.getElem_of_mem hXS
                    have : decide (S.getD j [] = X) = false := hno j (by rw [← hn, v4]; exact hj)
                    rw [getD_of S j hj, hje, decide_eq_true rfl] at this
                    cases this)
                go_wp2_with (go_at_call 50; refine HCF.out.mono ?_; rintro e wz ⟨rfl, hE⟩; have HEZ := Lib.hid hE; clear hE)
                go_roundg (4 - (k + 1))
                case measure => omega
                case rel => exact ⟨k + 1, by omega, by omega, by go_num, HEZ⟩
              · obtain rfl : k = 4 := by omega
                have HOY := Lib.hid (HOX.out.ext' HEY.out)
                have HSO2 := Lib.hid (Sort_any S _ wy HS64.out HOY.out (fun _ => by
                  have h1 := lens_small (f := S) (fun z hz => by
                    have := (HSM.out z).1 hz
                    simp at this
                    rcases this with rfl | rfl | rfl | rfl <;> omega) S.length (Nat.le_refl _)
                  have h2 := HSL.out
                  have h3 : total S = lens S S.length := rfl
                  omega))
                rw [HSS.out] at HSO2
                go_wp2_with (first
                  | (go_at_call 47
                     refine HSO2.out.mono ?_
                     rintro e wz ⟨vz, rfl, ho, hE⟩
                     have HOZ := Lib.hid ho.reads
                     have HEZ := Lib.hid hE
                     clear ho hE)
                  | (go_at_call 48
                     have hsa := SameAll_any S S _ _ _ HOZ.out (HOY.out.ext' HEZ.out)
                     rw [decide_eq_true rfl] at hsa
                     refine hsa.mono ?_
                     rintro e wu ⟨rfl, hE⟩
                     have HEU := Lib.hid (((HWX.out.trans HEY.out).trans HEZ.out).trans hE)
                     clear hE hsa)
                  | (go_at_call 11; refine (awake_any _ (HL.out.ext HEU.out)).mono ?_; rintro e wt ⟨rfl, hE⟩; have HET := Lib.hid (HEU.out.trans hE); clear hE))
                go_ret
                exact ⟨rfl, HET.out⟩
end Go.Proofs.YtlompphnngnaiaaGreatDoor
