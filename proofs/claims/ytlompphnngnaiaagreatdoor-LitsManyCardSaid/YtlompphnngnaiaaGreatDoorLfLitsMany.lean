/- Walk of slices.CompactFunc over lists of integers, with the closure of lits.Sort. Walk of lits.Sort: the library's sort by the order of lists, equal neighbours struck, each list cloned. What LitsOrders says, in plain words. Further steps of a region in whatever order: operations that are not wanted, negations, choices, elements of slices. Lists of lists as pairs of a header and what it reads as; the append of such rows. Walk of skolemref01.Sort: lists put in one after the other, each at its place. -/
import Derived.Test.YtlompphnngnaiaaGreatDoorLb
import Derived.Test.YtlompphnngnaiaaGreatDoorLc
import Derived.Test.YtlompphnngnaiaaGreatDoorLa
import Derived.Test.YtlompphnngnaiaaGreatDoorLd
import Derived.Test.YtlompphnngnaiaaGreatDoorLeLitsMany
namespace Go.Proofs.YtlompphnngnaiaaGreatDoor
open Go.RowKit

set_option maxHeartbeats 400000 in
theorem sort1_fn (xs ys : List Int) (v u : Value) (w : World) (hr : RI w v xs) (kr : RI w u ys) :
    Calls Tryz.prog 84 #[v, u] w fun e w' => e = .returned (.bool (decide (xs = ys))) ∧ ∃ n, w' = w.drewN n := by
  have H := Lib.hid (equal_any xs ys v u w hr kr)
  clear hr kr
  go_enter Tryz.func84, Tryz.ntmps84
  go_wp2_with (go_at_call 85; refine H.out.mono ?_; rintro e w' ⟨rfl, hE⟩; have HE := Lib.hid hE; clear hE)
  go_ret
  exact ⟨rfl, HE.out⟩
theorem fv_sort1 : Fv Tryz.prog 84 := ⟨_, Tryz.func84, by kernel_rfl, by kernel_rfl⟩

/-- Which element is as the one before it. -/
def dups : Option (List Int) → List (Value × List Int) → List ((Value × List Int) × Bool)
  | _, [] => []
  | pr, p :: l => (p, decide (pr = some p.2)) :: dups (some p.2) l
theorem dups_len : ∀ (ps : List (Value × List Int)) (pr : Option (List Int)), (dups pr ps).length = ps.length
  | [], _ => rfl
  | p :: l, pr => by rw [dups, List.length_cons, dups_len l, List.length_cons]
theorem dups_fst : ∀ (ps : List (Value × List Int)) (pr : Option (List Int)), (dups pr ps).map Prod.fst = ps
  | [], _ => rfl
  | p :: l, pr => by rw [dups, List.map_cons, dups_fst l]
theorem dups_snd : ∀ (ps : List (Value × List Int)) (pr : Option (List Int)) (j : Nat) (hj : j < (dups pr ps).length) (h : j < ps.length), (dups pr ps)[j].2 = decide ((if j = 0 then pr else some (ps[j - 1]'(by omega)).2) = some ps[j].2)
  | [], _, _, _, h => absurd h (Nat.not_lt_zero _)
  | p :: l, pr, 0, _, _ => by simp [dups]
  | p :: l, pr, j + 1, hj, h => by
    have ih := dups_snd l (some p.2) j (by simpa [dups] using hj) (by simpa using h)
    simp only [dups, List.getElem_cons_succ]
    rw [ih]
    cases j with
    | zero => simp
    | succ j => simp
theorem dups_at (ps : List (Value × List Int)) (k : Nat) (hj : k + 1 < (dups none ps).length) (h : k + 1 < ps.length) : (dups none ps)[k + 1].2 = decide (ps[k + 1].2 = ps[k].2) := by
  rw [dups_snd ps none (k + 1) hj h, if_neg (by omega)]
  rw [decide_eq_decide]
  exact ⟨fun e => by injection e with e; exact e.symm, fun e => by rw [e]; rfl⟩
theorem dups_some : ∀ (ps : List (Value × List Int)) (c : List Int), compactL (c :: ps.map Prod.snd) = c :: ((dups (some c) ps).filter fun q => !q.2).map (fun q => q.1.2)
  | [], c => rfl
  | p :: l, c => by
    rw [List.map_cons, compactL, dups_some l p.2, dups, List.filter_cons]
    by_cases h : c = p.2
    · rw [if_pos h, if_neg (by simp [h]), h]
    · rw [if_neg h, if_pos (by simp [h]), List.map_cons]
theorem dups_none (ps : List (Value × List Int)) : ((dups none ps).filter fun q => !q.2).map (fun q => q.1.2) = compactL (ps.map Prod.snd) := by
  cases ps with
  | nil => rfl
  | cons p l =>
    rw [List.map_cons, dups_some l p.2, dups, List.filter_cons, if_pos (by simp), List.map_cons]

def PostCmpF (w0 : World) (ps : List (Value × List Int)) (e : Ending) (w' : World) : Prop :=
  ∃ (v' : Value) (rs : List (Value × List Int)), e = .returned v' ∧ w'.ownsRow w0.heap.size 22 1 v' rs.length (rs.map Prod.fst) ∧ Ext w0 w' ∧ (∀ p ∈ rs, p ∈ ps) ∧ rs.map Prod.snd = compactL (ps.map Prod.snd)

theorem zero_ints : ∀ w, (zeroValue 22).run Tryz.prog w = .ok (.slice none 0 0) w := fun _ => by kernel_rfl

theorem compactL_short (l : List (List Int)) (h : l.length < 2) : compactL l = l := by
  match l, h with
  | [], _ => rfl
  | [c], _ => rfl
  | _ :: _ :: _, h => simp at h; omega

set_option maxHeartbeats 4000000 in
theorem compactFunc_any (ps : List (Value × List Int)) (v : Value) (w0 w : World) (hE : Ext w0 w) (hown : w.ownsRow w0.heap.size 22 1 v ps.length (ps.map Prod.fst)) (hp : ∀ p ∈ ps, RI w0 p.1 p.2) (hl : ps.length ≤ 100000000) :
    Calls Tryz.prog 83 #[v, .func (.func 84) #[] #[]] w (PostCmpF w0 ps) := by
  have HO := Lib.hid hown
  have HP := Lib.hid hp
  have HE := Lib.hid hE
  by_cases hn : ps.length < 2
  · have hrow := own_row (show w.ownsRow w0.heap.size 22 1 v (ps.map Prod.fst).length (ps.map Prod.fst) by rw [List.length_map]; exact hown)
    rw [List.length_map] at hrow
    obtain ⟨A, c, rfl, hc1, hc2, -⟩ := hrow
    have hnb : decide ((ps.length : Int) < 2) = true := by rw [decide_eq_true_eq]; omega
    clear hown hp hE
    go_enter Tryz.func83, Tryz.ntmps83
    go_wp2
    go_ret
    exact ⟨_, ps, rfl, HO.out, HE.out, fun p hp => hp, (compactL_short _ (by rw [List.length_map]; exact hn)).symm⟩
  · obtain ⟨-, h | ⟨g, c, cur, rfl, hb, hg, hn', hm, hsz, ht⟩⟩ := hown
    · exact absurd h.2 (by omega)
    have HT := Lib.hid ht
    have HG : Hid (Blk w g 22 cur.toList) := Lib.hid (by unfold Blk; simpa using hg)
    have HSZ := Lib.hid hsz
    have hmc : c ≤ 9223372036854775807 := by unfold maxLen at hm; omega
    have HB := Lib.hid hb
    have HM := Lib.hid hm
    have hcur : ∀ j (h : j < ps.length), cur.toList[j]? = some ps[j].1 := fun j hj => by
      have := congrArg (fun l => l[j]?) ht
      rw [Nat.mul_one] at this
      simp only [List.getElem?_take, if_pos hj, List.getElem?_map, List.getElem?_eq_getElem hj] at this
      exact this
    have HCUR := Lib.hid hcur
    clear ht hg hsz hb hm hp hE hcur
    obtain ⟨n, hnn⟩ : ∃ n, n = ps.length := ⟨_, rfl⟩
    have HN := Lib.hid hnn
    rw [← hnn] at hn hn' hl ⊢
    clear hnn
    go_enter Tryz.func83, Tryz.ntmps83
    go_wp2
    go_loopg [5] n (fun gn i wr => ∃ k : Nat, k + 1 ≤ n ∧ gn + k = n ∧ i = .int .i64 ((k : Int) + 1) ∧ Hid ((∃ q, wr = w.drewN q) ∧ ∀ j (h : j < (dups none ps).length), j ≤ k → (dups none ps)[j].2 = false))
    case atStart =>
      refine ⟨0, by omega, by omega, rfl, ⟨0, rfl⟩, fun j h hj => ?_⟩
      have hj0 : j = 0 := by omega
      subst hj0
      rw [dups_snd ps none 0 h (by rw [dups_len] at h; exact h)]
      simp
    case round =>
      obtain ⟨k, hk, hgk, rfl, HI⟩ := hrel
      obtain ⟨wk, rfl⟩ : ∃ wk : World, wk = wr := ⟨_, rfl⟩
      have HEK : Hid (Ext w wk) := Lib.hid (by obtain ⟨q, e⟩ := HI.out.1; rw [e]; exact Ext.drewN _ _)
      have HBK := Lib.hid (HG.out.ext HEK.out)
      by_cases hlt : k + 1 < n
      · have h1 : k < ps.length := by have := HN.out; omega
        have h2 : k + 1 < ps.length := by have := HN.out; omega
        have c0 : wk.cell? ⟨g, k, none⟩ = some ps[k].1 := by rw [HBK.out.cell, HCUR.out k h1]
        have c1 : wk.cell? ⟨g, k + 1, none⟩ = some ps[k + 1].1 := by rw [HBK.out.cell, HCUR.out (k + 1) h2]
        have hda := dups_at ps k (by rw [dups_len]; exact h2) h2
        have hcl : ∀ m, Calls Tryz.prog 84 #[ps[k + 1].1, ps[k].1] (wk.drewN m) fun e w' => e = .returned (.bool (decide (ps[k + 1].2 = ps[k].2))) ∧ ∃ q, w' = wk.drewN q := fun m => by
          have e0 : Ext w0 (wk.drewN m) := HE.out.trans (HEK.out.trans (Ext.drewN _ _))
          refine (sort1_fn _ _ _ _ (wk.drewN m) ((HP.out _ (List.getElem_mem h2)).ext e0) ((HP.out _ (List.getElem_mem h1)).ext e0)).mono ?_
          rintro e w' ⟨he, q, rfl⟩
          exact ⟨he, m + q, drewN_two _ _ _⟩
        have r0 : ∃ A a c, ps[k].1 = .slice A a c := by obtain ⟨A, c, e, -⟩ := HP.out _ (List.getElem_mem h1); exact ⟨A, _, c, e⟩
        have r1 : ∃ A a c, ps[k + 1].1 = .slice A a c := by obtain ⟨A, c, e, -⟩ := HP.out _ (List.getElem_mem h2); exact ⟨A, _, c, e⟩
        obtain ⟨A0, a0, d0, e0⟩ := r0
        obtain ⟨A1, a1, d1, e1⟩ := r1
        rw [e0] at c0 hcl
        rw [e1] at c1 hcl
        have HCL := Lib.hid hcl
        have HDA := Lib.hid hda
        clear hcl hda e0 e1
        go_upto_region 6 with fail
        cases hdd : decide (ps[k + 1].2 = ps[k].2)
        · rw [hdd] at HCL HDA
          clear hdd
          refine wp_region_quiet_lit (by kernel_rfl) (by kernel_rfl) ?_
          repeat (go_big_quiet_step (fail))
          refine wpQuiet_callv (.tmp 18) #[.tmp 22, .tmp 27] _ rfl rfl #[] rfl fv_sort1 #[.slice A1 a1 d1, .slice A0 a0 d0] (by simp only [List.map_toArray, List.map_cons, List.map_nil]; rfl) _ HCL.out ?_
          simp only [Act.put, List.setIfInBounds_toArray, List.set_cons_zero, List.set_cons_succ]
          repeat (go_big_quiet_step (fail))
          refine wpQuiet_nil ?_
          intro _ hw'
          obtain ⟨nq, hw''⟩ := hw'
          subst hw''
          go_wp2
          go_roundg (n - (k + 1))
          case measure => omega
          case rel =>
            refine ⟨k + 1, by omega, by omega, by go_num, ?_, fun j hj hjk => ?_⟩
            · obtain ⟨q, e⟩ := HI.out.1
              exact ⟨_, by rw [e, drewN_two]⟩
            · by_cases e : j = k + 1
              · subst e; exact HDA.out
              · exact HI.out.2 j hj (by omega)
        · rw [hdd] at HCL HDA
          clear hdd
          refine wp_region_quiet_lit (by kernel_rfl) (by kernel_rfl) ?_
          repeat (go_big_quiet_step (fail))
          refine wpQuiet_callv (.tmp 18) #[.tmp 22, .tmp 27] _ rfl rfl #[] rfl fv_sort1 #[.slice A1 a1 d1, .slice A0 a0 d0] (by simp only [List.map_toArray, List.map_cons, List.map_nil]; rfl) _ HCL.out ?_
          simp only [Act.put, List.setIfInBounds_toArray, List.set_cons_zero, List.set_cons_succ]
          repeat (go_big_quiet_step (fail))
          refine wpQuiet_nil ?_
          intro _ hw'
          obtain ⟨nq, hw''⟩ := hw'
          subst hw''
          generalize hW : wk.drewN nq = W1
          have HE1 : Hid (Ext w W1) := Lib.hid (by rw [← hW]; exact HEK.out.trans (Ext.drewN wk nq))
          have HB1 := Lib.hid (HG.out.ext HE1.out)
          clear hW c0 c1
          have hsl := slice_from Tryz.underlying33 info_ints (some ⟨g, 0, none⟩) n c (k + 1) (by omega)
          rw [if_neg (by omega), Option.map_some, addr0, Nat.mul_one] at hsl
          go_wp2_with fail
          have HQ : Hid ((dups none ps).length = n) := Lib.hid (by rw [dups_len]; exact HN.out.symm)
          have HF : Hid (∀ j (hj : j < (dups none ps).length) (h : j < ps.length), (dups none ps)[j].1 = ps[j]) := Lib.hid (fun j hj h => by
            have := congrArg (fun l => l[j]?) (dups_fst ps none)
            simp only [List.getElem?_map, List.getElem?_eq_getElem hj, List.getElem?_eq_getElem h, Option.map_some] at this
            injection this)
          go_loopg [5, 7] n (fun gn i j wr => ∃ (x d : Nat) (cu : List Value), k + 1 + (d + 1) ≤ n ∧ x < k + 1 + (d + 1) ∧ gn + d = n ∧ i = .int .i64 (x : Int) ∧ j = .int .i64 ((d : Int) + 1) ∧ Hid (Ext w0 wr ∧ Blk wr g 22 cu ∧ cu.length = c ∧ Moved (fun q : (Value × List Int) × Bool => q.1.1) (fun q => q.2) (dups none ps) cu x (k + 1 + (d + 1)) ∧ ∀ (h : k + 1 + d < ps.length), cu[k + 1 + d]? = some ps[k + 1 + d].1))
          case atStart =>
            refine ⟨k + 1, 0, cur.toList, by omega, by omega, by omega, by go_num, rfl, HE.out.trans HE1.out, HB1.out, by have := HSZ.out; simpa using this, ?_, fun h => HCUR.out _ h⟩
            refine Moved.start (by have := HQ.out; omega) HDA.out (fun j hj => HI.out.2 j (by have := HQ.out; omega) (by omega)) (fun j hj => ?_) (by have := HQ.out; have := HSZ.out; simp; omega)
            have hj' : j < ps.length := by have := HQ.out; have := HN.out; omega
            rw [HCUR.out j hj', HF.out j hj hj']
          case round =>
            obtain ⟨x, d, cu, hb1, hb2, hgd, rfl, rfl, HS⟩ := hrel
            obtain ⟨wi, rfl⟩ : ∃ wi : World, wi = wr := ⟨_, rfl⟩
            by_cases hlt2 : k + 1 + (d + 1) < n
            · have h3 : k + 1 + d < ps.length := by have := HN.out; omega
              have h4 : k + 1 + d + 1 < ps.length := by have := HN.out; omega
              have hq4 : k + 1 + d + 1 < (dups none ps).length := by have := HQ.out; omega
              have c0 : wi.cell? ⟨g, k + 1 + d, none⟩ = some ps[k + 1 + d].1 := by rw [HS.out.2.1.cell, HS.out.2.2.2.2 h3]
              have c1 : wi.cell? ⟨g, k + 1 + (d + 1), none⟩ = some ps[k + 1 + d + 1].1 := by rw [HS.out.2.1.cell]; exact (HS.out.2.2.2.1.2.1 (k + 1 + d + 1) hq4 (by omega)).trans (congrArg some (congrArg Prod.fst (HF.out _ hq4 h4)))
              have hda2 := dups_at ps (k + 1 + d) hq4 h4
              have hcl : ∀ m, Calls Tryz.prog 84 #[ps[k + 1 + d + 1].1, ps[k + 1 + d].1] (wi.drewN m) fun e w' => e = .returned (.bool (decide (ps[k + 1 + d + 1].2 = ps[k + 1 + d].2))) ∧ ∃ q, w' = wi.drewN q := fun m => by
                have e0 : Ext w0 (wi.drewN m) := HS.out.1.trans (Ext.drewN _ _)
                refine (sort1_fn _ _ _ _ (wi.drewN m) ((HP.out _ (List.getElem_mem h4)).ext e0) ((HP.out _ (List.getElem_mem h3)).ext e0)).mono ?_
                rintro e w' ⟨he, q, rfl⟩
                exact ⟨he, m + q, drewN_two _ _ _⟩
              have r0 : ∃ A a c, ps[k + 1 + d].1 = .slice A a c := by obtain ⟨A, c, e, -⟩ := HP.out _ (List.getElem_mem h3); exact ⟨A, _, c, e⟩
              have r1 : ∃ A a c, ps[k + 1 + d + 1].1 = .slice A a c := by obtain ⟨A, c, e, -⟩ := HP.out _ (List.getElem_mem h4); exact ⟨A, _, c, e⟩
              obtain ⟨A2, a2, d2, e2⟩ := r0
              obtain ⟨A3, a3, d3, e3⟩ := r1
              have HNX : Hid (∀ cu' : List Value, cu'[k + 1 + (d + 1)]? = some (.slice A3 a3 d3) → ∀ (h : k + 1 + (d + 1) < ps.length), cu'[k + 1 + (d + 1)]? = some ps[k + 1 + (d + 1)].1) := Lib.hid (fun cu' h5 h => h5.trans (congrArg some e3.symm))
              have HEN : Hid ((dups none ps)[k + 1 + d + 1].1.1 = .slice A3 a3 d3) := Lib.hid (by rw [HF.out _ hq4 h4]; exact e3)
              rw [e2] at c0 hcl
              rw [e3] at c1 hcl
              have HC1 := Lib.hid c1
              have hfz := HS.out.2.1.free x
              obtain ⟨u0, hu0⟩ : ∃ u0, cu[x]? = some u0 := ⟨_, List.getElem?_eq_getElem (by have := HS.out.2.2.1; have := HS.out.2.2.2.1.2.2.2.2; have := HQ.out; omega)⟩
              have c2 : wi.cell? ⟨g, x, none⟩ = some u0 := by rw [HS.out.2.1.cell, hu0]
              have HXN : Hid (x < n) := Lib.hid (by omega)
              cases hdd : decide (ps[k + 1 + d + 1].2 = ps[k + 1 + d].2)
              all_goals
                rw [hdd] at hcl hda2
                have HCL2 := Lib.hid hcl
                have HDA2 := Lib.hid hda2
                clear hcl hda2 hdd e2 e3 hu0
                go_upto_region 11 with fail
                refine wp_region_quiet_lit (by kernel_rfl) (by kernel_rfl) ?_
                repeat (go_big_quiet_step (fail))
                refine wpQuiet_callv (.tmp 38) #[.tmp 42, .tmp 47] _ rfl rfl #[] rfl fv_sort1 #[.slice A3 a3 d3, .slice A2 a2 d2] (by simp only [List.map_toArray, List.map_cons, List.map_nil]; rfl) _ HCL2.out ?_
                simp only [Act.put, List.setIfInBounds_toArray, List.set_cons_zero, List.set_cons_succ]
                repeat (go_big_quiet_step (fail))
                refine wpQuiet_nil ?_
                intro _ hw'
                obtain ⟨nq, hw''⟩ := hw'
                subst hw''
              · go_wp2
                go_roundg (n - (d + 1))
                case measure => omega
                case rel =>
                  refine ⟨x + 1, d + 1, cu.set x (.slice A3 a3 d3), by omega, by omega, by omega, by go_num, by go_num, ?_, (HS.out.2.1.ext (Ext.drewN wi nq)).set x _, by rw [List.length_set]; exact HS.out.2.2.1, ?_, HNX.out _ ?_⟩
                  · exact (Upd.set _ g x _).ext (HS.out.1.trans (Ext.drewN _ _)) HB.out
                  · have := HS.out.2.2.2.1.keep hq4 HDA2.out
                    have e9 : (dups none ps)[k + 1 + (d + 1)].1.1 = .slice A3 a3 d3 := HEN.out
                    rw [e9] at this
                    exact this
                  · rw [List.getElem?_set_ne (by omega), ← HS.out.2.1.cell]
                    exact HC1.out
              · go_wp2
                go_roundg (n - (d + 1))
                case measure => omega
                case rel =>
                  refine ⟨x, d + 1, cu, by omega, by omega, by omega, rfl, by go_num, HS.out.1.trans (Ext.drewN _ _), HS.out.2.1.ext (Ext.drewN wi nq), HS.out.2.2.1, HS.out.2.2.2.1.drop hq4 HDA2.out, HNX.out _ ?_⟩
                  rw [← HS.out.2.1.cell]
                  exact HC1.out
            · have hbn : k + 1 + (d + 1) = n := by omega
              have HBN := Lib.hid hbn
              have hB := HS.out.2.1
              have hlc : cu.length = c := HS.out.2.2.1
              have hsl1 := slice_from Tryz.underlying33 info_ints (some ⟨g, 0, none⟩) n c x (by omega)
              rw [if_neg (by omega), Option.map_some, addr0, Nat.mul_one] at hsl1
              have hsl2 := slice_to Tryz.underlying33 info_ints (some ⟨g, 0, none⟩) n c x (by omega)
              have hclr : ∀ ty, (Builtin.clear_ #[33] ty #[.slice (some ⟨g, x, none⟩) (n - x) (c - x)]).run Tryz.prog wi = .ok (.tuple #[]) (wi.setCells g x (List.replicate (n - x) (.slice none 0 0))) := fun ty =>
                Lib.run_clear_slice wi 33 22 ty _ Tryz.underlying33 zero_ints rfl rfl g x (n - x) (c - x) (by omega)
                  (fun j hj => by rw [hB.cell, List.getElem?_eq_getElem (by omega)]; rfl) (fun j _ => hB.free _)
              obtain ⟨hU, cu', hB', hlc', htk⟩ := setCells_keep g (List.replicate (n - x) (.slice none 0 0)) x hB
              have HU := Lib.hid hU
              have HB' := Lib.hid hB'
              have HL' := Lib.hid hlc'
              have HTK := Lib.hid htk
              have HLC := Lib.hid hlc
              clear hU hB' hlc' htk hlc hB hbn
              go_wp2
              go_ret
              have hmv := HS.out.2.2.2.1.1
              rw [HBN.out, show (dups none ps).take n = dups none ps from List.take_of_length_le (by have := HQ.out; omega)] at hmv
              have hlen : x = (((dups none ps).filter fun q => !q.2).map Prod.fst).length := by
                have h9 := congrArg List.length hmv
                rw [List.length_take, List.length_map] at h9
                rw [List.length_map, ← h9]
                have := HLC.out
                omega
              have hmf : ((dups none ps).filter fun q => !q.2).map (fun q => q.1.1) = (((dups none ps).filter fun q => !q.2).map Prod.fst).map Prod.fst := by rw [List.map_map]; rfl
              refine ⟨_, ((dups none ps).filter fun q => !q.2).map Prod.fst, rfl, ?_, HU.out.ext HS.out.1 HB.out, fun p hp => ?_, ?_⟩
              · have h5 := HB'.out
                unfold Blk at h5
                refine ⟨by simp, .inr ⟨g, c, cu'.toArray, ?_, HB.out, h5, by rw [← hlen]; omega, HM.out, ?_, ?_⟩⟩
                · rw [← hlen]; rfl
                · have := HL'.out; have := HLC.out; simp; omega
                · rw [← hlen, Nat.mul_one, ← hmf, ← hmv]
                  exact HTK.out
              · obtain ⟨q, hq, rfl⟩ := List.mem_map.1 hp
                have h6 : q.1 ∈ (dups none ps).map Prod.fst := List.mem_map.2 ⟨q, (List.mem_filter.1 hq).1, rfl⟩
                rw [dups_fst] at h6
                exact h6
              · rw [← dups_none, List.map_map]; rfl
      · have hkn : k + 1 = n := by omega
        have HKN := Lib.hid hkn
        go_wp2
        go_ret
        refine ⟨_, ps, rfl, ?_, HE.out.trans HEK.out, fun p hp => hp, ?_⟩
        · rw [← HN.out]
          have := own_ext HO.out HEK.out
          rwa [← HN.out] at this
        · rw [← dups_none, ← filter_none (p := fun q => q.2) (xs := dups none ps) (fun j hj => HI.out.2 j hj (by rw [dups_len] at hj; have := HN.out; have := HKN.out; omega)), List.filter_filter]
          simp only [Bool.and_self]
          rw [filter_none (p := fun q => q.2) (xs := dups none ps) (fun j hj => HI.out.2 j hj (by rw [dups_len] at hj; have := HN.out; have := HKN.out; omega))]
          have := congrArg (List.map Prod.snd) (dups_fst ps none)
          rw [List.map_map] at this
          exact this.symm
end Go.Proofs.YtlompphnngnaiaaGreatDoor
namespace Go.Proofs.YtlompphnngnaiaaGreatDoor
open Go.RowKit

section
variable {α : Type} [Inhabited α] {enc : α → Value}
theorem holds_blk {w : World} {g : Nat} {cur : Array Value} {e : TypeId} {ss : List α} (hb : w.heap[g]? = some (.cells cur e (0, 0))) (ht : cur.toList.take ss.length = ss.map enc) : Sort.Holds enc w g 0 ss.toArray := by
  have hB : Blk w g e cur.toList := by unfold Blk; simpa using hb
  intro j hj
  have hj' : j < ss.length := by simpa using hj
  refine ⟨?_, hB.free _⟩
  rw [Nat.zero_add, hB.cell]
  have h1 := congrArg (fun l => l[j]?) ht
  simp only [List.getElem?_take, if_pos hj', List.getElem?_map, List.getElem?_eq_getElem hj', Option.map_some] at h1
  rw [h1]
  simp [hj']
theorem sortW_heap {w : World} {g n : Nat} {os : Array Obj} {cur : Array Value} {e : TypeId} (d : Array α) (hb : w.heap[g]? = some (.cells cur e (0, 0))) :
    (sortWorld enc w g 0 n d os).heap[g]? = some (.cells (Sort.putCells enc 0 d cur) e (0, 0)) := by
  unfold sortWorld
  rw [Sort.heap_grow_old]
  · simp [Sort.putRow, Sort.mapBlock, Sort.ahead, Array.getElem?_modify, hb, Sort.onCells]
  · simpa using (Array.getElem?_eq_some_iff.1 hb).1
theorem sortW_grown {w : World} {g n : Nat} {os : Array Obj} (d : Array α) : w.grownBy (sortWorld enc w g 0 n d os) (some g) := by
  refine ⟨rfl, rfl, rfl, by simp [sortWorld], fun k hk hne => ?_⟩
  unfold sortWorld
  rw [Sort.heap_grow_old]
  · have : ¬ g = k := fun e => hne (by rw [e])
    simp [Sort.putRow, Sort.mapBlock, Sort.ahead, Array.getElem?_modify, this]
  · simpa using hk
theorem take_putc (cur : Array Value) (ts : List α) (h : ts.length ≤ cur.size) : (Sort.putCells enc 0 ts.toArray cur).toList.take ts.length = ts.map enc := by
  apply List.ext_getElem?
  intro j
  rw [List.getElem?_take, List.getElem?_map]
  by_cases hj : j < ts.length
  · rw [if_pos hj, Array.getElem?_toList]
    simp [Sort.putCells, hj, show j < cur.size by omega]
  · rw [if_neg hj, List.getElem?_eq_none (by omega)]; rfl
end

/-- A slice value with the list that it reads as. -/
abbrev Lp (w0 : World) : Type := { p : Value × List Int // RI w0 p.1 p.2 ∧ All64 p.2 }
instance (w0 : World) : Inhabited (Lp w0) := ⟨⟨(.slice none 0 0, []), RI.none _, fun _ h => by cases h⟩⟩
def lpF {w0 : World} (x y : Lp w0) : Int := cmpL x.1.2 y.1.2
theorem lpF_lt {w0 : World} (x y : Lp w0) : ltOf lpF x y = decide (llt x.1.2 y.1.2) := rfl
theorem swo_lp (w0 : World) : Sort.SWO (ltOf (lpF (w0 := w0))) := by
  refine ⟨fun x => ?_, fun x y z h k => ?_, fun x y z h k => ?_⟩
  · rw [lpF_lt, decide_eq_false_iff_not]; exact llt_irrefl _
  · rw [lpF_lt, decide_eq_true_eq] at *; exact llt_trans h k
  · rw [lpF_lt, decide_eq_false_iff_not] at *
    intro hz
    rcases llt_tri x.1.2 y.1.2 with a | a | a
    · exact h a
    · rw [a] at hz; exact k hz
    · exact k (llt_trans a hz)

theorem sortW_ext {α : Type} [Inhabited α] {enc : α → Value} {w0 w : World} (hE : Ext w0 w) {g n : Nat} {os : Array Obj} (hb : w0.heap.size ≤ g) (d : Array α) : Ext w0 (sortWorld enc w g 0 n d os) :=
  hE.grown (sortW_grown d) (fun _ hk => by cases hk; exact hb)

theorem attach_map {w0 : World} (ps : List (Lp w0)) : (ps.map Subtype.val).map Prod.fst = ps.map fun p => p.1.1 := by rw [List.map_map]; rfl

def PostSF (w0 : World) (v : Value) (ps : List (Value × List Int)) (e : Ending) (w' : World) : Prop :=
  ∃ qs : List (Value × List Int), e = .returned (.tuple #[]) ∧ w'.ownsRow w0.heap.size 22 1 v qs.length (qs.map Prod.fst) ∧ Ext w0 w' ∧ (∀ p, p ∈ qs ↔ p ∈ ps) ∧ qs.length = ps.length ∧ (qs.map Prod.snd).Pairwise (fun a b => ¬ llt b a)

theorem sortFL (w0 : World) (ps : List (Lp w0)) (v : Value) (w : World) (hE : Ext w0 w) (hown : w.ownsRow w0.heap.size 22 1 v ps.length (ps.map fun p => p.1.1)) (hl : ps.length ≤ 100000000) :
    Calls Tryz.prog 82 #[v, .func (.func 29) #[] #[]] w (PostSF w0 v (ps.map Subtype.val)) := by
  obtain ⟨h0, ⟨rfl, hz⟩ | ⟨g, cap, cur, rfl, hb, hg, hn, hm, hs, ht⟩⟩ := hown
  · have : ps = [] := List.length_eq_zero_iff.1 hz
    subst this
    refine (AnyF.slices_SortFunc_none (P := Tryz.prog) (ρ := Tryz.laysSlF6_f82_ren) { Tryz.laysSlF6_f82 with } none 0 _ w).mono ?_
    rintro e w' ⟨rfl, rfl⟩
    exact ⟨[], rfl, World.ownsRow_nil _ _ _ 1, hE, fun _ => Iff.rfl, rfl, List.Pairwise.nil⟩
  · refine (Tryz.slices_SortFunc_f82 (fun p : Lp w0 => p.1.1) (fun p => by obtain ⟨A, c, e, -⟩ := p.2.1; show p.1.1.oneCell' = true; rw [e]; rfl) lpF (swo_lp w0) 29 #[] g 0 cap ps.toArray w (enters_of Tryz.func29 (by kernel_rfl) rfl)
      (fun m os dk _ x y => ((Compare_any x.1.2 y.1.2 x.1.1 y.1.1 _ x.2.2 y.2.2 (x.2.1.ext (sortW_ext hE hb dk)) (y.2.1.ext (sortW_ext hE hb dk))).mono fun e w' ⟨he, n, o, ho⟩ => ⟨he, n, o, ho⟩))
      (holds_blk hg (by rw [Nat.mul_one] at ht; exact ht)) (Array.getElem?_eq_some_iff.1 hg).1 (by simp; omega)).mono ?_
    rintro e w' ⟨rfl, d', n, os, ⟨hsz, -, hperm⟩, hsort, rfl⟩
    have hdl : d'.toList.length = ps.length := by simpa using hsz
    have hp : d'.toList.Perm ps := by
      have h1 : d'.extract 0 ps.toArray.size = d' := by rw [← hsz]; simp
      have h2 : ps.toArray.extract 0 ps.toArray.size = ps.toArray := by simp
      rw [h1, h2] at hperm
      simpa using hperm
    refine ⟨d'.toList.map Subtype.val, rfl, ?_, sortW_ext hE hb d', fun p => (hp.map Subtype.val).mem_iff, by simp [hdl], ?_⟩
    · have h3 := sortW_heap (enc := fun p : Lp w0 => p.1.1) (n := n) (os := os) d' hg
      have h4 := take_putc (enc := fun p : Lp w0 => p.1.1) cur d'.toList (by omega)
      rw [hdl] at h4
      rw [attach_map]
      simp only [List.length_map, hdl]
      refine ⟨by simp [hdl], .inr ⟨g, cap, _, by simp, hb, h3, hn, hm, by simp [Sort.putCells, hs], ?_⟩⟩
      rw [Nat.mul_one]
      simpa using h4
    · rw [List.map_map, List.pairwise_map, List.pairwise_iff_getElem]
      intro i j hi hj hij
      have := hsort i j (Nat.zero_le _) hij (by simp; omega)
      rw [lpF_lt, decide_eq_false_iff_not] at this
      have hi' : i < d'.size := by simpa using hi
      have hj' : j < d'.size := by simpa using hj
      rw [getElem!_pos d' i hi', getElem!_pos d' j hj'] at this
      simpa using this

def PostSort (w : World) (r : List (List Int)) (e : Ending) (w' : World) : Prop := ∃ v, e = .returned v ∧ OwnLL w' w.heap.size v r ∧ Ext w w'

/-- Slices with the lists that they read as, out of a slice of slices. -/
theorem RLL.lps {w : World} {v : Value} {f : List (List Int)} (h : RLL w v f) (h64 : All64L f) : ∃ A c, ∃ ps : List (Lp w), v = .slice A ps.length c ∧ ps.length ≤ c ∧ ps.length ≤ 9223372036854775807 ∧ Row w A (ps.map fun p => p.1.1) ∧ ps.map (fun p => p.1.2) = f := by
  obtain ⟨A, c, vs, rfl, h1, h2, h3, h4, h5⟩ := h
  refine ⟨A, c, List.ofFn fun j : Fin vs.length => (⟨(vs[j], f[j.1]'(by have := j.2; omega)), h5 j.1 j.2 (by have := j.2; omega), h64 _ (List.getElem_mem _)⟩ : Lp w), by simp, by simpa using h1, by simpa using h2, ?_, ?_⟩
  · have : (List.ofFn fun j : Fin vs.length => (⟨(vs[j], f[j.1]'(by have := j.2; omega)), h5 j.1 j.2 (by have := j.2; omega), h64 _ (List.getElem_mem _)⟩ : Lp w)).map (fun p => p.1.1) = vs := by
      apply List.ext_getElem (by simp)
      intro i h6 h7
      simp
    rw [this]; exact h3
  · apply List.ext_getElem (by simp [h4])
    intro i h6 h7
    simp

theorem own_not {w : World} {base g : Nat} {u : Value} {xs : List Int} {cu : List Value} (h : OwnI w base u xs) (hb : Blk w g 22 cu) : ∀ k, u.ownBlock = some k → ¬ k = g := by
  intro k hk e
  subst e
  obtain ⟨-, -, cur, h1⟩ := own_typed h hk
  unfold Blk at hb
  rw [hb] at h1
  injection h1 with h1
  injection h1 with _ h1
  exact absurd h1 (by decide)

set_option maxHeartbeats 4000000 in
theorem Sort_any (f : List (List Int)) (u : Value) (w : World) (h64 : All64L f) (kr : RLL w u f) (ht : f.length ≤ 20000 → total f ≤ 9223372036854775807) :
    Calls Tryz.prog 47 #[u] w (PostSort w (SortV f)) := by
  have HM := Lib.hid (mayCnf_any u f w kr h64 ht)
  obtain ⟨A, c, ps, rfl, p1, p2, p3, p4⟩ := kr.lps h64
  have HP3 := Lib.hid p3
  unfold SortV
  cases hm : mayCnfB f
  · rw [hm] at HM
    rw [if_neg (by decide)]
    clear hm p3 p4
    go_enter Tryz.func47, Tryz.ntmps47
    go_wp2_with (go_at_call 17; refine HM.out.mono ?_; rintro e w' ⟨rfl, hE⟩; have HE := Lib.hid hE; clear hE)
    go_ret
    exact ⟨_, rfl, OwnLL.nil _ _, HE.out⟩
  · rw [hm] at HM
    rw [if_pos rfl]
    have hfl := mayCnfB_len hm
    have hpl : ps.length = f.length := by rw [← p4, List.length_map]
    have HKM := Lib.hid hm
    have HP4 := Lib.hid p4
    clear hm p3 p4
    have HPL := Lib.hid hpl
    have hps : ps.length ≤ 20000 := by omega
    clear hpl hfl
    have HRS : Hid (∀ (rs : List (Value × List Int)), (∀ p ∈ rs, p ∈ ps.map Subtype.val) → ∀ p ∈ rs, RI w p.1 p.2 ∧ All64 p.2 ∧ p.2.length ≤ 65536) := Lib.hid (fun rs hrs p hp => by
      obtain ⟨q, hq, rfl⟩ := List.mem_map.1 (hrs p hp)
      refine ⟨q.2.1, q.2.2, ?_⟩
      have h7 : q.1.2 ∈ f := by rw [← HP4.out]; exact List.mem_map.2 ⟨q, hq, rfl⟩
      obtain ⟨j, hj, e⟩ := List.getElem_of_mem h7
      rw [← e]
      exact may_len (mayCnfB_get HKM.out j hj))
    have HSC : Hid (∀ qs rs : List (Value × List Int), (∀ p, p ∈ qs ↔ p ∈ ps.map Subtype.val) → (qs.map Prod.snd).Pairwise (fun a b => ¬ llt b a) → rs.map Prod.snd = compactL (qs.map Prod.snd) → rs.map Prod.snd = sortCnf f) := Lib.hid (fun qs rs h1 h2 h3 => by
      rw [h3]
      refine compactL_sort (fun z => ?_) h2
      rw [← HP4.out, List.mem_map, List.mem_map]
      constructor
      · rintro ⟨p, hp, rfl⟩
        obtain ⟨q, hq, rfl⟩ := List.mem_map.1 ((h1 p).1 hp)
        exact ⟨q, hq, rfl⟩
      · rintro ⟨q, hq, rfl⟩
        exact ⟨q.1, (h1 q.1).2 (List.mem_map.2 ⟨q, hq, rfl⟩), rfl⟩)
    go_enter Tryz.func47, Tryz.ntmps47
    go_upto_region 6 with (first
      | (go_at_call 17; refine HM.out.mono ?_; rintro e w1 ⟨rfl, hE⟩; have HE1 := Lib.hid hE; clear hE)
      | (go_at_call 81
         have hcl := cloneRowL A c (ps.map fun p => p.1.1) w1 (fun q hq => by obtain ⟨p, _, rfl⟩ := List.mem_map.1 hq; obtain ⟨A, c, e, -⟩ := p.2.1; rw [e]; rfl) (by rw [List.length_map]; omega) (HP3.out.ext HE1.out) (by rw [List.length_map]; omega)
         rw [List.length_map] at hcl
         refine hcl.mono ?_
         rintro e w2 ⟨v2, rfl, ho, hE⟩
         have HO2 := Lib.hid (own_lower ho HE1.out.size)
         have HE2 := Lib.hid (HE1.out.trans hE)
         clear ho hE hcl)
      | (go_at_call 82
         refine (sortFL w ps v2 _ HE2.out HO2.out (by omega)).mono ?_
         rintro e w3 ⟨qs, rfl, ho, hE, hq1, hq2, hq3⟩
         rw [List.length_map] at hq2
         have HO3 := Lib.hid ho
         have HE3 := Lib.hid hE
         have HQ1 := Lib.hid hq1
         have HQ2 := Lib.hid hq2
         have HQ3 := Lib.hid hq3
         clear ho hE hq1 hq2 hq3)
      | (go_at_call 83
         refine (compactFunc_any qs v2 w _ HE3.out HO3.out (fun p hp => (HRS.out qs (fun p hp => (HQ1.out p).1 hp) p hp).1) (by have := HQ2.out; omega)).mono ?_
         rintro e w4 ⟨v4, rs, rfl, ho, hE, hr1, hr2⟩
         have HO4 := Lib.hid ho
         have HE4 := Lib.hid hE
         have HR1 := Lib.hid (HRS.out rs (fun p hp => (HQ1.out p).1 (hr1 p hp)))
         have HR2 := Lib.hid (HSC.out qs rs HQ1.out HQ3.out hr2)
         clear ho hE hr1 hr2))
    obtain ⟨-, ⟨rfl, hz⟩ | ⟨g, cap, cur, rfl, hb, hg, hn, hmx, hs, htk⟩⟩ := id HO4.out
    · have hr0 : sortCnf f = [] := by
        rw [← HR2.out, List.length_eq_zero_iff.1 hz]; rfl
      have HR0 := Lib.hid hr0
      clear hz hr0
      go_wp2_with fail
      go_loopg [16] 0 (fun gn i wr => i = .int .i64 0 ∧ w4 = wr)
      case atStart => exact ⟨rfl, rfl⟩
      case round =>
        obtain ⟨rfl, rfl⟩ := hrel
        go_wp2
        go_ret
        exact ⟨_, rfl, by rw [HR0.out]; exact OwnLL.nil _ _, HE4.out⟩
    · have HB := Lib.hid hb
      have HG : Hid (Blk w4 g 22 cur.toList) := Lib.hid (by unfold Blk; simpa using hg)
      have HS := Lib.hid hs
      have HTK := Lib.hid htk
      have HMX := Lib.hid hmx
      have hmc : cap ≤ 9223372036854775807 := by unfold maxLen at hmx; omega
      obtain ⟨n, hnn⟩ : ∃ n, n = rs.length := ⟨_, rfl⟩
      have HN := Lib.hid hnn
      rw [← hnn] at hn ⊢
      clear hb hg hs htk hmx hnn
      go_wp2_with fail
      go_loopg [16] n (fun gn i wr => ∃ (k : Nat) (cu : List Value), k ≤ n ∧ gn + k = n ∧ i = .int .i64 k ∧ Hid (Ext w wr ∧ Blk wr g 22 cu ∧ cu.length = cap ∧ (∀ j (h : j < rs.length), k ≤ j → cu[j]? = some rs[j].1) ∧ (∀ j (h : j < rs.length), j < k → ∃ u, cu[j]? = some u ∧ OwnI wr w.heap.size u rs[j].2)))
      case atStart =>
        refine ⟨0, cur.toList, Nat.zero_le _, by omega, rfl, HE4.out, HG.out, by have := HS.out; simpa using this, fun j hj _ => ?_, fun j _ h => absurd h (Nat.not_lt_zero j)⟩
        have := congrArg (fun l => l[j]?) HTK.out
        rw [Nat.mul_one] at this
        simp only [List.getElem?_take, if_pos hj, List.getElem?_map, List.getElem?_eq_getElem hj] at this
        exact this
      case round =>
        obtain ⟨k, cu, hk, hgk, rfl, HI⟩ := hrel
        obtain ⟨wk, rfl⟩ : ∃ wk : World, wk = wr := ⟨_, rfl⟩
        by_cases hlt : k < n
        · have hkr : k < rs.length := by have := HN.out; omega
          have c0 : wk.cell? ⟨g, k, none⟩ = some rs[k].1 := by rw [HI.out.2.1.cell, HI.out.2.2.2.1 k hkr (Nat.le_refl _)]
          obtain ⟨q1, -, q3⟩ := HR1.out _ (List.getElem_mem hkr)
          have HCL := Lib.hid (cloneI_any rs[k].1 rs[k].2 wk (q1.ext HI.out.1) (by omega))
          obtain ⟨E, ce, he, -⟩ := q1
          obtain ⟨L, hL⟩ : ∃ L, L = rs[k].2.length := ⟨_, rfl⟩
          rw [← hL] at he
          rw [he] at c0 HCL
          clear q3 he hL
          go_wp2_with (go_at_call 43
                       refine HCL.out.mono ?_
                       rintro e w5 ⟨v5, rfl, ho, hE⟩
                       obtain ⟨A5, a5, c5, rfl⟩ : ∃ A a c, v5 = .slice A a c := by obtain ⟨A, c, e, -⟩ := ho.reads; exact ⟨A, _, c, e⟩
                       have HO5 := Lib.hid (own_lower ho HI.out.1.size)
                       have HE5 := Lib.hid hE
                       have HB5 := Lib.hid (HI.out.2.1.ext hE)
                       have hfz := HB5.out.free k
                       have hc5 := HE5.out.cell c0
                       clear ho hE)
          go_roundg (n - (k + 1))
          case measure => omega
          case rel =>
            have hb6 := HB5.out.set k (.slice A5 a5 c5)
            refine ⟨k + 1, cu.set k (.slice A5 a5 c5), by omega, by omega, by go_num, (Upd.set w5 g k (.slice A5 a5 c5)).ext (HI.out.1.trans HE5.out) HB.out, hb6, by rw [List.length_set]; exact HI.out.2.2.1, fun j hj hjk => ?_, fun j hj hjk => ?_⟩
            · rw [List.getElem?_set_ne (by omega)]
              exact HI.out.2.2.2.1 j hj (by omega)
            · by_cases e : j = k
              · subst e
                refine ⟨.slice A5 a5 c5, List.getElem?_set_self (by have := HI.out.2.2.1; omega), ?_⟩
                exact (Upd.set w5 g j (.slice A5 a5 c5)).chg.own HO5.out (own_not HO5.out HB5.out)
              · obtain ⟨u, hu1, hu2⟩ := HI.out.2.2.2.2 j hj (by omega)
                refine ⟨u, by rw [List.getElem?_set_ne (by omega)]; exact hu1, ?_⟩
                have hu3 : OwnI w5 w.heap.size u rs[j].2 := own_ext hu2 HE5.out
                exact (Upd.set w5 g k (.slice A5 a5 c5)).chg.own hu3 (own_not hu3 HB5.out)
        · have hkn : k = n := by omega
          have HKN := Lib.hid hkn
          clear hkn
          go_wp2
          go_ret
          have hl1 : (sortCnf f).length = n := by rw [← HR2.out, List.length_map]; exact HN.out.symm
          have hl2 : (cu.take n).length = n := by rw [List.length_take, HI.out.2.2.1]; omega
          refine ⟨_, rfl, ⟨cu.take n, ?_, by omega, fun j hj hj' => ?_⟩, HI.out.1⟩
          · rw [hl2]
            have h5 := HI.out.2.1
            unfold Blk at h5
            exact ⟨by rw [hl2, Nat.mul_one], .inr ⟨g, cap, cu.toArray, rfl, HB.out, h5, hn, HMX.out, by have := HI.out.2.2.1; simp; omega, by rw [Nat.mul_one]⟩⟩
          · have hjr : j < rs.length := by have := HN.out; omega
            obtain ⟨u, hu1, hu2⟩ := HI.out.2.2.2.2 j hjr (by have := HKN.out; omega)
            have e1 : (cu.take n)[j] = u := by
              rw [List.getElem_take]
              have hjc : j < cu.length := by have := HI.out.2.2.1; omega
              rw [List.getElem?_eq_getElem hjc] at hu1
              injection hu1
            have e2 : (sortCnf f)[j] = rs[j].2 := by
              have h7 := congrArg (fun l => l[j]?) HR2.out
              simp only [List.getElem?_map, List.getElem?_eq_getElem hjr, Option.map_some, List.getElem?_eq_getElem hj'] at h7
              injection h7 with h7
              exact h7.symm
            rw [e1, e2]
            exact hu2
end Go.Proofs.YtlompphnngnaiaaGreatDoor
namespace Go.Proofs.YtlompphnngnaiaaGreatDoor

theorem lens_small {f : List (List Int)} (hb : ∀ c ∈ f, c.length ≤ 200) : ∀ k, k ≤ f.length → lens f k ≤ 200 * k
  | 0, _ => by simp [lens]
  | k + 1, h => by
    have h1 := lens_small hb k (by omega)
    have h2 := hb f[k] (List.getElem_mem (by omega))
    rw [lens_succ f k (by omega)]
    omega
theorem mayCnf_small {f : List (List Int)} (hl : f.length ≤ 1000) (hb : ∀ c ∈ f, c.length ≤ 200) (hm : ∀ c ∈ f, mayB c = true) : mayCnfB f = true := by
  unfold mayCnfB
  rw [Bool.and_eq_true]
  refine ⟨by simp; omega, List.all_eq_true.2 fun k hk => ?_⟩
  have hk' : k < f.length := by simpa using hk
  have h1 := lens_small hb (k + 1) (by omega)
  rw [Bool.and_eq_true]
  refine ⟨by simp; omega, ?_⟩
  rw [getD_of f k hk']
  exact hm _ (List.getElem_mem hk')
theorem mayCnf_each {f : List (List Int)} (h : mayCnfB f = true) : ∀ c ∈ f, mayB c = true := fun c hc => by
  obtain ⟨k, hk, rfl⟩ := List.getElem_of_mem hc
  unfold mayCnfB at h
  have h1 := List.all_eq_true.1 (Bool.and_eq_true_iff.1 h).2 k (by simpa using hk)
  have h2 := (Bool.and_eq_true_iff.1 h1).2
  rwa [getD_of f k hk] at h2
theorem fold_insC_len (f : List (List Int)) : ∀ l : List (List Int), (f.foldl insC l).length ≤ l.length + f.length := by
  induction f with
  | nil => intro l; simp
  | cons c f ih =>
    intro l
    have h1 := ih (insC l c)
    have h2 := insC_len l c
    simp only [List.foldl_cons, List.length_cons] at *
    omega
theorem sortCnf_len (f : List (List Int)) : (sortCnf f).length ≤ f.length := by
  have := fold_insC_len f []
  unfold sortCnf
  simpa using this
theorem SortV_self {f : List (List Int)} (hl : f.length ≤ 1000) (hb : ∀ c ∈ f, c.length ≤ 200) (hm : mayCnfB f = true) : SortV (SortV f) = SortV f := by
  unfold SortV
  rw [if_pos hm]
  have h1 := sortCnf_len f
  have h2 : mayCnfB (sortCnf f) = true := mayCnf_small (by omega) (fun c hc => hb c ((mem_sortCnf f c).1 hc)) fun c hc => mayCnf_each hm c ((mem_sortCnf f c).1 hc)
  rw [if_pos h2]
  exact sortCnf_self (sortCnf_sorted f)
theorem SortV_mem {f : List (List Int)} (hm : mayCnfB f = true) (z : List Int) : z ∈ SortV f ↔ z ∈ f := by
  unfold SortV
  rw [if_pos hm]
  exact mem_sortCnf f z
theorem SortV_lt {f : List (List Int)} (hm : mayCnfB f = true) (i j : Nat) (hij : i < j) (hj : j < (SortV f).length) : cmpL ((SortV f)[i]'(by omega)) ((SortV f)[j]'hj) < 0 := by
  have h := sortCnf_sorted f
  have e : SortV f = sortCnf f := by unfold SortV; rw [if_pos hm]
  have h' : (SortV f).Pairwise llt := by rw [e]; exact h
  exact List.pairwise_iff_getElem.1 h' i j (by omega) hj hij
theorem SortV_no {f : List (List Int)} (hm : mayCnfB f = false) : SortV f = [] := by
  unfold SortV
  rw [if_neg (by rw [hm]; simp)]
end Go.Proofs.YtlompphnngnaiaaGreatDoor
namespace Go.Proofs.YtlompphnngnaiaaGreatDoor
open Go.RowKit
section
variable {P : Program} {ops : Array Oper} {a : Act} {w : World} {o : Oper} {R : World → Value → Prop} {V : Nat → World → Value → Prop}

theorem wanted_u {j : Nat} {b : Bool} {oj : Oper} {d : Tmp} (h : o.guard = some (j, b)) (ho : ops[j]? = some oj) (hd : oj.dst = some d) (hv : a.tmps[d]? = some undef) : Region.wanted o (yielded ops a.tmps) = false := by
  have : yielded ops a.tmps j = none := by
    unfold yielded
    rw [ho]
    show (match (oj.dst.bind fun x => a.tmps[x]?) with | some (.bool b) => some b | _ => none) = none
    rw [hd]
    show (match a.tmps[d]? with | some (.bool b) => some b | _ => none) = none
    rw [hv]; rfl
  unfold Region.wanted
  rw [h]
  show (yielded ops a.tmps j == some b) = false
  rw [this]; rfl
theorem st_not {t : Tmp} {ty : TypeId} {b : Bool} (hg : Region.wanted o (yielded ops a.tmps) = true) (ho : o.op = .unOp .not ty (.tmp t)) (h : a.tmps[t]? = some (.bool b)) (hR : R w (.bool (!b))) : OpOk P ops a o w R :=
  ok_val hg (.bool (!b)) w (by unfold execOp; cases b <;> simp [ho, h, go_sem] <;> rfl) (Ext.refl w) hR
theorem st_pickv {c : Tmp} {x y : Operand} {b : Bool} {v : Value} (hg : Region.wanted o (yielded ops a.tmps) = true) (ho : o.op = .pick (.tmp c) x y) (hc : a.tmps[c]? = some (.bool b)) (h : (if b = true then a.eval x else a.eval y) = v) (hR : R w v) : OpOk P ops a o w R := by
  refine ok_val hg v w ?_ (Ext.refl w) hR
  unfold execOp
  cases b <;> simp at h <;> simp [ho, eval_of hc, asBool, h]
theorem st_at {ty e : TypeId} {s i : Tmp} {ad : Addr} {n c : Nat} {k : Nat} (hg : Region.wanted o (yielded ops a.tmps) = true) (ho : o.op = .indexAddr ty (.tmp s) (.tmp i)) (hu : P.underlying ty = some (.slice e)) (hz : (P.info? e).map (·.size) = some 1) (hs : a.tmps[s]? = some (.slice (some ad) n c)) (hi : a.tmps[i]? = some (.int .i64 (k : Int))) (hk : k < n) (hR : R w (.pointer (some (ad.add k)))) : OpOk P ops a o w R := by
  refine ok_val hg (.pointer (some (ad.add k))) w ?_ (Ext.refl w) hR
  have h1 : k < n := hk
  obtain ⟨i0, hi0, hz0⟩ : ∃ i0, P.info? e = some i0 ∧ i0.size = 1 := by
    cases hx : P.info? e with
    | none => rw [hx] at hz; cases hz
    | some i0 => rw [hx] at hz; exact ⟨i0, rfl, by simpa using hz⟩
  unfold execOp
  simp [ho, eval_of hs, eval_of hi, Instr.indexAt, run_underlying hu, asIntOf, sizeOf, typeInfo, hi0, hz0, h1]
theorem st_load {ty e : TypeId} {s : Tmp} {ad : Addr} {v : Value} (hg : Region.wanted o (yielded ops a.tmps) = true) (ho : o.op = .load ty (.tmp s)) (hu : P.underlying ty = some (.slice e)) (hs : a.tmps[s]? = some (.pointer (some ad))) (hc : w.cell? ad = some v) (hR : R w v) : OpOk P ops a o w R := by
  refine ok_val hg v w ?_ (Ext.refl w) hR
  unfold execOp
  simp [ho, hs, go_sem, hc, isAgg, run_underlying hu]
/-- The frame behind a region, written out again: what the region's own slots hold is told by the frame itself. -/
theorem Kep.re {a0 : Act} (h : Kep ops a0 a) {l : List Value} {df : List Deferred} (ha : a0 = ⟨l.toArray, df⟩) (m M : Nat) (hd : (ops.toList.all fun o => match o.dst with | some d => decide (m ≤ d) && decide (d ≤ M) | none => true) = true) :
    a = ⟨((List.range l.length).map fun i => bif Nat.ble m i && Nat.ble i M then (a.tmps[i]?).getD undef else l.getD i undef).toArray, df⟩ := by
  subst ha
  obtain ⟨h1, h2, h3⟩ := h
  obtain ⟨tm, df'⟩ := a
  simp only at h1 h2 h3
  subst h1
  congr 1
  apply Array.ext'
  simp only
  simp only [List.size_toArray] at h2
  apply List.ext_getElem
  · simp [h2]
  · intro i hi hi'
    have hi0 : i < l.length := by simpa [h2] using hi
    simp only [List.getElem_map, List.getElem_range]
    by_cases hb : (Nat.ble m i && Nat.ble i M) = true
    · rw [hb]
      have : i < tm.size := by omega
      simp [this]
    · have hb' : (Nat.ble m i && Nat.ble i M) = false := Bool.eq_false_iff.2 hb
      rw [hb']
      have h4 := h3 i (fun k o hk e => by
        have h5 := List.all_eq_true.1 hd o (List.mem_of_getElem? (by simpa using hk))
        rw [e] at h5
        have h6 : (decide (m ≤ i) && decide (i ≤ M)) = true := h5
        apply hb
        rw [Bool.and_eq_true, Nat.ble_eq, Nat.ble_eq]
        simpa using h6)
      have : i < tm.size := by omega
      simp [this, hi0] at h4
      simp [h4, hi0]
theorem Kep.reP {a0 : Act} (h : Kep ops a0 a) {l : List Value} {df : List Deferred} (ha : a0 = ⟨l.toArray, df⟩) (p : Nat → Bool) (hd : (ops.toList.all fun o => match o.dst with | some d => p d | none => true) = true) :
    a = ⟨((List.range l.length).map fun i => bif p i then (a.tmps[i]?).getD undef else l.getD i undef).toArray, df⟩ := by
  subst ha
  obtain ⟨h1, h2, h3⟩ := h
  obtain ⟨tm, df'⟩ := a
  simp only at h1 h2 h3
  subst h1
  congr 1
  apply Array.ext'
  simp only
  simp only [List.size_toArray] at h2
  apply List.ext_getElem
  · simp [h2]
  · intro i hi hi'
    have hi0 : i < l.length := by simpa [h2] using hi
    simp only [List.getElem_map, List.getElem_range]
    cases hb : p i
    · have h4 := h3 i (fun k o hk e => by
        have h5 := List.all_eq_true.1 hd o (List.mem_of_getElem? (by simpa using hk))
        rw [e] at h5
        have h6 : p i = true := h5
        rw [hb] at h6
        cases h6)
      have : i < tm.size := by omega
      simp [this, hi0] at h4
      simp [h4, hi0]
    · have : i < tm.size := by omega
      simp [this]
end
end Go.Proofs.YtlompphnngnaiaaGreatDoor
namespace Go.Proofs.YtlompphnngnaiaaGreatDoor
open Go.RowKit

theorem RLL.pairs {w : World} {v : Value} {f : List (List Int)} (h : RLL w v f) : ∃ A c, ∃ ps : List (Value × List Int), v = .slice A ps.length c ∧ ps.length ≤ c ∧ ps.length ≤ 9223372036854775807 ∧ Row w A (ps.map Prod.fst) ∧ f = ps.map Prod.snd ∧ ∀ p ∈ ps, RI w p.1 p.2 := by
  obtain ⟨A, c, vs, rfl, h1, h2, h3, h4, h5⟩ := h
  have hz : (vs.zip f).length = vs.length := by rw [List.length_zip]; omega
  refine ⟨A, c, vs.zip f, by rw [hz], by rw [hz]; exact h1, by rw [hz]; exact h2, ?_, ?_, fun p hp => ?_⟩
  · rw [List.map_fst_zip (by omega)]; exact h3
  · rw [List.map_snd_zip (by omega)]
  · obtain ⟨j, hj, rfl⟩ := List.getElem_of_mem hp
    rw [List.getElem_zip]
    obtain ⟨E, ce, e1, e2, e3, e4⟩ := h5 j (by omega) (by omega)
    exact ⟨E, ce, e1, e2, e3, e4⟩
theorem RLL.of_pairs {w : World} {A : Option Addr} {c : Nat} {ps : List (Value × List Int)} (h1 : ps.length ≤ c) (h2 : ps.length ≤ 9223372036854775807) (h3 : Row w A (ps.map Prod.fst)) (h4 : ∀ p ∈ ps, RI w p.1 p.2) : RLL w (.slice A ps.length c) (ps.map Prod.snd) := by
  refine ⟨A, c, ps.map Prod.fst, by rw [List.length_map], by rw [List.length_map]; exact h1, by rw [List.length_map]; exact h2, h3, by rw [List.length_map, List.length_map], fun j hj hj' => ?_⟩
  have hj0 : j < ps.length := by rw [List.length_map] at hj; exact hj
  obtain ⟨E, ce, e1, e2, e3, e4⟩ := h4 _ (List.getElem_mem hj0)
  refine ⟨E, ce, ?_, ?_, ?_, ?_⟩
  · rw [List.getElem_map, List.getElem_map]; exact e1
  · rw [List.getElem_map]; exact e2
  · rw [List.getElem_map]; exact e3
  · rw [List.getElem_map]; exact e4
theorem RLL.of_own {w : World} {base : Nat} {v : Value} {ps : List (Value × List Int)} (h : w.ownsRow base 22 1 v ps.length (ps.map Prod.fst)) (h4 : ∀ p ∈ ps, RI w p.1 p.2) : RLL w v (ps.map Prod.snd) := by
  have hl : (ps.map Prod.fst).length = ps.length := List.length_map _
  obtain ⟨A, c, rfl, h1, h2, h3⟩ := own_row (show w.ownsRow base 22 1 v (ps.map Prod.fst).length (ps.map Prod.fst) by rw [hl]; exact h)
  rw [hl] at h1 h2 ⊢
  exact RLL.of_pairs h1 h2 h3 h4

/-- append(out, xs...), both of slices of integers, at one operation. -/
theorem appLL_w {o : Oper} {a : Act} {K : Act → World → Prop} {Q : Exit → Act → World → Prop} {w : World} (s x : Operand)
    (ho : o.op = .call { callee := .builtin .append, args := #[s, x], argTypes := #[33, 33] })
    {base c m n : Nat} {v : Value} {vs us : List Value} {A : Option Addr} (hs : a.eval s = v) (hx : a.eval x = .slice A m c) (hn : n = vs.length) (hm : m = us.length) (hown : w.ownsRow base 22 1 v n vs) (hsrc : Row w A us) (h1 : ∀ u ∈ us, u.oneCell' = true) (hl : n + m ≤ 1000000) (hbase : base ≤ w.heap.size)
    (h : ∀ v' w', w'.ownsRow base 22 1 v' (n + m) (vs ++ us) → w.grownBy w' v.ownBlock → K (a.put o.dst v') w') : o.wp Tryz.prog a w K Q := by
  obtain ⟨i0, hi, hz0, hz1, hz2⟩ := info_parts info_ints
  subst hn hm
  cases A with
  | none =>
    have h5 := hsrc.nil
    subst h5
    have hrun := run_append_none (ty := o.type) Tryz.underlying33 hi hown c
    unfold Oper.wp
    simp [execOp, ho, resolve, invoke, builtin, hs, hx, hrun, Result.andThen]
    exact h v w (by rw [List.append_nil]; exact hown) ⟨rfl, rfl, rfl, Nat.le_refl _, fun _ _ _ => rfl⟩
  | some ad =>
    refine wp_append_own w s x 33 ho base 22 i0 (.slice none 0 0) 1 24 Tryz.underlying33 hi hz0 hz1 hz2 rfl (by decide) v vs.length vs hs hown ad us.length c us hx (by simp) hsrc.cells h1 (by unfold maxLen; omega) (by omega) hbase ?_
    intro v' w' ho' hg _
    exact h v' w' ho' hg
theorem step_appLL {ops : Array Oper} {o : Oper} {a : Act} {K : Act → World → Prop} {Q : Exit → Act → World → Prop} {E : Prop} {w : World} (hgd : o.guard = none) (s x : Operand)
    (ho : o.op = .call { callee := .builtin .append, args := #[s, x], argTypes := #[33, 33] })
    {base c m n : Nat} {v : Value} {vs us : List Value} {A : Option Addr} (hs : a.eval s = v) (hx : a.eval x = .slice A m c) (hn : n = vs.length) (hm : m = us.length) (hown : w.ownsRow base 22 1 v n vs) (hsrc : Row w A us) (h1 : ∀ u ∈ us, u.oneCell' = true) (hl : n + m ≤ 1000000) (hbase : base ≤ w.heap.size)
    (h : ∀ v' w', w'.ownsRow base 22 1 v' (n + m) (vs ++ us) → w.grownBy w' v.ownBlock → K (a.put o.dst v') w') :
    if Region.wanted o (yielded ops a.tmps) = true then Oper.wp Tryz.prog o a w K Q else E := by
  have hw : Region.wanted o (yielded ops a.tmps) = true := by simp [Region.wanted, hgd]
  rw [if_pos hw]
  exact appLL_w s x ho hs hx hn hm hown hsrc h1 hl hbase h
theorem ri_one {w : World} {v : Value} {xs : List Int} (h : RI w v xs) : v.oneCell' = true := by obtain ⟨A, c, rfl, -⟩ := h; rfl
theorem Row.take {w : World} {A : Option Addr} {vs : List Value} (h : Row w A vs) (k : Nat) : Row w A (vs.take k) := fun j hj => by
  rw [List.length_take] at hj
  obtain ⟨ad, e, hc⟩ := h j (by omega)
  exact ⟨ad, e, by rw [hc, List.getElem_take]⟩
theorem Row.drop {w : World} {A : Option Addr} {vs : List Value} (h : Row w A vs) (k c : Nat) (hc : vs.length ≤ c) : Row w (if c = k then A else A.map (·.add (k * 1))) (vs.drop k) := fun j hj => by
  rw [List.length_drop] at hj
  obtain ⟨ad, rfl, he⟩ := h (k + j) (by omega)
  rw [if_neg (by omega)]
  refine ⟨ad.add (k * 1), rfl, ?_⟩
  rw [show (ad.add (k * 1)).add j = ad.add (k + j) by unfold Addr.add; split <;> split <;> split <;> simp_all <;> omega, he]
  simp
end Go.Proofs.YtlompphnngnaiaaGreatDoor
namespace Go.Proofs.YtlompphnngnaiaaGreatDoor
open Go.RowKit

theorem fv_refCompare : Fv Tryz.prog 30 := ⟨_, Tryz.func30, by kernel_rfl, by kernel_rfl⟩
/-- A row of integers of the call's own stays when a row of slices of the call's own grows. -/
theorem own_grows {w w' : World} {b b' n : Nat} {u v : Value} {xs : List Int} {vs : List Value} (h : OwnI w b u xs) (hv : w.ownsRow b' 22 1 v n vs) (hg : w.grownBy w' v.ownBlock) : OwnI w' b u xs :=
  (grown_chg hg).own h fun i hi e => by
    obtain ⟨-, -, cur, h1⟩ := own_typed h hi
    obtain ⟨-, -, cur2, h2⟩ := own_typed hv e.symm
    rw [h1] at h2
    injection h2 with h2
    injection h2 with _ h2
    exact absurd h2 (by decide)
theorem insC_pairs {ps : List (Value × List Int)} {X : List Int} {j : Nat} (v : Value) (h : insC (ps.map Prod.snd) X = (ps.map Prod.snd).take j ++ X :: (ps.map Prod.snd).drop j) : (ps.take j ++ (v, X) :: ps.drop j).map Prod.snd = insC (ps.map Prod.snd) X := by
  rw [h, List.map_append, List.map_cons, List.map_take, List.map_drop]

set_option maxRecDepth 100000 in
set_option maxHeartbeats 20000000 in
theorem refSort_any (f : List (List Int)) (u : Value) (w : World) (k64 : All64L f) (kr : RLL w u f) (ht : total f ≤ 9223372036854775807) :
    Calls Tryz.prog 49 #[u] w fun e w' => ∃ v', e = .returned v' ∧ RLL w' v' (SortV f) ∧ Ext w w' := by
  have HM := Lib.hid (refMayCnf_any f u w k64 kr ht)
  obtain ⟨A, c, us, rfl, k1, k2, k3, k4, k5⟩ := kr
  have K3 := Lib.hid k3
  have K4 := Lib.hid k4
  have K5 := Lib.hid k5
  clear k3 k4 k5
  unfold SortV
  cases hm : mayCnfB f
  · rw [hm] at HM
    rw [if_neg (by decide)]
    clear hm
    go_enter Tryz.func49, Tryz.ntmps49
    go_wp2_with (go_at_call 44; refine HM.out.mono ?_; rintro e w1 ⟨rfl, hE⟩; have HE1 := Lib.hid hE; clear hE)
    go_ret
    exact ⟨_, rfl, RLL.none _, HE1.out⟩
  · rw [hm] at HM
    rw [if_pos rfl]
    have hfl := mayCnfB_len hm
    have hul : us.length ≤ 20000 := by have := K4.out; omega
    have HFB : Hid (∀ z ∈ f, z.length ≤ 65536) := Lib.hid fun z hz => by
      obtain ⟨j, hj, rfl⟩ := List.getElem_of_mem hz
      exact may_len (mayCnfB_get hm j hj)
    clear hm hfl
    go_enter Tryz.func49, Tryz.ntmps49
    go_wp2_with (go_at_call 44; refine HM.out.mono ?_; rintro e w1 ⟨rfl, hE⟩; have HE1 := Lib.hid hE; clear hE)
    go_loopg [3, 4] us.length (fun gn o i wr => ∃ k : Nat, k ≤ us.length ∧ gn + k = us.length ∧ i = .int .i64 k ∧ Hid (Ext w wr ∧ RLL wr o ((f.take k).foldl insC [])))
    case atStart => exact ⟨0, Nat.zero_le _, by omega, rfl, HE1.out, RLL.none _⟩
    case round =>
      obtain ⟨k, hk, hgk, rfl, HS⟩ := hrel
      obtain ⟨w2, rfl⟩ : ∃ w2 : World, w2 = wr := ⟨_, rfl⟩
      by_cases hlt : k < us.length
      · have hkf : k < f.length := by have := K4.out; omega
        obtain ⟨B, d, ps, hoe, b1, b2, b3, b4, b5⟩ := HS.out.2.pairs
        subst hoe
        have hmk : ∀ z ∈ ps.map Prod.snd, z ∈ f := fun z hz => by
          rw [← b4] at hz
          have := (mem_sortCnf (f.take k) z).1 hz
          exact List.mem_of_mem_take this
        have hpl : ps.length ≤ 20000 := by
          have h1 := congrArg List.length b4
          have h2 := sortCnf_len (f.take k)
          unfold sortCnf at h2
          rw [List.length_map] at h1
          rw [List.length_take] at h2
          omega
        have hfn : (f.take (k + 1)).foldl insC [] = insC (ps.map Prod.snd) f[k] := by
          rw [List.take_succ_eq_append_getElem hkf, List.foldl_append, ← b4]; rfl
        have HFN := Lib.hid hfn
        have HMK := Lib.hid hmk
        have B3 := Lib.hid b3
        have B5 := Lib.hid b5
        obtain ⟨ad, rfl, -⟩ := K3.out k hlt
        have HXK0 : Hid (∀ w', Ext w2 w' → w'.cell? (ad.add k) = some us[k] ∧ RI w' us[k] f[k]) := Lib.hid fun w' he => by
          obtain ⟨ad', had, hc⟩ := K3.out k hlt
          cases had
          exact ⟨(HS.out.1.trans he).cell hc, (K5.out k hlt hkf).ext (HS.out.1.trans he)⟩
        have hXb := HFB.out _ (List.getElem_mem hkf)
        have hX64 := k64 _ (List.getElem_mem hkf)
        have HEO := Lib.hid HS.out.1
        have HRO := Lib.hid HS.out.2
        rw [b4] at HRO
        clear hfn hmk b3 b4 b5 HS
        generalize f[k] = X at *
        generalize us[k] = xv at *
        obtain ⟨O, hO⟩ : ∃ O, O = ps.map Prod.snd := ⟨_, rfl⟩
        have hOl : O.length = ps.length := by rw [hO, List.length_map]
        have HOO := Lib.hid hO
        rw [← hO] at HFN HMK HRO
        clear hO
        go_wp2
        go_loopg [5] ps.length (fun gn i wr => ∃ j : Nat, j ≤ ps.length ∧ gn + j = ps.length ∧ i = .int .i64 j ∧ Hid (Ext w2 wr) ∧ Hid (insC O X = O.take j ++ insC (O.drop j) X))
        case atStart => exact ⟨0, Nat.zero_le _, by omega, rfl, Lib.hid (Ext.refl _), Lib.hid (by simp)⟩
        case round =>
          obtain ⟨j, hjl, hgj, rfl, HEW, HIN⟩ := hrel
          obtain ⟨wx, rfl⟩ : ∃ wx : World, wx = wr := ⟨_, rfl⟩
          by_cases hj : j < ps.length
          · obtain ⟨bd, rfl, -⟩ := B3.out j (by simpa using hj)
            have HPJ : Hid (∀ w', Ext w2 w' → w'.cell? (bd.add j) = some ps[j].1 ∧ RI w' ps[j].1 ps[j].2) := Lib.hid fun w' he => by
              obtain ⟨bd', hbd, hc⟩ := B3.out j (by simpa using hj)
              cases hbd
              rw [List.getElem_map] at hc
              exact ⟨he.cell hc, (B5.out _ (List.getElem_mem hj)).ext he⟩
            have hjO : j < O.length := by omega
            have hOj : O[j] = ps[j].2 := by
              have := HOO.out
              subst this
              simp
            have hpm := HMK.out _ (List.getElem_mem hjO)
            have hin := HIN.out
            rw [List.drop_eq_getElem_cons hjO, insC] at hin
            rw [hOj] at hin hpm
            have hp64 := k64 _ hpm
            generalize hpl' : ps[j].2 = pl at *
            generalize ps[j].1 = pv at *
            have HCO := Lib.hid (fun (w' : World) (u u' : Value) (h1 : RI w' u pl) (h2 : RI w' u' X) => refCompare_any pl X u u' w' hp64 hX64 h1 h2)
            clear hpm hp64
            by_cases h1 : cmpL pl X < 0
            · rw [if_pos h1] at hin
              have HIN2 : Hid (insC O X = O.take (j + 1) ++ insC (O.drop (j + 1)) X) := Lib.hid (by rw [hin, List.take_succ_eq_append_getElem hjO, hOj, List.append_assoc]; rfl)
              clear hin hOj
              generalize hcd : cmpL pl X = cc at HCO h1
              clear hcd
              have hcc := h1
              clear h1
              go_upto_region 8 with fail
              go_cut [31] from 16 to 31 (fun s wy => s = .bool true ∧ Hid (Ext w2 wy))
              case first =>
                rename_i J K1 hRJ hMK
                refine wp_region_mono (W := wx) rfl (Kd.at [.val (.int .i64 (j : Int)), .val (.slice (some bd) ps.length d), .val (.int .i64 (ps.length : Int)), .val (.bool true), .val (.bool true), .val (.slice (some bd) ps.length d), .val (.int .i64 (j : Int)), .val (.pointer (some (bd.add j))), .row pl, .val (.slice (some ad) us.length c), .val (.int .i64 (k : Int)), .val (.pointer (some (ad.add k))), .row X, .val (.int .i64 cc), .val (.bool true), .val (.bool true)]) (Kd.at_mono _) 70 rfl (by decide) (by decide) (by decide) ?_ ?_
                · refine ⟨?_, ?_, ?_, ?_, ?_, ?_, ?_, ?_, ?_, ?_, ?_, ?_, ?_, ?_, ?_, ?_, trivial⟩
                  · intro a' w' hE hK hd
                    have hi5 : a'.tmps[5]? = some (.int .i64 (j : Int)) := hK.get 5 (by decide)
                    exact st_move (wanted_none rfl) rfl hi5 rfl
                  · intro a' w' hE hK hd
                    have hi3 : a'.tmps[3]? = some (.slice (some bd) ps.length d) := hK.get 3 (by decide)
                    exact st_move (wanted_none rfl) rfl hi3 rfl
                  · intro a' w' hE hK hd
                    obtain ⟨u1, h1, p1⟩ := got (hd ⟨1, .data⟩ (by simp) rfl) rfl rfl
                    obtain rfl : u1 = .slice (some bd) ps.length d := p1
                    exact st_run (wanted_none rfl) (v := .int .i64 (ps.length : Int)) (by unfold execOp; simp [h1, go_sem]; done) rfl
                  · intro a' w' hE hK hd
                    obtain ⟨u0, h0, p0⟩ := got (hd ⟨0, .data⟩ (by simp) rfl) rfl rfl
                    obtain rfl : u0 = .int .i64 (j : Int) := p0
                    obtain ⟨u2, h2, p2⟩ := got (hd ⟨2, .data⟩ (by simp) rfl) rfl rfl
                    obtain rfl : u2 = .int .i64 (ps.length : Int) := p2
                    exact st_run (wanted_none rfl) (v := .bool true) (by unfold execOp; simp [h0, h2, go_sem]; exact hj) rfl
                  · intro a' w' hE hK hd
                    obtain ⟨u3, h3, p3⟩ := got (hd ⟨3, .data⟩ (by simp) rfl) rfl rfl
                    obtain rfl : u3 = .bool true := p3
                    exact st_move (wanted_none rfl) rfl h3 rfl
                  · intro a' w' hE hK hd
                    obtain ⟨ug, hg, pg⟩ := got (hd ⟨4, .guard⟩ (by simp) rfl) rfl rfl
                    obtain rfl : ug = .bool true := pg
                    have hi3 : a'.tmps[3]? = some (.slice (some bd) ps.length d) := hK.get 3 (by decide)
                    exact st_move ((wanted_b rfl rfl rfl hg).trans rfl) rfl hi3 rfl
                  · intro a' w' hE hK hd
                    obtain ⟨ug, hg, pg⟩ := got (hd ⟨4, .guard⟩ (by simp) rfl) rfl rfl
                    obtain rfl : ug = .bool true := pg
                    have hi5 : a'.tmps[5]? = some (.int .i64 (j : Int)) := hK.get 5 (by decide)
                    exact st_move ((wanted_b rfl rfl rfl hg).trans rfl) rfl hi5 rfl
                  · intro a' w' hE hK hd
                    obtain ⟨ug, hg, pg⟩ := got (hd ⟨4, .guard⟩ (by simp) rfl) rfl rfl
                    obtain rfl : ug = .bool true := pg
                    obtain ⟨u5, h5, p5⟩ := got (hd ⟨5, .data⟩ (by simp) rfl) rfl rfl
                    obtain rfl : u5 = .slice (some bd) ps.length d := p5
                    obtain ⟨u6, h6, p6⟩ := got (hd ⟨6, .data⟩ (by simp) rfl) rfl rfl
                    obtain rfl : u6 = .int .i64 (j : Int) := p6
                    exact st_at ((wanted_b rfl rfl rfl hg).trans rfl) rfl Tryz.underlying33 (by kernel_rfl) h5 h6 hj rfl
                  · intro a' w' hE hK hd
                    obtain ⟨ug, hg, pg⟩ := got (hd ⟨4, .guard⟩ (by simp) rfl) rfl rfl
                    obtain rfl : ug = .bool true := pg
                    obtain ⟨u7, h7, p7⟩ := got (hd ⟨7, .data⟩ (by simp) rfl) rfl rfl
                    obtain rfl : u7 = .pointer (some (bd.add j)) := p7
                    exact st_load ((wanted_b rfl rfl rfl hg).trans rfl) rfl Tryz.underlying22 h7 (HPJ.out _ (HEW.out.trans hE)).1 (HPJ.out _ (HEW.out.trans hE)).2
                  · intro a' w' hE hK hd
                    obtain ⟨ug, hg, pg⟩ := got (hd ⟨4, .guard⟩ (by simp) rfl) rfl rfl
                    obtain rfl : ug = .bool true := pg
                    have hi0 : a'.tmps[0]? = some (.slice (some ad) us.length c) := hK.get 0 (by decide)
                    exact st_move ((wanted_b rfl rfl rfl hg).trans rfl) rfl hi0 rfl
                  · intro a' w' hE hK hd
                    obtain ⟨ug, hg, pg⟩ := got (hd ⟨4, .guard⟩ (by simp) rfl) rfl rfl
                    obtain rfl : ug = .bool true := pg
                    have hi4 : a'.tmps[4]? = some (.int .i64 (k : Int)) := hK.get 4 (by decide)
                    exact st_move ((wanted_b rfl rfl rfl hg).trans rfl) rfl hi4 rfl
                  · intro a' w' hE hK hd
                    obtain ⟨ug, hg, pg⟩ := got (hd ⟨4, .guard⟩ (by simp) rfl) rfl rfl
                    obtain rfl : ug = .bool true := pg
                    obtain ⟨u9, h9, p9⟩ := got (hd ⟨9, .data⟩ (by simp) rfl) rfl rfl
                    obtain rfl : u9 = .slice (some ad) us.length c := p9
                    obtain ⟨u10, h10, p10⟩ := got (hd ⟨10, .data⟩ (by simp) rfl) rfl rfl
                    obtain rfl : u10 = .int .i64 (k : Int) := p10
                    exact st_at ((wanted_b rfl rfl rfl hg).trans rfl) rfl Tryz.underlying33 (by kernel_rfl) h9 h10 hlt rfl
                  · intro a' w' hE hK hd
                    obtain ⟨ug, hg, pg⟩ := got (hd ⟨4, .guard⟩ (by simp) rfl) rfl rfl
                    obtain rfl : ug = .bool true := pg
                    obtain ⟨u11, h11, p11⟩ := got (hd ⟨11, .data⟩ (by simp) rfl) rfl rfl
                    obtain rfl : u11 = .pointer (some (ad.add k)) := p11
                    exact st_load ((wanted_b rfl rfl rfl hg).trans rfl) rfl Tryz.underlying22 h11 (HXK0.out _ (HEW.out.trans hE)).1 (HXK0.out _ (HEW.out.trans hE)).2
                  · intro a' w' hE hK hd
                    obtain ⟨ug, hg, pg⟩ := got (hd ⟨4, .guard⟩ (by simp) rfl) rfl rfl
                    obtain rfl : ug = .bool true := pg
                    obtain ⟨u8, h8, p8⟩ := got (hd ⟨8, .data⟩ (by simp) rfl) rfl rfl
                    have r8 : RI w' u8 pl := p8
                    obtain ⟨u12, h12, p12⟩ := got (hd ⟨12, .data⟩ (by simp) rfl) rfl rfl
                    have r12 : RI w' u12 X := p12
                    exact st_call _ _ _ rfl ((wanted_b rfl rfl rfl hg).trans rfl) rfl fv_refCompare _ (by simp only [List.map_toArray, List.map_cons, List.map_nil, eval_of h8, eval_of h12]) ((HCO.out _ _ _ r8 r12).mono fun e w'' ⟨H1, H2⟩ => ⟨_, H1, H2, rfl⟩)
                  · intro a' w' hE hK hd
                    obtain ⟨ug, hg, pg⟩ := got (hd ⟨4, .guard⟩ (by simp) rfl) rfl rfl
                    obtain rfl : ug = .bool true := pg
                    obtain ⟨u13, h13, p13⟩ := got (hd ⟨13, .data⟩ (by simp) rfl) rfl rfl
                    obtain rfl : u13 = .int .i64 cc := p13
                    exact st_run ((wanted_b rfl rfl rfl hg).trans rfl) (v := .bool true) (by unfold execOp; simp [h13, go_sem, hcc]; done) rfl
                  · intro a' w' hE hK hd
                    obtain ⟨u4, h4, p4⟩ := got (hd ⟨4, .data⟩ (by simp) rfl) rfl rfl
                    obtain rfl : u4 = .bool true := p4
                    obtain ⟨u14, h14, p14⟩ := got (hd ⟨14, .data⟩ (by simp) rfl) rfl rfl
                    obtain rfl : u14 = .bool true := p14
                    exact st_pickv (wanted_none rfl) rfl h4 (eval_of h14) rfl
                · intro a' w' hE hK hG
                  obtain ⟨u, h15, p15⟩ := got (hG 15 (by decide)) rfl rfl
                  obtain rfl : u = .bool true := p15
                  refine hMK a' w' (Met.intro (hRJ a' w' ?_))
                  refine ⟨_, _, _, _, _, _, _, _, _, _, _, _, _, _, _, _, ?_, Kep.re hK rfl 16 31 (by decide)⟩
                  refine ⟨?_, Lib.hid (HEW.out.trans hE)⟩
                  show (a'.tmps[31]?).getD undef = _
                  rw [h15]; rfl
              case rest =>
                obtain ⟨rfl, HCT⟩ := hcut
                go_wp2
                go_roundg (ps.length - (j + 1))
                case measure => omega
                case rel => exact ⟨j + 1, by omega, by omega, by go_num, HCT, HIN2⟩
            · rw [if_neg h1] at hin
              by_cases h2 : cmpL pl X = 0
              · rw [if_pos h2, ← hOj, ← List.drop_eq_getElem_cons hjO, List.take_append_drop] at hin
                have HIN2 := Lib.hid hin
                clear hin hOj
                generalize hcd : cmpL pl X = cc at HCO h1 h2
                clear hcd
                subst h2
                have hcc : ((0 : Int) < 0) = False := by simp
                obtain ⟨cc, hc0⟩ : ∃ cc : Int, cc = 0 := ⟨_, rfl⟩
                rw [← hc0] at HCO
                have hcc : cc = 0 := hc0
                clear hc0
                go_upto_region 8 with fail
                go_cut [31] from 16 to 31 (fun s wy => s = .bool false ∧ Hid (Ext w2 wy))
                case first =>
                  rename_i J K1 hRJ hMK
                  refine wp_region_mono (W := wx) rfl (Kd.at [.val (.int .i64 (j : Int)), .val (.slice (some bd) ps.length d), .val (.int .i64 (ps.length : Int)), .val (.bool true), .val (.bool true), .val (.slice (some bd) ps.length d), .val (.int .i64 (j : Int)), .val (.pointer (some (bd.add j))), .row pl, .val (.slice (some ad) us.length c), .val (.int .i64 (k : Int)), .val (.pointer (some (ad.add k))), .row X, .val (.int .i64 cc), .val (.bool false), .val (.bool false)]) (Kd.at_mono _) 70 rfl (by decide) (by decide) (by decide) ?_ ?_
                  · refine ⟨?_, ?_, ?_, ?_, ?_, ?_, ?_, ?_, ?_, ?_, ?_, ?_, ?_, ?_, ?_, ?_, trivial⟩
                    · intro a' w' hE hK hd
                      have hi5 : a'.tmps[5]? = some (.int .i64 (j : Int)) := hK.get 5 (by decide)
                      exact st_move (wanted_none rfl) rfl hi5 rfl
                    · intro a' w' hE hK hd
                      have hi3 : a'.tmps[3]? = some (.slice (some bd) ps.length d) := hK.get 3 (by decide)
                      exact st_move (wanted_none rfl) rfl hi3 rfl
                    · intro a' w' hE hK hd
                      obtain ⟨u1, h1, p1⟩ := got (hd ⟨1, .data⟩ (by simp) rfl) rfl rfl
                      obtain rfl : u1 = .slice (some bd) ps.length d := p1
                      exact st_run (wanted_none rfl) (v := .int .i64 (ps.length : Int)) (by unfold execOp; simp [h1, go_sem]; done) rfl
                    · intro a' w' hE hK hd
                      obtain ⟨u0, h0, p0⟩ := got (hd ⟨0, .data⟩ (by simp) rfl) rfl rfl
                      obtain rfl : u0 = .int .i64 (j : Int) := p0
                      obtain ⟨u2, h2, p2⟩ := got (hd ⟨2, .data⟩ (by simp) rfl) rfl rfl
                      obtain rfl : u2 = .int .i64 (ps.length : Int) := p2
                      exact st_run (wanted_none rfl) (v := .bool true) (by unfold execOp; simp [h0, h2, go_sem]; exact hj) rfl
                    · intro a' w' hE hK hd
                      obtain ⟨u3, h3, p3⟩ := got (hd ⟨3, .data⟩ (by simp) rfl) rfl rfl
                      obtain rfl : u3 = .bool true := p3
                      exact st_move (wanted_none rfl) rfl h3 rfl
                    · intro a' w' hE hK hd
                      obtain ⟨ug, hg, pg⟩ := got (hd ⟨4, .guard⟩ (by simp) rfl) rfl rfl
                      obtain rfl : ug = .bool true := pg
                      have hi3 : a'.tmps[3]? = some (.slice (some bd) ps.length d) := hK.get 3 (by decide)
                      exact st_move ((wanted_b rfl rfl rfl hg).trans rfl) rfl hi3 rfl
                    · intro a' w' hE hK hd
                      obtain ⟨ug, hg, pg⟩ := got (hd ⟨4, .guard⟩ (by simp) rfl) rfl rfl
                      obtain rfl : ug = .bool true := pg
                      have hi5 : a'.tmps[5]? = some (.int .i64 (j : Int)) := hK.get 5 (by decide)
                      exact st_move ((wanted_b rfl rfl rfl hg).trans rfl) rfl hi5 rfl
                    · intro a' w' hE hK hd
                      obtain ⟨ug, hg, pg⟩ := got (hd ⟨4, .guard⟩ (by simp) rfl) rfl rfl
                      obtain rfl : ug = .bool true := pg
                      obtain ⟨u5, h5, p5⟩ := got (hd ⟨5, .data⟩ (by simp) rfl) rfl rfl
                      obtain rfl : u5 = .slice (some bd) ps.length d := p5
                      obtain ⟨u6, h6, p6⟩ := got (hd ⟨6, .data⟩ (by simp) rfl) rfl rfl
                      obtain rfl : u6 = .int .i64 (j : Int) := p6
                      exact st_at ((wanted_b rfl rfl rfl hg).trans rfl) rfl Tryz.underlying33 (by kernel_rfl) h5 h6 hj rfl
                    · intro a' w' hE hK hd
                      obtain ⟨ug, hg, pg⟩ := got (hd ⟨4, .guard⟩ (by simp) rfl) rfl rfl
                      obtain rfl : ug = .bool true := pg
                      obtain ⟨u7, h7, p7⟩ := got (hd ⟨7, .data⟩ (by simp) rfl) rfl rfl
                      obtain rfl : u7 = .pointer (some (bd.add j)) := p7
                      exact st_load ((wanted_b rfl rfl rfl hg).trans rfl) rfl Tryz.underlying22 h7 (HPJ.out _ (HEW.out.trans hE)).1 (HPJ.out _ (HEW.out.trans hE)).2
                    · intro a' w' hE hK hd
                      obtain ⟨ug, hg, pg⟩ := got (hd ⟨4, .guard⟩ (by simp) rfl) rfl rfl
                      obtain rfl : ug = .bool true := pg
                      have hi0 : a'.tmps[0]? = some (.slice (some ad) us.length c) := hK.get 0 (by decide)
                      exact st_move ((wanted_b rfl rfl rfl hg).trans rfl) rfl hi0 rfl
                    · intro a' w' hE hK hd
                      obtain ⟨ug, hg, pg⟩ := got (hd ⟨4, .guard⟩ (by simp) rfl) rfl rfl
                      obtain rfl : ug = .bool true := pg
                      have hi4 : a'.tmps[4]? = some (.int .i64 (k : Int)) := hK.get 4 (by decide)
                      exact st_move ((wanted_b rfl rfl rfl hg).trans rfl) rfl hi4 rfl
                    · intro a' w' hE hK hd
                      obtain ⟨ug, hg, pg⟩ := got (hd ⟨4, .guard⟩ (by simp) rfl) rfl rfl
                      obtain rfl : ug = .bool true := pg
                      obtain ⟨u9, h9, p9⟩ := got (hd ⟨9, .data⟩ (by simp) rfl) rfl rfl
                      obtain rfl : u9 = .slice (some ad) us.length c := p9
                      obtain ⟨u10, h10, p10⟩ := got (hd ⟨10, .data⟩ (by simp) rfl) rfl rfl
                      obtain rfl : u10 = .int .i64 (k : Int) := p10
                      exact st_at ((wanted_b rfl rfl rfl hg).trans rfl) rfl Tryz.underlying33 (by kernel_rfl) h9 h10 hlt rfl
                    · intro a' w' hE hK hd
                      obtain ⟨ug, hg, pg⟩ := got (hd ⟨4, .guard⟩ (by simp) rfl) rfl rfl
                      obtain rfl : ug = .bool true := pg
                      obtain ⟨u11, h11, p11⟩ := got (hd ⟨11, .data⟩ (by simp) rfl) rfl rfl
                      obtain rfl : u11 = .pointer (some (ad.add k)) := p11
                      exact st_load ((wanted_b rfl rfl rfl hg).trans rfl) rfl Tryz.underlying22 h11 (HXK0.out _ (HEW.out.trans hE)).1 (HXK0.out _ (HEW.out.trans hE)).2
                    · intro a' w' hE hK hd
                      obtain ⟨ug, hg, pg⟩ := got (hd ⟨4, .guard⟩ (by simp) rfl) rfl rfl
                      obtain rfl : ug = .bool true := pg
                      obtain ⟨u8, h8, p8⟩ := got (hd ⟨8, .data⟩ (by simp) rfl) rfl rfl
                      have r8 : RI w' u8 pl := p8
                      obtain ⟨u12, h12, p12⟩ := got (hd ⟨12, .data⟩ (by simp) rfl) rfl rfl
                      have r12 : RI w' u12 X := p12
                      exact st_call _ _ _ rfl ((wanted_b rfl rfl rfl hg).trans rfl) rfl fv_refCompare _ (by simp only [List.map_toArray, List.map_cons, List.map_nil, eval_of h8, eval_of h12]) ((HCO.out _ _ _ r8 r12).mono fun e w'' ⟨H1, H2⟩ => ⟨_, H1, H2, rfl⟩)
                    · intro a' w' hE hK hd
                      obtain ⟨ug, hg, pg⟩ := got (hd ⟨4, .guard⟩ (by simp) rfl) rfl rfl
                      obtain rfl : ug = .bool true := pg
                      obtain ⟨u13, h13, p13⟩ := got (hd ⟨13, .data⟩ (by simp) rfl) rfl rfl
                      obtain rfl : u13 = .int .i64 cc := p13
                      exact st_run ((wanted_b rfl rfl rfl hg).trans rfl) (v := .bool false) (by unfold execOp; simp [h13, go_sem, hcc]; done) rfl
                    · intro a' w' hE hK hd
                      obtain ⟨u4, h4, p4⟩ := got (hd ⟨4, .data⟩ (by simp) rfl) rfl rfl
                      obtain rfl : u4 = .bool true := p4
                      obtain ⟨u14, h14, p14⟩ := got (hd ⟨14, .data⟩ (by simp) rfl) rfl rfl
                      obtain rfl : u14 = .bool false := p14
                      exact st_pickv (wanted_none rfl) rfl h4 (eval_of h14) rfl
                  · intro a' w' hE hK hG
                    obtain ⟨u, h15, p15⟩ := got (hG 15 (by decide)) rfl rfl
                    obtain rfl : u = .bool false := p15
                    refine hMK a' w' (Met.intro (hRJ a' w' ?_))
                    refine ⟨_, _, _, _, _, _, _, _, _, _, _, _, _, _, _, _, ?_, Kep.re hK rfl 16 31 (by decide)⟩
                    refine ⟨?_, Lib.hid (HEW.out.trans hE)⟩
                    show (a'.tmps[31]?).getD undef = _
                    rw [h15]; rfl
                case rest =>
                  obtain ⟨rfl, HEY⟩ := hcut
                  obtain ⟨wy, rfl⟩ : ∃ wy : World, wy = wc := ⟨_, rfl⟩
                  go_upto_region 10 with fail
                  go_cut [49] from 34 to 49 (fun s wy => s = .bool true ∧ Hid (Ext w2 wy))
                  case first =>
                    rename_i J K1 hRJ hMK
                    refine wp_region_mono (W := wy) rfl (Kd.at [.val (.int .i64 (j : Int)), .val (.slice (some bd) ps.length d), .val (.int .i64 (ps.length : Int)), .val (.bool true), .val (.bool true), .val (.slice (some bd) ps.length d), .val (.int .i64 (j : Int)), .val (.pointer (some (bd.add j))), .row pl, .val (.slice (some ad) us.length c), .val (.int .i64 (k : Int)), .val (.pointer (some (ad.add k))), .row X, .val (.int .i64 cc), .val (.bool true), .val (.bool true)]) (Kd.at_mono _) 70 rfl (by decide) (by decide) (by decide) ?_ ?_
                    · refine ⟨?_, ?_, ?_, ?_, ?_, ?_, ?_, ?_, ?_, ?_, ?_, ?_, ?_, ?_, ?_, ?_, trivial⟩
                      · intro a' w' hE hK hd
                        have hi5 : a'.tmps[5]? = some (.int .i64 (j : Int)) := hK.get 5 (by decide)
                        exact st_move (wanted_none rfl) rfl hi5 rfl
                      · intro a' w' hE hK hd
                        have hi3 : a'.tmps[3]? = some (.slice (some bd) ps.length d) := hK.get 3 (by decide)
                        exact st_move (wanted_none rfl) rfl hi3 rfl
                      · intro a' w' hE hK hd
                        obtain ⟨u1, h1, p1⟩ := got (hd ⟨1, .data⟩ (by simp) rfl) rfl rfl
                        obtain rfl : u1 = .slice (some bd) ps.length d := p1
                        exact st_run (wanted_none rfl) (v := .int .i64 (ps.length : Int)) (by unfold execOp; simp [h1, go_sem]; done) rfl
                      · intro a' w' hE hK hd
                        obtain ⟨u0, h0, p0⟩ := got (hd ⟨0, .data⟩ (by simp) rfl) rfl rfl
                        obtain rfl : u0 = .int .i64 (j : Int) := p0
                        obtain ⟨u2, h2, p2⟩ := got (hd ⟨2, .data⟩ (by simp) rfl) rfl rfl
                        obtain rfl : u2 = .int .i64 (ps.length : Int) := p2
                        exact st_run (wanted_none rfl) (v := .bool true) (by unfold execOp; simp [h0, h2, go_sem]; exact hj) rfl
                      · intro a' w' hE hK hd
                        obtain ⟨u3, h3, p3⟩ := got (hd ⟨3, .data⟩ (by simp) rfl) rfl rfl
                        obtain rfl : u3 = .bool true := p3
                        exact st_move (wanted_none rfl) rfl h3 rfl
                      · intro a' w' hE hK hd
                        obtain ⟨ug, hg, pg⟩ := got (hd ⟨4, .guard⟩ (by simp) rfl) rfl rfl
                        obtain rfl : ug = .bool true := pg
                        have hi3 : a'.tmps[3]? = some (.slice (some bd) ps.length d) := hK.get 3 (by decide)
                        exact st_move ((wanted_b rfl rfl rfl hg).trans rfl) rfl hi3 rfl
                      · intro a' w' hE hK hd
                        obtain ⟨ug, hg, pg⟩ := got (hd ⟨4, .guard⟩ (by simp) rfl) rfl rfl
                        obtain rfl : ug = .bool true := pg
                        have hi5 : a'.tmps[5]? = some (.int .i64 (j : Int)) := hK.get 5 (by decide)
                        exact st_move ((wanted_b rfl rfl rfl hg).trans rfl) rfl hi5 rfl
                      · intro a' w' hE hK hd
                        obtain ⟨ug, hg, pg⟩ := got (hd ⟨4, .guard⟩ (by simp) rfl) rfl rfl
                        obtain rfl : ug = .bool true := pg
                        obtain ⟨u5, h5, p5⟩ := got (hd ⟨5, .data⟩ (by simp) rfl) rfl rfl
                        obtain rfl : u5 = .slice (some bd) ps.length d := p5
                        obtain ⟨u6, h6, p6⟩ := got (hd ⟨6, .data⟩ (by simp) rfl) rfl rfl
                        obtain rfl : u6 = .int .i64 (j : Int) := p6
                        exact st_at ((wanted_b rfl rfl rfl hg).trans rfl) rfl Tryz.underlying33 (by kernel_rfl) h5 h6 hj rfl
                      · intro a' w' hE hK hd
                        obtain ⟨ug, hg, pg⟩ := got (hd ⟨4, .guard⟩ (by simp) rfl) rfl rfl
                        obtain rfl : ug = .bool true := pg
                        obtain ⟨u7, h7, p7⟩ := got (hd ⟨7, .data⟩ (by simp) rfl) rfl rfl
                        obtain rfl : u7 = .pointer (some (bd.add j)) := p7
                        exact st_load ((wanted_b rfl rfl rfl hg).trans rfl) rfl Tryz.underlying22 h7 (HPJ.out _ (HEY.out.trans hE)).1 (HPJ.out _ (HEY.out.trans hE)).2
                      · intro a' w' hE hK hd
                        obtain ⟨ug, hg, pg⟩ := got (hd ⟨4, .guard⟩ (by simp) rfl) rfl rfl
                        obtain rfl : ug = .bool true := pg
                        have hi0 : a'.tmps[0]? = some (.slice (some ad) us.length c) := hK.get 0 (by decide)
                        exact st_move ((wanted_b rfl rfl rfl hg).trans rfl) rfl hi0 rfl
                      · intro a' w' hE hK hd
                        obtain ⟨ug, hg, pg⟩ := got (hd ⟨4, .guard⟩ (by simp) rfl) rfl rfl
                        obtain rfl : ug = .bool true := pg
                        have hi4 : a'.tmps[4]? = some (.int .i64 (k : Int)) := hK.get 4 (by decide)
                        exact st_move ((wanted_b rfl rfl rfl hg).trans rfl) rfl hi4 rfl
                      · intro a' w' hE hK hd
                        obtain ⟨ug, hg, pg⟩ := got (hd ⟨4, .guard⟩ (by simp) rfl) rfl rfl
                        obtain rfl : ug = .bool true := pg
                        obtain ⟨u9, h9, p9⟩ := got (hd ⟨9, .data⟩ (by simp) rfl) rfl rfl
                        obtain rfl : u9 = .slice (some ad) us.length c := p9
                        obtain ⟨u10, h10, p10⟩ := got (hd ⟨10, .data⟩ (by simp) rfl) rfl rfl
                        obtain rfl : u10 = .int .i64 (k : Int) := p10
                        exact st_at ((wanted_b rfl rfl rfl hg).trans rfl) rfl Tryz.underlying33 (by kernel_rfl) h9 h10 hlt rfl
                      · intro a' w' hE hK hd
                        obtain ⟨ug, hg, pg⟩ := got (hd ⟨4, .guard⟩ (by simp) rfl) rfl rfl
                        obtain rfl : ug = .bool true := pg
                        obtain ⟨u11, h11, p11⟩ := got (hd ⟨11, .data⟩ (by simp) rfl) rfl rfl
                        obtain rfl : u11 = .pointer (some (ad.add k)) := p11
                        exact st_load ((wanted_b rfl rfl rfl hg).trans rfl) rfl Tryz.underlying22 h11 (HXK0.out _ (HEY.out.trans hE)).1 (HXK0.out _ (HEY.out.trans hE)).2
                      · intro a' w' hE hK hd
                        obtain ⟨ug, hg, pg⟩ := got (hd ⟨4, .guard⟩ (by simp) rfl) rfl rfl
                        obtain rfl : ug = .bool true := pg
                        obtain ⟨u8, h8, p8⟩ := got (hd ⟨8, .data⟩ (by simp) rfl) rfl rfl
                        have r8 : RI w' u8 pl := p8
                        obtain ⟨u12, h12, p12⟩ := got (hd ⟨12, .data⟩ (by simp) rfl) rfl rfl
                        have r12 : RI w' u12 X := p12
                        exact st_call _ _ _ rfl ((wanted_b rfl rfl rfl hg).trans rfl) rfl fv_refCompare _ (by simp only [List.map_toArray, List.map_cons, List.map_nil, eval_of h8, eval_of h12]) ((HCO.out _ _ _ r8 r12).mono fun e w'' ⟨H1, H2⟩ => ⟨_, H1, H2, rfl⟩)
                      · intro a' w' hE hK hd
                        obtain ⟨ug, hg, pg⟩ := got (hd ⟨4, .guard⟩ (by simp) rfl) rfl rfl
                        obtain rfl : ug = .bool true := pg
                        obtain ⟨u13, h13, p13⟩ := got (hd ⟨13, .data⟩ (by simp) rfl) rfl rfl
                        obtain rfl : u13 = .int .i64 cc := p13
                        exact st_run ((wanted_b rfl rfl rfl hg).trans rfl) (v := .bool true) (by unfold execOp; simp [h13, go_sem, hcc]; done) rfl
                      · intro a' w' hE hK hd
                        obtain ⟨u4, h4, p4⟩ := got (hd ⟨4, .data⟩ (by simp) rfl) rfl rfl
                        obtain rfl : u4 = .bool true := p4
                        obtain ⟨u14, h14, p14⟩ := got (hd ⟨14, .data⟩ (by simp) rfl) rfl rfl
                        obtain rfl : u14 = .bool true := p14
                        exact st_pickv (wanted_none rfl) rfl h4 (eval_of h14) rfl
                    · intro a' w' hE hK hG
                      obtain ⟨u, h15, p15⟩ := got (hG 15 (by decide)) rfl rfl
                      obtain rfl : u = .bool true := p15
                      refine hMK a' w' (Met.intro (hRJ a' w' ?_))
                      refine ⟨_, _, _, _, _, _, _, _, _, _, _, _, _, _, _, _, ?_, Kep.re hK rfl 34 49 (by decide)⟩
                      refine ⟨?_, Lib.hid (HEY.out.trans hE)⟩
                      show (a'.tmps[49]?).getD undef = _
                      rw [h15]; rfl
                  case rest =>
                    obtain ⟨rfl, HEZ⟩ := hcut
                    obtain ⟨wz, rfl⟩ : ∃ wz : World, wz = wc := ⟨_, rfl⟩
                    go_wp2
                    go_roundg (us.length - (k + 1))
                    case measure => omega
                    case rel => exact ⟨k + 1, by omega, by omega, by go_num, HEO.out.trans HEZ.out, by rw [HFN.out, HIN2.out]; exact HRO.out.ext' HEZ.out⟩
              · rw [if_neg h2, ← hOj, ← List.drop_eq_getElem_cons hjO] at hin
                have HIN2 := Lib.hid hin
                clear hin hOj
                generalize hcd : cmpL pl X = cc at HCO h1 h2
                clear hcd
                have hcc : ¬ cc < 0 ∧ ¬ cc = 0 := ⟨h1, h2⟩
                clear h1 h2
                go_upto_region 8 with fail
                go_cut [31] from 16 to 31 (fun s wy => s = .bool false ∧ Hid (Ext w2 wy))
                case first =>
                  rename_i J K1 hRJ hMK
                  refine wp_region_mono (W := wx) rfl (Kd.at [.val (.int .i64 (j : Int)), .val (.slice (some bd) ps.length d), .val (.int .i64 (ps.length : Int)), .val (.bool true), .val (.bool true), .val (.slice (some bd) ps.length d), .val (.int .i64 (j : Int)), .val (.pointer (some (bd.add j))), .row pl, .val (.slice (some ad) us.length c), .val (.int .i64 (k : Int)), .val (.pointer (some (ad.add k))), .row X, .val (.int .i64 cc), .val (.bool false), .val (.bool false)]) (Kd.at_mono _) 70 rfl (by decide) (by decide) (by decide) ?_ ?_
                  · refine ⟨?_, ?_, ?_, ?_, ?_, ?_, ?_, ?_, ?_, ?_, ?_, ?_, ?_, ?_, ?_, ?_, trivial⟩
                    · intro a' w' hE hK hd
                      have hi5 : a'.tmps[5]? = some (.int .i64 (j : Int)) := hK.get 5 (by decide)
                      exact st_move (wanted_none rfl) rfl hi5 rfl
                    · intro a' w' hE hK hd
                      have hi3 : a'.tmps[3]? = some (.slice (some bd) ps.length d) := hK.get 3 (by decide)
                      exact st_move (wanted_none rfl) rfl hi3 rfl
                    · intro a' w' hE hK hd
                      obtain ⟨u1, h1, p1⟩ := got (hd ⟨1, .data⟩ (by simp) rfl) rfl rfl
                      obtain rfl : u1 = .slice (some bd) ps.length d := p1
                      exact st_run (wanted_none rfl) (v := .int .i64 (ps.length : Int)) (by unfold execOp; simp [h1, go_sem]; done) rfl
                    · intro a' w' hE hK hd
                      obtain ⟨u0, h0, p0⟩ := got (hd ⟨0, .data⟩ (by simp) rfl) rfl rfl
                      obtain rfl : u0 = .int .i64 (j : Int) := p0
                      obtain ⟨u2, h2, p2⟩ := got (hd ⟨2, .data⟩ (by simp) rfl) rfl rfl
                      obtain rfl : u2 = .int .i64 (ps.length : Int) := p2
                      exact st_run (wanted_none rfl) (v := .bool true) (by unfold execOp; simp [h0, h2, go_sem]; exact hj) rfl
                    · intro a' w' hE hK hd
                      obtain ⟨u3, h3, p3⟩ := got (hd ⟨3, .data⟩ (by simp) rfl) rfl rfl
                      obtain rfl : u3 = .bool true := p3
                      exact st_move (wanted_none rfl) rfl h3 rfl
                    · intro a' w' hE hK hd
                      obtain ⟨ug, hg, pg⟩ := got (hd ⟨4, .guard⟩ (by simp) rfl) rfl rfl
                      obtain rfl : ug = .bool true := pg
                      have hi3 : a'.tmps[3]? = some (.slice (some bd) ps.length d) := hK.get 3 (by decide)
                      exact st_move ((wanted_b rfl rfl rfl hg).trans rfl) rfl hi3 rfl
                    · intro a' w' hE hK hd
                      obtain ⟨ug, hg, pg⟩ := got (hd ⟨4, .guard⟩ (by simp) rfl) rfl rfl
                      obtain rfl : ug = .bool true := pg
                      have hi5 : a'.tmps[5]? = some (.int .i64 (j : Int)) := hK.get 5 (by decide)
                      exact st_move ((wanted_b rfl rfl rfl hg).trans rfl) rfl hi5 rfl
                    · intro a' w' hE hK hd
                      obtain ⟨ug, hg, pg⟩ := got (hd ⟨4, .guard⟩ (by simp) rfl) rfl rfl
                      obtain rfl : ug = .bool true := pg
                      obtain ⟨u5, h5, p5⟩ := got (hd ⟨5, .data⟩ (by simp) rfl) rfl rfl
                      obtain rfl : u5 = .slice (some bd) ps.length d := p5
                      obtain ⟨u6, h6, p6⟩ := got (hd ⟨6, .data⟩ (by simp) rfl) rfl rfl
                      obtain rfl : u6 = .int .i64 (j : Int) := p6
                      exact st_at ((wanted_b rfl rfl rfl hg).trans rfl) rfl Tryz.underlying33 (by kernel_rfl) h5 h6 hj rfl
                    · intro a' w' hE hK hd
                      obtain ⟨ug, hg, pg⟩ := got (hd ⟨4, .guard⟩ (by simp) rfl) rfl rfl
                      obtain rfl : ug = .bool true := pg
                      obtain ⟨u7, h7, p7⟩ := got (hd ⟨7, .data⟩ (by simp) rfl) rfl rfl
                      obtain rfl : u7 = .pointer (some (bd.add j)) := p7
                      exact st_load ((wanted_b rfl rfl rfl hg).trans rfl) rfl Tryz.underlying22 h7 (HPJ.out _ (HEW.out.trans hE)).1 (HPJ.out _ (HEW.out.trans hE)).2
                    · intro a' w' hE hK hd
                      obtain ⟨ug, hg, pg⟩ := got (hd ⟨4, .guard⟩ (by simp) rfl) rfl rfl
                      obtain rfl : ug = .bool true := pg
                      have hi0 : a'.tmps[0]? = some (.slice (some ad) us.length c) := hK.get 0 (by decide)
                      exact st_move ((wanted_b rfl rfl rfl hg).trans rfl) rfl hi0 rfl
                    · intro a' w' hE hK hd
                      obtain ⟨ug, hg, pg⟩ := got (hd ⟨4, .guard⟩ (by simp) rfl) rfl rfl
                      obtain rfl : ug = .bool true := pg
                      have hi4 : a'.tmps[4]? = some (.int .i64 (k : Int)) := hK.get 4 (by decide)
                      exact st_move ((wanted_b rfl rfl rfl hg).trans rfl) rfl hi4 rfl
                    · intro a' w' hE hK hd
                      obtain ⟨ug, hg, pg⟩ := got (hd ⟨4, .guard⟩ (by simp) rfl) rfl rfl
                      obtain rfl : ug = .bool true := pg
                      obtain ⟨u9, h9, p9⟩ := got (hd ⟨9, .data⟩ (by simp) rfl) rfl rfl
                      obtain rfl : u9 = .slice (some ad) us.length c := p9
                      obtain ⟨u10, h10, p10⟩ := got (hd ⟨10, .data⟩ (by simp) rfl) rfl rfl
                      obtain rfl : u10 = .int .i64 (k : Int) := p10
                      exact st_at ((wanted_b rfl rfl rfl hg).trans rfl) rfl Tryz.underlying33 (by kernel_rfl) h9 h10 hlt rfl
                    · intro a' w' hE hK hd
                      obtain ⟨ug, hg, pg⟩ := got (hd ⟨4, .guard⟩ (by simp) rfl) rfl rfl
                      obtain rfl : ug = .bool true := pg
                      obtain ⟨u11, h11, p11⟩ := got (hd ⟨11, .data⟩ (by simp) rfl) rfl rfl
                      obtain rfl : u11 = .pointer (some (ad.add k)) := p11
                      exact st_load ((wanted_b rfl rfl rfl hg).trans rfl) rfl Tryz.underlying22 h11 (HXK0.out _ (HEW.out.trans hE)).1 (HXK0.out _ (HEW.out.trans hE)).2
                    · intro a' w' hE hK hd
                      obtain ⟨ug, hg, pg⟩ := got (hd ⟨4, .guard⟩ (by simp) rfl) rfl rfl
                      obtain rfl : ug = .bool true := pg
                      obtain ⟨u8, h8, p8⟩ := got (hd ⟨8, .data⟩ (by simp) rfl) rfl rfl
                      have r8 : RI w' u8 pl := p8
                      obtain ⟨u12, h12, p12⟩ := got (hd ⟨12, .data⟩ (by simp) rfl) rfl rfl
                      have r12 : RI w' u12 X := p12
                      exact st_call _ _ _ rfl ((wanted_b rfl rfl rfl hg).trans rfl) rfl fv_refCompare _ (by simp only [List.map_toArray, List.map_cons, List.map_nil, eval_of h8, eval_of h12]) ((HCO.out _ _ _ r8 r12).mono fun e w'' ⟨H1, H2⟩ => ⟨_, H1, H2, rfl⟩)
                    · intro a' w' hE hK hd
                      obtain ⟨ug, hg, pg⟩ := got (hd ⟨4, .guard⟩ (by simp) rfl) rfl rfl
                      obtain rfl : ug = .bool true := pg
                      obtain ⟨u13, h13, p13⟩ := got (hd ⟨13, .data⟩ (by simp) rfl) rfl rfl
                      obtain rfl : u13 = .int .i64 cc := p13
                      exact st_run ((wanted_b rfl rfl rfl hg).trans rfl) (v := .bool false) (by unfold execOp; simp [h13, go_sem, hcc]; done) rfl
                    · intro a' w' hE hK hd
                      obtain ⟨u4, h4, p4⟩ := got (hd ⟨4, .data⟩ (by simp) rfl) rfl rfl
                      obtain rfl : u4 = .bool true := p4
                      obtain ⟨u14, h14, p14⟩ := got (hd ⟨14, .data⟩ (by simp) rfl) rfl rfl
                      obtain rfl : u14 = .bool false := p14
                      exact st_pickv (wanted_none rfl) rfl h4 (eval_of h14) rfl
                  · intro a' w' hE hK hG
                    obtain ⟨u, h15, p15⟩ := got (hG 15 (by decide)) rfl rfl
                    obtain rfl : u = .bool false := p15
                    refine hMK a' w' (Met.intro (hRJ a' w' ?_))
                    refine ⟨_, _, _, _, _, _, _, _, _, _, _, _, _, _, _, _, ?_, Kep.re hK rfl 16 31 (by decide)⟩
                    refine ⟨?_, Lib.hid (HEW.out.trans hE)⟩
                    show (a'.tmps[31]?).getD undef = _
                    rw [h15]; rfl
                case rest =>
                  obtain ⟨rfl, HEY⟩ := hcut
                  obtain ⟨wy, rfl⟩ : ∃ wy : World, wy = wc := ⟨_, rfl⟩
                  go_upto_region 10 with fail
                  go_cut [49] from 34 to 49 (fun s wy => s = .bool false ∧ Hid (Ext w2 wy))
                  case first =>
                    rename_i J K1 hRJ hMK
                    refine wp_region_mono (W := wy) rfl (Kd.at [.val (.int .i64 (j : Int)), .val (.slice (some bd) ps.length d), .val (.int .i64 (ps.length : Int)), .val (.bool true), .val (.bool true), .val (.slice (some bd) ps.length d), .val (.int .i64 (j : Int)), .val (.pointer (some (bd.add j))), .row pl, .val (.slice (some ad) us.length c), .val (.int .i64 (k : Int)), .val (.pointer (some (ad.add k))), .row X, .val (.int .i64 cc), .val (.bool false), .val (.bool false)]) (Kd.at_mono _) 70 rfl (by decide) (by decide) (by decide) ?_ ?_
                    · refine ⟨?_, ?_, ?_, ?_, ?_, ?_, ?_, ?_, ?_, ?_, ?_, ?_, ?_, ?_, ?_, ?_, trivial⟩
                      · intro a' w' hE hK hd
                        have hi5 : a'.tmps[5]? = some (.int .i64 (j : Int)) := hK.get 5 (by decide)
                        exact st_move (wanted_none rfl) rfl hi5 rfl
                      · intro a' w' hE hK hd
                        have hi3 : a'.tmps[3]? = some (.slice (some bd) ps.length d) := hK.get 3 (by decide)
                        exact st_move (wanted_none rfl) rfl hi3 rfl
                      · intro a' w' hE hK hd
                        obtain ⟨u1, h1, p1⟩ := got (hd ⟨1, .data⟩ (by simp) rfl) rfl rfl
                        obtain rfl : u1 = .slice (some bd) ps.length d := p1
                        exact st_run (wanted_none rfl) (v := .int .i64 (ps.length : Int)) (by unfold execOp; simp [h1, go_sem]; done) rfl
                      · intro a' w' hE hK hd
                        obtain ⟨u0, h0, p0⟩ := got (hd ⟨0, .data⟩ (by simp) rfl) rfl rfl
                        obtain rfl : u0 = .int .i64 (j : Int) := p0
                        obtain ⟨u2, h2, p2⟩ := got (hd ⟨2, .data⟩ (by simp) rfl) rfl rfl
                        obtain rfl : u2 = .int .i64 (ps.length : Int) := p2
                        exact st_run (wanted_none rfl) (v := .bool true) (by unfold execOp; simp [h0, h2, go_sem]; exact hj) rfl
                      · intro a' w' hE hK hd
                        obtain ⟨u3, h3, p3⟩ := got (hd ⟨3, .data⟩ (by simp) rfl) rfl rfl
                        obtain rfl : u3 = .bool true := p3
                        exact st_move (wanted_none rfl) rfl h3 rfl
                      · intro a' w' hE hK hd
                        obtain ⟨ug, hg, pg⟩ := got (hd ⟨4, .guard⟩ (by simp) rfl) rfl rfl
                        obtain rfl : ug = .bool true := pg
                        have hi3 : a'.tmps[3]? = some (.slice (some bd) ps.length d) := hK.get 3 (by decide)
                        exact st_move ((wanted_b rfl rfl rfl hg).trans rfl) rfl hi3 rfl
                      · intro a' w' hE hK hd
                        obtain ⟨ug, hg, pg⟩ := got (hd ⟨4, .guard⟩ (by simp) rfl) rfl rfl
                        obtain rfl : ug = .bool true := pg
                        have hi5 : a'.tmps[5]? = some (.int .i64 (j : Int)) := hK.get 5 (by decide)
                        exact st_move ((wanted_b rfl rfl rfl hg).trans rfl) rfl hi5 rfl
                      · intro a' w' hE hK hd
                        obtain ⟨ug, hg, pg⟩ := got (hd ⟨4, .guard⟩ (by simp) rfl) rfl rfl
                        obtain rfl : ug = .bool true := pg
                        obtain ⟨u5, h5, p5⟩ := got (hd ⟨5, .data⟩ (by simp) rfl) rfl rfl
                        obtain rfl : u5 = .slice (some bd) ps.length d := p5
                        obtain ⟨u6, h6, p6⟩ := got (hd ⟨6, .data⟩ (by simp) rfl) rfl rfl
                        obtain rfl : u6 = .int .i64 (j : Int) := p6
                        exact st_at ((wanted_b rfl rfl rfl hg).trans rfl) rfl Tryz.underlying33 (by kernel_rfl) h5 h6 hj rfl
                      · intro a' w' hE hK hd
                        obtain ⟨ug, hg, pg⟩ := got (hd ⟨4, .guard⟩ (by simp) rfl) rfl rfl
                        obtain rfl : ug = .bool true := pg
                        obtain ⟨u7, h7, p7⟩ := got (hd ⟨7, .data⟩ (by simp) rfl) rfl rfl
                        obtain rfl : u7 = .pointer (some (bd.add j)) := p7
                        exact st_load ((wanted_b rfl rfl rfl hg).trans rfl) rfl Tryz.underlying22 h7 (HPJ.out _ (HEY.out.trans hE)).1 (HPJ.out _ (HEY.out.trans hE)).2
                      · intro a' w' hE hK hd
                        obtain ⟨ug, hg, pg⟩ := got (hd ⟨4, .guard⟩ (by simp) rfl) rfl rfl
                        obtain rfl : ug = .bool true := pg
                        have hi0 : a'.tmps[0]? = some (.slice (some ad) us.length c) := hK.get 0 (by decide)
                        exact st_move ((wanted_b rfl rfl rfl hg).trans rfl) rfl hi0 rfl
                      · intro a' w' hE hK hd
                        obtain ⟨ug, hg, pg⟩ := got (hd ⟨4, .guard⟩ (by simp) rfl) rfl rfl
                        obtain rfl : ug = .bool true := pg
                        have hi4 : a'.tmps[4]? = some (.int .i64 (k : Int)) := hK.get 4 (by decide)
                        exact st_move ((wanted_b rfl rfl rfl hg).trans rfl) rfl hi4 rfl
                      · intro a' w' hE hK hd
                        obtain ⟨ug, hg, pg⟩ := got (hd ⟨4, .guard⟩ (by simp) rfl) rfl rfl
                        obtain rfl : ug = .bool true := pg
                        obtain ⟨u9, h9, p9⟩ := got (hd ⟨9, .data⟩ (by simp) rfl) rfl rfl
                        obtain rfl : u9 = .slice (some ad) us.length c := p9
                        obtain ⟨u10, h10, p10⟩ := got (hd ⟨10, .data⟩ (by simp) rfl) rfl rfl
                        obtain rfl : u10 = .int .i64 (k : Int) := p10
                        exact st_at ((wanted_b rfl rfl rfl hg).trans rfl) rfl Tryz.underlying33 (by kernel_rfl) h9 h10 hlt rfl
                      · intro a' w' hE hK hd
                        obtain ⟨ug, hg, pg⟩ := got (hd ⟨4, .guard⟩ (by simp) rfl) rfl rfl
                        obtain rfl : ug = .bool true := pg
                        obtain ⟨u11, h11, p11⟩ := got (hd ⟨11, .data⟩ (by simp) rfl) rfl rfl
                        obtain rfl : u11 = .pointer (some (ad.add k)) := p11
                        exact st_load ((wanted_b rfl rfl rfl hg).trans rfl) rfl Tryz.underlying22 h11 (HXK0.out _ (HEY.out.trans hE)).1 (HXK0.out _ (HEY.out.trans hE)).2
                      · intro a' w' hE hK hd
                        obtain ⟨ug, hg, pg⟩ := got (hd ⟨4, .guard⟩ (by simp) rfl) rfl rfl
                        obtain rfl : ug = .bool true := pg
                        obtain ⟨u8, h8, p8⟩ := got (hd ⟨8, .data⟩ (by simp) rfl) rfl rfl
                        have r8 : RI w' u8 pl := p8
                        obtain ⟨u12, h12, p12⟩ := got (hd ⟨12, .data⟩ (by simp) rfl) rfl rfl
                        have r12 : RI w' u12 X := p12
                        exact st_call _ _ _ rfl ((wanted_b rfl rfl rfl hg).trans rfl) rfl fv_refCompare _ (by simp only [List.map_toArray, List.map_cons, List.map_nil, eval_of h8, eval_of h12]) ((HCO.out _ _ _ r8 r12).mono fun e w'' ⟨H1, H2⟩ => ⟨_, H1, H2, rfl⟩)
                      · intro a' w' hE hK hd
                        obtain ⟨ug, hg, pg⟩ := got (hd ⟨4, .guard⟩ (by simp) rfl) rfl rfl
                        obtain rfl : ug = .bool true := pg
                        obtain ⟨u13, h13, p13⟩ := got (hd ⟨13, .data⟩ (by simp) rfl) rfl rfl
                        obtain rfl : u13 = .int .i64 cc := p13
                        exact st_run ((wanted_b rfl rfl rfl hg).trans rfl) (v := .bool false) (by unfold execOp; simp [h13, go_sem, hcc]; done) rfl
                      · intro a' w' hE hK hd
                        obtain ⟨u4, h4, p4⟩ := got (hd ⟨4, .data⟩ (by simp) rfl) rfl rfl
                        obtain rfl : u4 = .bool true := p4
                        obtain ⟨u14, h14, p14⟩ := got (hd ⟨14, .data⟩ (by simp) rfl) rfl rfl
                        obtain rfl : u14 = .bool false := p14
                        exact st_pickv (wanted_none rfl) rfl h4 (eval_of h14) rfl
                    · intro a' w' hE hK hG
                      obtain ⟨u, h15, p15⟩ := got (hG 15 (by decide)) rfl rfl
                      obtain rfl : u = .bool false := p15
                      refine hMK a' w' (Met.intro (hRJ a' w' ?_))
                      refine ⟨_, _, _, _, _, _, _, _, _, _, _, _, _, _, _, _, ?_, Kep.re hK rfl 34 49 (by decide)⟩
                      refine ⟨?_, Lib.hid (HEY.out.trans hE)⟩
                      show (a'.tmps[49]?).getD undef = _
                      rw [h15]; rfl
                  case rest =>
                    obtain ⟨rfl, HEZ⟩ := hcut
                    obtain ⟨wz, rfl⟩ : ∃ wz : World, wz = wc := ⟨_, rfl⟩
                    have HBZ := Lib.hid (B3.out.ext HEZ.out)
                    go_upto_region 13 with ((with_reducible refine at_dst 54 rfl ?_)
                                            refine wpList_plain rfl fun K hK => appLL_w (.tmp 50) (.tmp 53) rfl (base := wz.heap.size) (n := 0) (m := j) (vs := []) (us := (ps.map Prod.fst).take j) (c := d) rfl rfl rfl (by simp; omega) (World.ownsRow_nil _ _ _ 1) (HBZ.out.take j) (fun u hu => by
                                              obtain ⟨p, hp, rfl⟩ := List.mem_map.1 (List.mem_of_mem_take hu)
                                              exact ri_one (B5.out p hp)) (by omega) (Nat.le_refl _) ?_
                                            intro v54 wa ho hg
                                            have HO54 := Lib.hid ho
                                            have HEA : Hid (Ext w2 wa) := Lib.hid (HEZ.out.grown hg (fun k hk => by cases hk))
                                            have HSZ : Hid (wz.heap.size ≤ wa.heap.size) := Lib.hid hg.size
                                            have HSE : Hid (Ext wz wa) := Lib.hid ((Ext.refl wz).grown hg (fun k hk => by cases hk))
                                            clear ho hg
                                            refine hK _ _ ?_)
                    obtain ⟨XA, xc, hxe, hx1, hx2, -⟩ := (HXK0.out w2 (Ext.refl _)).2
                    subst hxe
                    have hck := (HXK0.out (wa.alloc (.cells #[] 3)) (HEA.out.trans (Ext.alloc wa _))).1
                    have HXA := Lib.hid (HXK0.out (wa.alloc (.cells #[] 3)) (HEA.out.trans (Ext.alloc wa _))).2
                    go_wp2_with (first
                      | ((with_reducible refine at_dst 61 rfl ?_)
                         refine app_I rfl (.tmp 56) (.tmp 60) rfl (base := wa.heap.size) (xs := []) (ys := X) rfl rfl (own_none wa 3 wa.heap.size (Nat.le_refl _)) HXA.out (by simp; omega) (by simp) ?_
                         intro v61 wb ho hg
                         obtain ⟨CA, cq, hcq, -⟩ := ho.reads
                         subst hcq
                         have HO61 : Hid (OwnI wb wa.heap.size (.slice CA X.length cq) X) := Lib.hid ho
                         have HAB : Hid (Ext wa wb) := Lib.hid ((Ext.alloc wa _).grown hg (fun k hk => by cases hk; exact Nat.le_refl _))
                         clear ho hg hck)
                      | ((with_reducible refine at_dst 63 rfl ?_)
                         have HAB1 := Lib.hid (HAB.out.trans (Ext.alloc wb (.cells #[(.slice CA X.length cq)] 22)))
                         have HO541 := Lib.hid (own_ext HO54.out HAB1.out)
                         have HO611 := Lib.hid (own_ext HO61.out (Ext.alloc wb (.cells #[(.slice CA X.length cq)] 22)))
                         have hsz1 := HSZ.out
                         have hsz2 := HAB1.out.size
                         refine wpList_plain rfl fun K hK => appLL_w (.tmp 55) (.tmp 62) rfl (base := wz.heap.size) (n := 0 + j) (m := 1) (vs := [] ++ (ps.map Prod.fst).take j) (us := [(.slice CA X.length cq)]) (A := some ⟨wb.heap.size, 0, none⟩) (c := 1) rfl rfl (by simp; omega) rfl HO541.out (fun i hi => by
                           obtain rfl : i = 0 := by simpa using hi
                           exact ⟨_, rfl, by rw [addr0]; exact (Var1.new wb 22 (.slice CA X.length cq)).cell⟩) (fun u hu => by
                           rw [List.mem_singleton.1 hu]
                           exact ri_one HO61.out.reads) (by omega) (by omega) ?_
                         intro v63 wc3 ho hg
                         have HO63 := Lib.hid ho
                         have HAC : Hid (Ext wz wc3) := Lib.hid (((HSE.out.trans HAB1.out).grown hg (fun k hk => (own_typed HO54.out hk).1)))
                         have HO612 := Lib.hid (own_grows HO611.out HO541.out hg)
                         clear ho hg hsz1 hsz2
                         refine hK _ _ ?_)
                      | ((with_reducible refine at_dst 68 rfl ?_)
                         have hsz3 := HAC.out.size
                         have hrd := (HBZ.out.ext HAC.out).drop j d (by simpa using b1)
                         refine wpList_plain rfl fun K hK => appLL_w (.tmp 64) (.tmp 67) rfl (us := (ps.map Prod.fst).drop j) (m := ps.length - j) rfl rfl (by simp; omega) (by simp) HO63.out (by first | exact hrd | (rw [if_neg (by omega)] at hrd; simpa using hrd) | simpa using hrd) (fun u hu => by
                           obtain ⟨p, hp, rfl⟩ := List.mem_map.1 (List.mem_of_mem_drop hu)
                           exact ri_one (B5.out p hp)) (by omega) hsz3 ?_
                         intro v68 wd ho hg
                         have HAD : Hid (Ext wz wd) := Lib.hid (HAC.out.grown hg (fun k hk => (own_typed HO63.out hk).1))
                         have HO613 := Lib.hid (own_grows HO612.out HO63.out hg)
                         have HFIN : Hid (RLL wd v68 (insC O X)) := Lib.hid (by
                           have e1 := insC_pairs (ps := ps) (X := X) (j := j) (.slice CA X.length cq) (by rw [← HOO.out]; exact HIN2.out)
                           rw [← HOO.out] at e1
                           rw [← e1]
                           refine RLL.of_own (base := wz.heap.size) ?_ fun p hp => ?_
                           · have e2 : (ps.take j ++ ((.slice CA X.length cq), X) :: ps.drop j).map Prod.fst = [] ++ (ps.map Prod.fst).take j ++ [(.slice CA X.length cq)] ++ (ps.map Prod.fst).drop j := by simp
                             have e3 : (ps.take j ++ ((.slice CA X.length cq), X) :: ps.drop j).length = 0 + j + 1 + (ps.length - j) := by simp; omega
                             rw [e2, e3]
                             exact ho
                           · rcases List.mem_append.1 hp with h | h
                             · exact (B5.out p (List.mem_of_mem_take h)).ext (HEZ.out.trans HAD.out)
                             · rcases List.mem_cons.1 h with rfl | h
                               · exact HO613.out.reads
                               · exact (B5.out p (List.mem_of_mem_drop h)).ext (HEZ.out.trans HAD.out))
                         clear ho hg hsz3
                         refine hK _ _ ?_))
                    all_goals
                      go_roundg (us.length - (k + 1))
                      case measure => omega
                      case rel => exact ⟨k + 1, by omega, by omega, by go_num, (HEO.out.trans HEZ.out).trans HAD.out, by rw [HFN.out]; exact HFIN.out⟩
          · have hjn : j = ps.length := by omega
            have HIN2 : Hid (insC O X = O.take j ++ X :: O.drop j) := Lib.hid (by
              rw [HIN.out, List.drop_eq_nil_of_le (by omega)]; rfl)
            clear hjn
            rcases B with _ | bd
            · go_upto_region 8 with fail
              go_cut [31] from 16 to 31 (fun s wy => s = .bool false ∧ Hid (Ext w2 wy))
              case first =>
                rename_i J K1 hRJ hMK
                refine wp_region_mono (W := wx) rfl (Kd.at [.val (.int .i64 (j : Int)), .val (.slice none ps.length d), .val (.int .i64 (ps.length : Int)), .val (.bool false), .val (.bool false), .val undef, .val undef, .val undef, .val undef, .val undef, .val undef, .val undef, .val undef, .val undef, .val undef, .val (.bool false)]) (Kd.at_mono _) 70 rfl (by decide) (by decide) (by decide) ?_ ?_
                · refine ⟨?_, ?_, ?_, ?_, ?_, ?_, ?_, ?_, ?_, ?_, ?_, ?_, ?_, ?_, ?_, ?_, trivial⟩
                  · intro a' w' hE hK hd
                    have hi5 : a'.tmps[5]? = some (.int .i64 (j : Int)) := hK.get 5 (by decide)
                    exact st_move (wanted_none rfl) rfl hi5 rfl
                  · intro a' w' hE hK hd
                    have hi3 : a'.tmps[3]? = some (.slice none ps.length d) := hK.get 3 (by decide)
                    exact st_move (wanted_none rfl) rfl hi3 rfl
                  · intro a' w' hE hK hd
                    obtain ⟨u1, h1, p1⟩ := got (hd ⟨1, .data⟩ (by simp) rfl) rfl rfl
                    obtain rfl : u1 = .slice none ps.length d := p1
                    exact st_run (wanted_none rfl) (v := .int .i64 (ps.length : Int)) (by unfold execOp; simp [h1, go_sem]; done) rfl
                  · intro a' w' hE hK hd
                    obtain ⟨u0, h0, p0⟩ := got (hd ⟨0, .data⟩ (by simp) rfl) rfl rfl
                    obtain rfl : u0 = .int .i64 (j : Int) := p0
                    obtain ⟨u2, h2, p2⟩ := got (hd ⟨2, .data⟩ (by simp) rfl) rfl rfl
                    obtain rfl : u2 = .int .i64 (ps.length : Int) := p2
                    exact st_run (wanted_none rfl) (v := .bool false) (by unfold execOp; simp [h0, h2, go_sem] <;> omega) rfl
                  · intro a' w' hE hK hd
                    obtain ⟨u3, h3, p3⟩ := got (hd ⟨3, .data⟩ (by simp) rfl) rfl rfl
                    obtain rfl : u3 = .bool false := p3
                    exact st_move (wanted_none rfl) rfl h3 rfl
                  · intro a' w' hE hK hd
                    obtain ⟨ug, hg, pg⟩ := got (hd ⟨4, .guard⟩ (by simp) rfl) rfl rfl
                    obtain rfl : ug = .bool false := pg
                    exact ok_not ((wanted_b rfl rfl rfl hg).trans rfl) rfl
                  · intro a' w' hE hK hd
                    obtain ⟨ug, hg, pg⟩ := got (hd ⟨4, .guard⟩ (by simp) rfl) rfl rfl
                    obtain rfl : ug = .bool false := pg
                    exact ok_not ((wanted_b rfl rfl rfl hg).trans rfl) rfl
                  · intro a' w' hE hK hd
                    obtain ⟨ug, hg, pg⟩ := got (hd ⟨4, .guard⟩ (by simp) rfl) rfl rfl
                    obtain rfl : ug = .bool false := pg
                    exact ok_not ((wanted_b rfl rfl rfl hg).trans rfl) rfl
                  · intro a' w' hE hK hd
                    obtain ⟨ug, hg, pg⟩ := got (hd ⟨4, .guard⟩ (by simp) rfl) rfl rfl
                    obtain rfl : ug = .bool false := pg
                    exact ok_not ((wanted_b rfl rfl rfl hg).trans rfl) rfl
                  · intro a' w' hE hK hd
                    obtain ⟨ug, hg, pg⟩ := got (hd ⟨4, .guard⟩ (by simp) rfl) rfl rfl
                    obtain rfl : ug = .bool false := pg
                    exact ok_not ((wanted_b rfl rfl rfl hg).trans rfl) rfl
                  · intro a' w' hE hK hd
                    obtain ⟨ug, hg, pg⟩ := got (hd ⟨4, .guard⟩ (by simp) rfl) rfl rfl
                    obtain rfl : ug = .bool false := pg
                    exact ok_not ((wanted_b rfl rfl rfl hg).trans rfl) rfl
                  · intro a' w' hE hK hd
                    obtain ⟨ug, hg, pg⟩ := got (hd ⟨4, .guard⟩ (by simp) rfl) rfl rfl
                    obtain rfl : ug = .bool false := pg
                    exact ok_not ((wanted_b rfl rfl rfl hg).trans rfl) rfl
                  · intro a' w' hE hK hd
                    obtain ⟨ug, hg, pg⟩ := got (hd ⟨4, .guard⟩ (by simp) rfl) rfl rfl
                    obtain rfl : ug = .bool false := pg
                    exact ok_not ((wanted_b rfl rfl rfl hg).trans rfl) rfl
                  · intro a' w' hE hK hd
                    obtain ⟨ug, hg, pg⟩ := got (hd ⟨4, .guard⟩ (by simp) rfl) rfl rfl
                    obtain rfl : ug = .bool false := pg
                    exact ok_not ((wanted_b rfl rfl rfl hg).trans rfl) rfl
                  · intro a' w' hE hK hd
                    obtain ⟨ug, hg, pg⟩ := got (hd ⟨4, .guard⟩ (by simp) rfl) rfl rfl
                    obtain rfl : ug = .bool false := pg
                    exact ok_not ((wanted_b rfl rfl rfl hg).trans rfl) rfl
                  · intro a' w' hE hK hd
                    obtain ⟨u4, h4, p4⟩ := got (hd ⟨4, .data⟩ (by simp) rfl) rfl rfl
                    obtain rfl : u4 = .bool false := p4
                    exact st_pickv (wanted_none rfl) rfl h4 rfl rfl
                · intro a' w' hE hK hG
                  obtain ⟨u, h15, p15⟩ := got (hG 15 (by decide)) rfl rfl
                  obtain rfl : u = .bool false := p15
                  refine hMK a' w' (Met.intro (hRJ a' w' ?_))
                  refine ⟨_, _, _, _, _, _, _, _, _, _, _, _, _, _, _, _, ?_, Kep.re hK rfl 16 31 (by decide)⟩
                  refine ⟨?_, Lib.hid (HEW.out.trans hE)⟩
                  show (a'.tmps[31]?).getD undef = _
                  rw [h15]; rfl
              case rest =>
                obtain ⟨rfl, HEY⟩ := hcut
                obtain ⟨wy, rfl⟩ : ∃ wy : World, wy = wc := ⟨_, rfl⟩
                go_upto_region 10 with fail
                go_cut [49] from 34 to 49 (fun s wy => s = .bool false ∧ Hid (Ext w2 wy))
                case first =>
                  rename_i J K1 hRJ hMK
                  refine wp_region_mono (W := wy) rfl (Kd.at [.val (.int .i64 (j : Int)), .val (.slice none ps.length d), .val (.int .i64 (ps.length : Int)), .val (.bool false), .val (.bool false), .val undef, .val undef, .val undef, .val undef, .val undef, .val undef, .val undef, .val undef, .val undef, .val undef, .val (.bool false)]) (Kd.at_mono _) 70 rfl (by decide) (by decide) (by decide) ?_ ?_
                  · refine ⟨?_, ?_, ?_, ?_, ?_, ?_, ?_, ?_, ?_, ?_, ?_, ?_, ?_, ?_, ?_, ?_, trivial⟩
                    · intro a' w' hE hK hd
                      have hi5 : a'.tmps[5]? = some (.int .i64 (j : Int)) := hK.get 5 (by decide)
                      exact st_move (wanted_none rfl) rfl hi5 rfl
                    · intro a' w' hE hK hd
                      have hi3 : a'.tmps[3]? = some (.slice none ps.length d) := hK.get 3 (by decide)
                      exact st_move (wanted_none rfl) rfl hi3 rfl
                    · intro a' w' hE hK hd
                      obtain ⟨u1, h1, p1⟩ := got (hd ⟨1, .data⟩ (by simp) rfl) rfl rfl
                      obtain rfl : u1 = .slice none ps.length d := p1
                      exact st_run (wanted_none rfl) (v := .int .i64 (ps.length : Int)) (by unfold execOp; simp [h1, go_sem]; done) rfl
                    · intro a' w' hE hK hd
                      obtain ⟨u0, h0, p0⟩ := got (hd ⟨0, .data⟩ (by simp) rfl) rfl rfl
                      obtain rfl : u0 = .int .i64 (j : Int) := p0
                      obtain ⟨u2, h2, p2⟩ := got (hd ⟨2, .data⟩ (by simp) rfl) rfl rfl
                      obtain rfl : u2 = .int .i64 (ps.length : Int) := p2
                      exact st_run (wanted_none rfl) (v := .bool false) (by unfold execOp; simp [h0, h2, go_sem] <;> omega) rfl
                    · intro a' w' hE hK hd
                      obtain ⟨u3, h3, p3⟩ := got (hd ⟨3, .data⟩ (by simp) rfl) rfl rfl
                      obtain rfl : u3 = .bool false := p3
                      exact st_move (wanted_none rfl) rfl h3 rfl
                    · intro a' w' hE hK hd
                      obtain ⟨ug, hg, pg⟩ := got (hd ⟨4, .guard⟩ (by simp) rfl) rfl rfl
                      obtain rfl : ug = .bool false := pg
                      exact ok_not ((wanted_b rfl rfl rfl hg).trans rfl) rfl
                    · intro a' w' hE hK hd
                      obtain ⟨ug, hg, pg⟩ := got (hd ⟨4, .guard⟩ (by simp) rfl) rfl rfl
                      obtain rfl : ug = .bool false := pg
                      exact ok_not ((wanted_b rfl rfl rfl hg).trans rfl) rfl
                    · intro a' w' hE hK hd
                      obtain ⟨ug, hg, pg⟩ := got (hd ⟨4, .guard⟩ (by simp) rfl) rfl rfl
                      obtain rfl : ug = .bool false := pg
                      exact ok_not ((wanted_b rfl rfl rfl hg).trans rfl) rfl
                    · intro a' w' hE hK hd
                      obtain ⟨ug, hg, pg⟩ := got (hd ⟨4, .guard⟩ (by simp) rfl) rfl rfl
                      obtain rfl : ug = .bool false := pg
                      exact ok_not ((wanted_b rfl rfl rfl hg).trans rfl) rfl
                    · intro a' w' hE hK hd
                      obtain ⟨ug, hg, pg⟩ := got (hd ⟨4, .guard⟩ (by simp) rfl) rfl rfl
                      obtain rfl : ug = .bool false := pg
                      exact ok_not ((wanted_b rfl rfl rfl hg).trans rfl) rfl
                    · intro a' w' hE hK hd
                      obtain ⟨ug, hg, pg⟩ := got (hd ⟨4, .guard⟩ (by simp) rfl) rfl rfl
                      obtain rfl : ug = .bool false := pg
                      exact ok_not ((wanted_b rfl rfl rfl hg).trans rfl) rfl
                    · intro a' w' hE hK hd
                      obtain ⟨ug, hg, pg⟩ := got (hd ⟨4, .guard⟩ (by simp) rfl) rfl rfl
                      obtain rfl : ug = .bool false := pg
                      exact ok_not ((wanted_b rfl rfl rfl hg).trans rfl) rfl
                    · intro a' w' hE hK hd
                      obtain ⟨ug, hg, pg⟩ := got (hd ⟨4, .guard⟩ (by simp) rfl) rfl rfl
                      obtain rfl : ug = .bool false := pg
                      exact ok_not ((wanted_b rfl rfl rfl hg).trans rfl) rfl
                    · intro a' w' hE hK hd
                      obtain ⟨ug, hg, pg⟩ := got (hd ⟨4, .guard⟩ (by simp) rfl) rfl rfl
                      obtain rfl : ug = .bool false := pg
                      exact ok_not ((wanted_b rfl rfl rfl hg).trans rfl) rfl
                    · intro a' w' hE hK hd
                      obtain ⟨ug, hg, pg⟩ := got (hd ⟨4, .guard⟩ (by simp) rfl) rfl rfl
                      obtain rfl : ug = .bool false := pg
                      exact ok_not ((wanted_b rfl rfl rfl hg).trans rfl) rfl
                    · intro a' w' hE hK hd
                      obtain ⟨u4, h4, p4⟩ := got (hd ⟨4, .data⟩ (by simp) rfl) rfl rfl
                      obtain rfl : u4 = .bool false := p4
                      exact st_pickv (wanted_none rfl) rfl h4 rfl rfl
                  · intro a' w' hE hK hG
                    obtain ⟨u, h15, p15⟩ := got (hG 15 (by decide)) rfl rfl
                    obtain rfl : u = .bool false := p15
                    refine hMK a' w' (Met.intro (hRJ a' w' ?_))
                    refine ⟨_, _, _, _, _, _, _, _, _, _, _, _, _, _, _, _, ?_, Kep.re hK rfl 34 49 (by decide)⟩
                    refine ⟨?_, Lib.hid (HEY.out.trans hE)⟩
                    show (a'.tmps[49]?).getD undef = _
                    rw [h15]; rfl
                case rest =>
                  obtain ⟨rfl, HEZ⟩ := hcut
                  obtain ⟨wz, rfl⟩ : ∃ wz : World, wz = wc := ⟨_, rfl⟩
                  have HBZ := Lib.hid (B3.out.ext HEZ.out)
                  go_upto_region 13 with ((with_reducible refine at_dst 54 rfl ?_)
                                          refine wpList_plain rfl fun K hK => appLL_w (.tmp 50) (.tmp 53) rfl (base := wz.heap.size) (n := 0) (m := j) (vs := []) (us := (ps.map Prod.fst).take j) (c := d) rfl rfl rfl (by simp; omega) (World.ownsRow_nil _ _ _ 1) (HBZ.out.take j) (fun u hu => by
                                            obtain ⟨p, hp, rfl⟩ := List.mem_map.1 (List.mem_of_mem_take hu)
                                            exact ri_one (B5.out p hp)) (by omega) (Nat.le_refl _) ?_
                                          intro v54 wa ho hg
                                          have HO54 := Lib.hid ho
                                          have HEA : Hid (Ext w2 wa) := Lib.hid (HEZ.out.grown hg (fun k hk => by cases hk))
                                          have HSZ : Hid (wz.heap.size ≤ wa.heap.size) := Lib.hid hg.size
                                          have HSE : Hid (Ext wz wa) := Lib.hid ((Ext.refl wz).grown hg (fun k hk => by cases hk))
                                          clear ho hg
                                          refine hK _ _ ?_)
                  obtain ⟨XA, xc, hxe, hx1, hx2, -⟩ := (HXK0.out w2 (Ext.refl _)).2
                  subst hxe
                  have hck := (HXK0.out (wa.alloc (.cells #[] 3)) (HEA.out.trans (Ext.alloc wa _))).1
                  have HXA := Lib.hid (HXK0.out (wa.alloc (.cells #[] 3)) (HEA.out.trans (Ext.alloc wa _))).2
                  go_wp2_with (first
                    | ((with_reducible refine at_dst 61 rfl ?_)
                       refine app_I rfl (.tmp 56) (.tmp 60) rfl (base := wa.heap.size) (xs := []) (ys := X) rfl rfl (own_none wa 3 wa.heap.size (Nat.le_refl _)) HXA.out (by simp; omega) (by simp) ?_
                       intro v61 wb ho hg
                       obtain ⟨CA, cq, hcq, -⟩ := ho.reads
                       subst hcq
                       have HO61 : Hid (OwnI wb wa.heap.size (.slice CA X.length cq) X) := Lib.hid ho
                       have HAB : Hid (Ext wa wb) := Lib.hid ((Ext.alloc wa _).grown hg (fun k hk => by cases hk; exact Nat.le_refl _))
                       clear ho hg hck)
                    | ((with_reducible refine at_dst 63 rfl ?_)
                       have HAB1 := Lib.hid (HAB.out.trans (Ext.alloc wb (.cells #[(.slice CA X.length cq)] 22)))
                       have HO541 := Lib.hid (own_ext HO54.out HAB1.out)
                       have HO611 := Lib.hid (own_ext HO61.out (Ext.alloc wb (.cells #[(.slice CA X.length cq)] 22)))
                       have hsz1 := HSZ.out
                       have hsz2 := HAB1.out.size
                       refine wpList_plain rfl fun K hK => appLL_w (.tmp 55) (.tmp 62) rfl (base := wz.heap.size) (n := 0 + j) (m := 1) (vs := [] ++ (ps.map Prod.fst).take j) (us := [(.slice CA X.length cq)]) (A := some ⟨wb.heap.size, 0, none⟩) (c := 1) rfl rfl (by simp; omega) rfl HO541.out (fun i hi => by
                         obtain rfl : i = 0 := by simpa using hi
                         exact ⟨_, rfl, by rw [addr0]; exact (Var1.new wb 22 (.slice CA X.length cq)).cell⟩) (fun u hu => by
                         rw [List.mem_singleton.1 hu]
                         exact ri_one HO61.out.reads) (by omega) (by omega) ?_
                       intro v63 wc3 ho hg
                       have HO63 := Lib.hid ho
                       have HAC : Hid (Ext wz wc3) := Lib.hid (((HSE.out.trans HAB1.out).grown hg (fun k hk => (own_typed HO54.out hk).1)))
                       have HO612 := Lib.hid (own_grows HO611.out HO541.out hg)
                       clear ho hg hsz1 hsz2
                       refine hK _ _ ?_)
                    | ((with_reducible refine at_dst 68 rfl ?_)
                       have hsz3 := HAC.out.size
                       have hrd := (HBZ.out.ext HAC.out).drop j d (by simpa using b1)
                       refine wpList_plain rfl fun K hK => appLL_w (.tmp 64) (.tmp 67) rfl (us := (ps.map Prod.fst).drop j) (m := ps.length - j) rfl rfl (by simp; omega) (by simp) HO63.out (by first | exact hrd | (rw [if_neg (by omega)] at hrd; simpa using hrd) | simpa using hrd) (fun u hu => by
                         obtain ⟨p, hp, rfl⟩ := List.mem_map.1 (List.mem_of_mem_drop hu)
                         exact ri_one (B5.out p hp)) (by omega) hsz3 ?_
                       intro v68 wd ho hg
                       have HAD : Hid (Ext wz wd) := Lib.hid (HAC.out.grown hg (fun k hk => (own_typed HO63.out hk).1))
                       have HO613 := Lib.hid (own_grows HO612.out HO63.out hg)
                       have HFIN : Hid (RLL wd v68 (insC O X)) := Lib.hid (by
                         have e1 := insC_pairs (ps := ps) (X := X) (j := j) (.slice CA X.length cq) (by rw [← HOO.out]; exact HIN2.out)
                         rw [← HOO.out] at e1
                         rw [← e1]
                         refine RLL.of_own (base := wz.heap.size) ?_ fun p hp => ?_
                         · have e2 : (ps.take j ++ ((.slice CA X.length cq), X) :: ps.drop j).map Prod.fst = [] ++ (ps.map Prod.fst).take j ++ [(.slice CA X.length cq)] ++ (ps.map Prod.fst).drop j := by simp
                           have e3 : (ps.take j ++ ((.slice CA X.length cq), X) :: ps.drop j).length = 0 + j + 1 + (ps.length - j) := by simp; omega
                           rw [e2, e3]
                           exact ho
                         · rcases List.mem_append.1 hp with h | h
                           · exact (B5.out p (List.mem_of_mem_take h)).ext (HEZ.out.trans HAD.out)
                           · rcases List.mem_cons.1 h with rfl | h
                             · exact HO613.out.reads
                             · exact (B5.out p (List.mem_of_mem_drop h)).ext (HEZ.out.trans HAD.out))
                       clear ho hg hsz3
                       refine hK _ _ ?_))
                  all_goals
                    go_roundg (us.length - (k + 1))
                    case measure => omega
                    case rel => exact ⟨k + 1, by omega, by omega, by go_num, (HEO.out.trans HEZ.out).trans HAD.out, by rw [HFN.out]; exact HFIN.out⟩
            · go_upto_region 8 with fail
              go_cut [31] from 16 to 31 (fun s wy => s = .bool false ∧ Hid (Ext w2 wy))
              case first =>
                rename_i J K1 hRJ hMK
                refine wp_region_mono (W := wx) rfl (Kd.at [.val (.int .i64 (j : Int)), .val (.slice (some bd) ps.length d), .val (.int .i64 (ps.length : Int)), .val (.bool false), .val (.bool false), .val undef, .val undef, .val undef, .val undef, .val undef, .val undef, .val undef, .val undef, .val undef, .val undef, .val (.bool false)]) (Kd.at_mono _) 70 rfl (by decide) (by decide) (by decide) ?_ ?_
                · refine ⟨?_, ?_, ?_, ?_, ?_, ?_, ?_, ?_, ?_, ?_, ?_, ?_, ?_, ?_, ?_, ?_, trivial⟩
                  · intro a' w' hE hK hd
                    have hi5 : a'.tmps[5]? = some (.int .i64 (j : Int)) := hK.get 5 (by decide)
                    exact st_move (wanted_none rfl) rfl hi5 rfl
                  · intro a' w' hE hK hd
                    have hi3 : a'.tmps[3]? = some (.slice (some bd) ps.length d) := hK.get 3 (by decide)
                    exact st_move (wanted_none rfl) rfl hi3 rfl
                  · intro a' w' hE hK hd
                    obtain ⟨u1, h1, p1⟩ := got (hd ⟨1, .data⟩ (by simp) rfl) rfl rfl
                    obtain rfl : u1 = .slice (some bd) ps.length d := p1
                    exact st_run (wanted_none rfl) (v := .int .i64 (ps.length : Int)) (by unfold execOp; simp [h1, go_sem]; done) rfl
                  · intro a' w' hE hK hd
                    obtain ⟨u0, h0, p0⟩ := got (hd ⟨0, .data⟩ (by simp) rfl) rfl rfl
                    obtain rfl : u0 = .int .i64 (j : Int) := p0
                    obtain ⟨u2, h2, p2⟩ := got (hd ⟨2, .data⟩ (by simp) rfl) rfl rfl
                    obtain rfl : u2 = .int .i64 (ps.length : Int) := p2
                    exact st_run (wanted_none rfl) (v := .bool false) (by unfold execOp; simp [h0, h2, go_sem] <;> omega) rfl
                  · intro a' w' hE hK hd
                    obtain ⟨u3, h3, p3⟩ := got (hd ⟨3, .data⟩ (by simp) rfl) rfl rfl
                    obtain rfl : u3 = .bool false := p3
                    exact st_move (wanted_none rfl) rfl h3 rfl
                  · intro a' w' hE hK hd
                    obtain ⟨ug, hg, pg⟩ := got (hd ⟨4, .guard⟩ (by simp) rfl) rfl rfl
                    obtain rfl : ug = .bool false := pg
                    exact ok_not ((wanted_b rfl rfl rfl hg).trans rfl) rfl
                  · intro a' w' hE hK hd
                    obtain ⟨ug, hg, pg⟩ := got (hd ⟨4, .guard⟩ (by simp) rfl) rfl rfl
                    obtain rfl : ug = .bool false := pg
                    exact ok_not ((wanted_b rfl rfl rfl hg).trans rfl) rfl
                  · intro a' w' hE hK hd
                    obtain ⟨ug, hg, pg⟩ := got (hd ⟨4, .guard⟩ (by simp) rfl) rfl rfl
                    obtain rfl : ug = .bool false := pg
                    exact ok_not ((wanted_b rfl rfl rfl hg).trans rfl) rfl
                  · intro a' w' hE hK hd
                    obtain ⟨ug, hg, pg⟩ := got (hd ⟨4, .guard⟩ (by simp) rfl) rfl rfl
                    obtain rfl : ug = .bool false := pg
                    exact ok_not ((wanted_b rfl rfl rfl hg).trans rfl) rfl
                  · intro a' w' hE hK hd
                    obtain ⟨ug, hg, pg⟩ := got (hd ⟨4, .guard⟩ (by simp) rfl) rfl rfl
                    obtain rfl : ug = .bool false := pg
                    exact ok_not ((wanted_b rfl rfl rfl hg).trans rfl) rfl
                  · intro a' w' hE hK hd
                    obtain ⟨ug, hg, pg⟩ := got (hd ⟨4, .guard⟩ (by simp) rfl) rfl rfl
                    obtain rfl : ug = .bool false := pg
                    exact ok_not ((wanted_b rfl rfl rfl hg).trans rfl) rfl
                  · intro a' w' hE hK hd
                    obtain ⟨ug, hg, pg⟩ := got (hd ⟨4, .guard⟩ (by simp) rfl) rfl rfl
                    obtain rfl : ug = .bool false := pg
                    exact ok_not ((wanted_b rfl rfl rfl hg).trans rfl) rfl
                  · intro a' w' hE hK hd
                    obtain ⟨ug, hg, pg⟩ := got (hd ⟨4, .guard⟩ (by simp) rfl) rfl rfl
                    obtain rfl : ug = .bool false := pg
                    exact ok_not ((wanted_b rfl rfl rfl hg).trans rfl) rfl
                  · intro a' w' hE hK hd
                    obtain ⟨ug, hg, pg⟩ := got (hd ⟨4, .guard⟩ (by simp) rfl) rfl rfl
                    obtain rfl : ug = .bool false := pg
                    exact ok_not ((wanted_b rfl rfl rfl hg).trans rfl) rfl
                  · intro a' w' hE hK hd
                    obtain ⟨ug, hg, pg⟩ := got (hd ⟨4, .guard⟩ (by simp) rfl) rfl rfl
                    obtain rfl : ug = .bool false := pg
                    exact ok_not ((wanted_b rfl rfl rfl hg).trans rfl) rfl
                  · intro a' w' hE hK hd
                    obtain ⟨u4, h4, p4⟩ := got (hd ⟨4, .data⟩ (by simp) rfl) rfl rfl
                    obtain rfl : u4 = .bool false := p4
                    exact st_pickv (wanted_none rfl) rfl h4 rfl rfl
                · intro a' w' hE hK hG
                  obtain ⟨u, h15, p15⟩ := got (hG 15 (by decide)) rfl rfl
                  obtain rfl : u = .bool false := p15
                  refine hMK a' w' (Met.intro (hRJ a' w' ?_))
                  refine ⟨_, _, _, _, _, _, _, _, _, _, _, _, _, _, _, _, ?_, Kep.re hK rfl 16 31 (by decide)⟩
                  refine ⟨?_, Lib.hid (HEW.out.trans hE)⟩
                  show (a'.tmps[31]?).getD undef = _
                  rw [h15]; rfl
              case rest =>
                obtain ⟨rfl, HEY⟩ := hcut
                obtain ⟨wy, rfl⟩ : ∃ wy : World, wy = wc := ⟨_, rfl⟩
                go_upto_region 10 with fail
                go_cut [49] from 34 to 49 (fun s wy => s = .bool false ∧ Hid (Ext w2 wy))
                case first =>
                  rename_i J K1 hRJ hMK
                  refine wp_region_mono (W := wy) rfl (Kd.at [.val (.int .i64 (j : Int)), .val (.slice (some bd) ps.length d), .val (.int .i64 (ps.length : Int)), .val (.bool false), .val (.bool false), .val undef, .val undef, .val undef, .val undef, .val undef, .val undef, .val undef, .val undef, .val undef, .val undef, .val (.bool false)]) (Kd.at_mono _) 70 rfl (by decide) (by decide) (by decide) ?_ ?_
                  · refine ⟨?_, ?_, ?_, ?_, ?_, ?_, ?_, ?_, ?_, ?_, ?_, ?_, ?_, ?_, ?_, ?_, trivial⟩
                    · intro a' w' hE hK hd
                      have hi5 : a'.tmps[5]? = some (.int .i64 (j : Int)) := hK.get 5 (by decide)
                      exact st_move (wanted_none rfl) rfl hi5 rfl
                    · intro a' w' hE hK hd
                      have hi3 : a'.tmps[3]? = some (.slice (some bd) ps.length d) := hK.get 3 (by decide)
                      exact st_move (wanted_none rfl) rfl hi3 rfl
                    · intro a' w' hE hK hd
                      obtain ⟨u1, h1, p1⟩ := got (hd ⟨1, .data⟩ (by simp) rfl) rfl rfl
                      obtain rfl : u1 = .slice (some bd) ps.length d := p1
                      exact st_run (wanted_none rfl) (v := .int .i64 (ps.length : Int)) (by unfold execOp; simp [h1, go_sem]; done) rfl
                    · intro a' w' hE hK hd
                      obtain ⟨u0, h0, p0⟩ := got (hd ⟨0, .data⟩ (by simp) rfl) rfl rfl
                      obtain rfl : u0 = .int .i64 (j : Int) := p0
                      obtain ⟨u2, h2, p2⟩ := got (hd ⟨2, .data⟩ (by simp) rfl) rfl rfl
                      obtain rfl : u2 = .int .i64 (ps.length : Int) := p2
                      exact st_run (wanted_none rfl) (v := .bool false) (by unfold execOp; simp [h0, h2, go_sem] <;> omega) rfl
                    · intro a' w' hE hK hd
                      obtain ⟨u3, h3, p3⟩ := got (hd ⟨3, .data⟩ (by simp) rfl) rfl rfl
                      obtain rfl : u3 = .bool false := p3
                      exact st_move (wanted_none rfl) rfl h3 rfl
                    · intro a' w' hE hK hd
                      obtain ⟨ug, hg, pg⟩ := got (hd ⟨4, .guard⟩ (by simp) rfl) rfl rfl
                      obtain rfl : ug = .bool false := pg
                      exact ok_not ((wanted_b rfl rfl rfl hg).trans rfl) rfl
                    · intro a' w' hE hK hd
                      obtain ⟨ug, hg, pg⟩ := got (hd ⟨4, .guard⟩ (by simp) rfl) rfl rfl
                      obtain rfl : ug = .bool false := pg
                      exact ok_not ((wanted_b rfl rfl rfl hg).trans rfl) rfl
                    · intro a' w' hE hK hd
                      obtain ⟨ug, hg, pg⟩ := got (hd ⟨4, .guard⟩ (by simp) rfl) rfl rfl
                      obtain rfl : ug = .bool false := pg
                      exact ok_not ((wanted_b rfl rfl rfl hg).trans rfl) rfl
                    · intro a' w' hE hK hd
                      obtain ⟨ug, hg, pg⟩ := got (hd ⟨4, .guard⟩ (by simp) rfl) rfl rfl
                      obtain rfl : ug = .bool false := pg
                      exact ok_not ((wanted_b rfl rfl rfl hg).trans rfl) rfl
                    · intro a' w' hE hK hd
                      obtain ⟨ug, hg, pg⟩ := got (hd ⟨4, .guard⟩ (by simp) rfl) rfl rfl
                      obtain rfl : ug = .bool false := pg
                      exact ok_not ((wanted_b rfl rfl rfl hg).trans rfl) rfl
                    · intro a' w' hE hK hd
                      obtain ⟨ug, hg, pg⟩ := got (hd ⟨4, .guard⟩ (by simp) rfl) rfl rfl
                      obtain rfl : ug = .bool false := pg
                      exact ok_not ((wanted_b rfl rfl rfl hg).trans rfl) rfl
                    · intro a' w' hE hK hd
                      obtain ⟨ug, hg, pg⟩ := got (hd ⟨4, .guard⟩ (by simp) rfl) rfl rfl
                      obtain rfl : ug = .bool false := pg
                      exact ok_not ((wanted_b rfl rfl rfl hg).trans rfl) rfl
                    · intro a' w' hE hK hd
                      obtain ⟨ug, hg, pg⟩ := got (hd ⟨4, .guard⟩ (by simp) rfl) rfl rfl
                      obtain rfl : ug = .bool false := pg
                      exact ok_not ((wanted_b rfl rfl rfl hg).trans rfl) rfl
                    · intro a' w' hE hK hd
                      obtain ⟨ug, hg, pg⟩ := got (hd ⟨4, .guard⟩ (by simp) rfl) rfl rfl
                      obtain rfl : ug = .bool false := pg
                      exact ok_not ((wanted_b rfl rfl rfl hg).trans rfl) rfl
                    · intro a' w' hE hK hd
                      obtain ⟨ug, hg, pg⟩ := got (hd ⟨4, .guard⟩ (by simp) rfl) rfl rfl
                      obtain rfl : ug = .bool false := pg
                      exact ok_not ((wanted_b rfl rfl rfl hg).trans rfl) rfl
                    · intro a' w' hE hK hd
                      obtain ⟨u4, h4, p4⟩ := got (hd ⟨4, .data⟩ (by simp) rfl) rfl rfl
                      obtain rfl : u4 = .bool false := p4
                      exact st_pickv (wanted_none rfl) rfl h4 rfl rfl
                  · intro a' w' hE hK hG
                    obtain ⟨u, h15, p15⟩ := got (hG 15 (by decide)) rfl rfl
                    obtain rfl : u = .bool false := p15
                    refine hMK a' w' (Met.intro (hRJ a' w' ?_))
                    refine ⟨_, _, _, _, _, _, _, _, _, _, _, _, _, _, _, _, ?_, Kep.re hK rfl 34 49 (by decide)⟩
                    refine ⟨?_, Lib.hid (HEY.out.trans hE)⟩
                    show (a'.tmps[49]?).getD undef = _
                    rw [h15]; rfl
                case rest =>
                  obtain ⟨rfl, HEZ⟩ := hcut
                  obtain ⟨wz, rfl⟩ : ∃ wz : World, wz = wc := ⟨_, rfl⟩
                  have HBZ := Lib.hid (B3.out.ext HEZ.out)
                  go_upto_region 13 with ((with_reducible refine at_dst 54 rfl ?_)
                                          refine wpList_plain rfl fun K hK => appLL_w (.tmp 50) (.tmp 53) rfl (base := wz.heap.size) (n := 0) (m := j) (vs := []) (us := (ps.map Prod.fst).take j) (c := d) rfl rfl rfl (by simp; omega) (World.ownsRow_nil _ _ _ 1) (HBZ.out.take j) (fun u hu => by
                                            obtain ⟨p, hp, rfl⟩ := List.mem_map.1 (List.mem_of_mem_take hu)
                                            exact ri_one (B5.out p hp)) (by omega) (Nat.le_refl _) ?_
                                          intro v54 wa ho hg
                                          have HO54 := Lib.hid ho
                                          have HEA : Hid (Ext w2 wa) := Lib.hid (HEZ.out.grown hg (fun k hk => by cases hk))
                                          have HSZ : Hid (wz.heap.size ≤ wa.heap.size) := Lib.hid hg.size
                                          have HSE : Hid (Ext wz wa) := Lib.hid ((Ext.refl wz).grown hg (fun k hk => by cases hk))
                                          clear ho hg
                                          refine hK _ _ ?_)
                  obtain ⟨XA, xc, hxe, hx1, hx2, -⟩ := (HXK0.out w2 (Ext.refl _)).2
                  subst hxe
                  have hck := (HXK0.out (wa.alloc (.cells #[] 3)) (HEA.out.trans (Ext.alloc wa _))).1
                  have HXA := Lib.hid (HXK0.out (wa.alloc (.cells #[] 3)) (HEA.out.trans (Ext.alloc wa _))).2
                  go_wp2_with (first
                    | ((with_reducible refine at_dst 61 rfl ?_)
                       refine app_I rfl (.tmp 56) (.tmp 60) rfl (base := wa.heap.size) (xs := []) (ys := X) rfl rfl (own_none wa 3 wa.heap.size (Nat.le_refl _)) HXA.out (by simp; omega) (by simp) ?_
                       intro v61 wb ho hg
                       obtain ⟨CA, cq, hcq, -⟩ := ho.reads
                       subst hcq
                       have HO61 : Hid (OwnI wb wa.heap.size (.slice CA X.length cq) X) := Lib.hid ho
                       have HAB : Hid (Ext wa wb) := Lib.hid ((Ext.alloc wa _).grown hg (fun k hk => by cases hk; exact Nat.le_refl _))
                       clear ho hg hck)
                    | ((with_reducible refine at_dst 63 rfl ?_)
                       have HAB1 := Lib.hid (HAB.out.trans (Ext.alloc wb (.cells #[(.slice CA X.length cq)] 22)))
                       have HO541 := Lib.hid (own_ext HO54.out HAB1.out)
                       have HO611 := Lib.hid (own_ext HO61.out (Ext.alloc wb (.cells #[(.slice CA X.length cq)] 22)))
                       have hsz1 := HSZ.out
                       have hsz2 := HAB1.out.size
                       refine wpList_plain rfl fun K hK => appLL_w (.tmp 55) (.tmp 62) rfl (base := wz.heap.size) (n := 0 + j) (m := 1) (vs := [] ++ (ps.map Prod.fst).take j) (us := [(.slice CA X.length cq)]) (A := some ⟨wb.heap.size, 0, none⟩) (c := 1) rfl rfl (by simp; omega) rfl HO541.out (fun i hi => by
                         obtain rfl : i = 0 := by simpa using hi
                         exact ⟨_, rfl, by rw [addr0]; exact (Var1.new wb 22 (.slice CA X.length cq)).cell⟩) (fun u hu => by
                         rw [List.mem_singleton.1 hu]
                         exact ri_one HO61.out.reads) (by omega) (by omega) ?_
                       intro v63 wc3 ho hg
                       have HO63 := Lib.hid ho
                       have HAC : Hid (Ext wz wc3) := Lib.hid (((HSE.out.trans HAB1.out).grown hg (fun k hk => (own_typed HO54.out hk).1)))
                       have HO612 := Lib.hid (own_grows HO611.out HO541.out hg)
                       clear ho hg hsz1 hsz2
                       refine hK _ _ ?_)
                    | ((with_reducible refine at_dst 68 rfl ?_)
                       have hsz3 := HAC.out.size
                       have hrd := (HBZ.out.ext HAC.out).drop j d (by simpa using b1)
                       refine wpList_plain rfl fun K hK => appLL_w (.tmp 64) (.tmp 67) rfl (us := (ps.map Prod.fst).drop j) (m := ps.length - j) rfl rfl (by simp; omega) (by simp) HO63.out (by first | exact hrd | (rw [if_neg (by omega)] at hrd; simpa using hrd) | simpa using hrd) (fun u hu => by
                         obtain ⟨p, hp, rfl⟩ := List.mem_map.1 (List.mem_of_mem_drop hu)
                         exact ri_one (B5.out p hp)) (by omega) hsz3 ?_
                       intro v68 wd ho hg
                       have HAD : Hid (Ext wz wd) := Lib.hid (HAC.out.grown hg (fun k hk => (own_typed HO63.out hk).1))
                       have HO613 := Lib.hid (own_grows HO612.out HO63.out hg)
                       have HFIN : Hid (RLL wd v68 (insC O X)) := Lib.hid (by
                         have e1 := insC_pairs (ps := ps) (X := X) (j := j) (.slice CA X.length cq) (by rw [← HOO.out]; exact HIN2.out)
                         rw [← HOO.out] at e1
                         rw [← e1]
                         refine RLL.of_own (base := wz.heap.size) ?_ fun p hp => ?_
                         · have e2 : (ps.take j ++ ((.slice CA X.length cq), X) :: ps.drop j).map Prod.fst = [] ++ (ps.map Prod.fst).take j ++ [(.slice CA X.length cq)] ++ (ps.map Prod.fst).drop j := by simp
                           have e3 : (ps.take j ++ ((.slice CA X.length cq), X) :: ps.drop j).length = 0 + j + 1 + (ps.length - j) := by simp; omega
                           rw [e2, e3]
                           exact ho
                         · rcases List.mem_append.1 hp with h | h
                           · exact (B5.out p (List.mem_of_mem_take h)).ext (HEZ.out.trans HAD.out)
                           · rcases List.mem_cons.1 h with rfl | h
                             · exact HO613.out.reads
                             · exact (B5.out p (List.mem_of_mem_drop h)).ext (HEZ.out.trans HAD.out))
                       clear ho hg hsz3
                       refine hK _ _ ?_))
                  all_goals
                    go_roundg (us.length - (k + 1))
                    case measure => omega
                    case rel => exact ⟨k + 1, by omega, by omega, by go_num, (HEO.out.trans HEZ.out).trans HAD.out, by rw [HFN.out]; exact HFIN.out⟩
      · obtain rfl : k = us.length := by omega
        obtain ⟨hE2, hR2⟩ := HS.out
        rw [K4.out, List.take_of_length_le (Nat.le_refl _)] at hR2
        have HE2 := Lib.hid hE2
        have HR2 := Lib.hid hR2
        clear HS hE2 hR2 hgk hk hlt
        go_wp2
        go_ret
        exact ⟨_, rfl, HR2.out, HE2.out⟩
end Go.Proofs.YtlompphnngnaiaaGreatDoor
