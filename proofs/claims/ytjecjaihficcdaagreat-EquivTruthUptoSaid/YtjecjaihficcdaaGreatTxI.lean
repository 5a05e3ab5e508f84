/- Walks and plain laws that this claim uses. -/
import Derived.Test.YtjecjaihficcdaaGreatTxH
import Derived.Test.YtjecjaihficcdaaGreatTxG
import Derived.Test.YtjecjaihficcdaaGreatTxF
import Derived.Deep.DrawnRows
import Derived.Deep.RegionLaw
import Derived.Deep.AppendLies
namespace Go.Proofs.YtjecjaihficcdaaGreat
open Go.RowKit
def ClassesP (f L : List (List Int)) : Prop := L.Perm ((clsOf f).filter goodC) ∧ L.Pairwise fun a b => ¬ elt (hdI b) (hdI a)
theorem graphLits_len (f : List (List Int)) : (graphLits f).length ≤ 4 * f.length := by
 have h1 := setL_len ((lits2 f).flatMap fun x => [x, -x]) []
 have h2 : ((lits2 f).flatMap fun x => [x, -x]).length = 2 * (lits2 f).length := by
  induction lits2 f with
  | nil => rfl
  | cons a l ih => rw [List.flatMap_cons, List.length_append, ih]; simp; omega
 have := lits2_len f
 unfold graphLits
 rw [h2, List.length_nil, Nat.zero_add] at h1
 omega
theorem graphLits_nodup (f : List (List Int)) : (graphLits f).Nodup := by
 unfold graphLits
 exact (setL_sorted _ List.Pairwise.nil).imp fun {a b} h e => by subst e; unfold blt at h; omega
theorem graphLits_nb (f : List (List Int)) : ∀ y ∈ graphLits f, ∀ z ∈ nbL f y, z ∈ graphLits f := fun _ _ z hz => (mem_graphLits f z).2 (.inl (nbL_mem hz).1)
theorem TW.start {W : World} {f : List (List Int)} {g n : Nat} {ks : List (Int × Value)} {lv : Value} {lx : List Int} (hg : GR W g ks f) (hgb : ∀ k, GB g ks k → k < n) (h1 : MapK kvI W n []) (h2 : MapK kvI W (n + 1) []) (h3 : MapK kvI W (n + 2) [])
 (hb : Blk W (n + 3) 80 [.map (some g), .map (some n), .map (some (n + 1)), .map (some (n + 2)), .slice none 0 0, .slice none 0 0]) (hl : OwnI W n lv lx) : TW n f ⟨n + 3, g, n, n + 1, n + 2, ks, lv, lx⟩ W (.slice none 0 0) (.slice none 0 0) [] t0 := by
 refine ⟨hb, hg, hgb, ⟨[], h1, rfl, fun k => ?_⟩, ⟨[], h2, fun k => ?_, fun k _ => ?_⟩, ⟨[], h3, fun k => ?_, fun k _ => ?_⟩, OwnI.nil _ _, ⟨World.ownsRow_nil _ _ _ 1, rfl, fun j hj => absurd hj (Nat.not_lt_zero j), by simp, List.Pairwise.nil⟩, ⟨by simp, by simp, by simp⟩, ⟨by simp, by simp, by simp, by simp⟩, Nat.le_of_lt h1.lt, hl, fun k _ => by simp [Value.ownBlock]⟩
 all_goals rfl
theorem lift_sub {α : Type} {P : α → Prop} : ∀ l : List α, (∀ a ∈ l, P a) → ∃ q : List { a // P a }, q.map Subtype.val = l
 | [], _ => ⟨[], rfl⟩
 | a :: l, h => by
   obtain ⟨q, hq⟩ := lift_sub l (fun b hb => h b (by simp [hb]))
   exact ⟨⟨a, h a (by simp)⟩ :: q, by rw [List.map_cons, hq]⟩
theorem fin_new (w : World) (g : Nat) : ∃ W : World, W = (((w.alloc (Obj.map #[] 0)).alloc (Obj.map #[] 0)).alloc (Obj.map #[] 0)).alloc (Obj.cells #[Value.map (some g), Value.map (some w.heap.size), Value.map (some (w.heap.size + 1)), Value.map (some (w.heap.size + 1 + 1)), Value.slice none 0 0, Value.slice none 0 0] 80) ∧
 MapK kvI W w.heap.size [] ∧ MapK kvI W (w.heap.size + 1) [] ∧ MapK kvI W (w.heap.size + 2) [] ∧ Blk W (w.heap.size + 3) 80 [.map (some g), .map (some w.heap.size), .map (some (w.heap.size + 1)), .map (some (w.heap.size + 2)), .slice none 0 0, .slice none 0 0] ∧ Ext w W ∧ w.heap.size ≤ W.heap.size := by
 refine ⟨_, rfl, ?_, ?_, ?_, ?_, ?_, ?_⟩
 · exact (((MapK.new w).ext (Ext.alloc _ _)).ext (Ext.alloc _ _)).ext (Ext.alloc _ _)
 · have h := MapK.new (kv := kvI) (w.alloc (Obj.map #[] 0))
   rw [show (w.alloc (Obj.map #[] 0)).heap.size = w.heap.size + 1 by simp] at h
   exact (h.ext (Ext.alloc _ _)).ext (Ext.alloc _ _)
 · have h := MapK.new (kv := kvI) ((w.alloc (Obj.map #[] 0)).alloc (Obj.map #[] 0))
   rw [show ((w.alloc (Obj.map #[] 0)).alloc (Obj.map #[] 0)).heap.size = w.heap.size + 2 by simp] at h
   exact h.ext (Ext.alloc _ _)
 · have h := Blk.new (((w.alloc (Obj.map #[] 0)).alloc (Obj.map #[] 0)).alloc (Obj.map #[] 0)) 80 [.map (some g), .map (some w.heap.size), .map (some (w.heap.size + 1)), .map (some (w.heap.size + 2)), .slice none 0 0, .slice none 0 0]
   rw [show (((w.alloc (Obj.map #[] 0)).alloc (Obj.map #[] 0)).alloc (Obj.map #[] 0)).heap.size = w.heap.size + 3 by simp] at h
   exact h
 · exact (((Ext.alloc w _).trans (Ext.alloc _ _)).trans (Ext.alloc _ _)).trans (Ext.alloc _ _)
 · simp; omega
def PostCls (w : World) (f : List (List Int)) (e : Ending) (w' : World) : Prop := ∃ v L, e = .returned v ∧ RLL w' v L ∧ Ext w w' ∧ (mayCnfB f = false → L = []) ∧ (mayCnfB f = true → ClassesP f L)
set_option maxRecDepth 100000 in
set_option maxHeartbeats 8000000 in
theorem classes_any (f : List (List Int)) (u : Value) (w : World) (kr : RLL w u f) (h64 : All64L f) (ht : f.length ≤ 20000 → total f ≤ 9223372036854775807) :
 Calls Tryz.prog 17 #[u] w (PostCls w f) := by
 have HKR := Lib.hid kr
 have HM := Lib.hid (fun w' (hE : Ext w w') => mayCnf_any u f w' (RLL.ext' kr hE) h64 ht)
 clear kr
 cases hm : mayCnfB f
 · have HMF := Lib.hid hm
   rw [hm] at HM
   clear hm
   go_enter Tryz.func17, Tryz.ntmps17
   go_wp2_with (go_at_call 37; refine (HM.out _ (Ext.refl _)).mono ?_; rintro e w1 ⟨rfl, hE⟩; have HE := Lib.hid hE; clear hE)
   go_ret
   exact ⟨_, [], rfl, RLL.none _, HE.out, fun _ => rfl, fun h => by rw [HMF.out] at h; cases h⟩
 · rw [hm] at HM
   have HMM := Lib.hid hm
   clear hm
   go_enter Tryz.func17, Tryz.ntmps17
   have hmm := @run_makeMap Tryz.prog
   go_upto_region 4 with (first
    | (go_at_call 37; refine (HM.out _ (Ext.refl _)).mono ?_; rintro e w1 ⟨rfl, hE⟩; have HE := Lib.hid hE; clear hE)
    | (go_at_call 39; refine (implications_any f _ _ h64 (RLL.ext' HKR.out HE.out) HMM.out).mono ?_; rintro e w2 ⟨g, ks, rfl, hg, hE⟩; have HG := Lib.hid (GM.reads hg); have HE2 := Lib.hid (HE.out.trans hE); clear hg hE))
   obtain ⟨W, hW, m1, m2, m3, hb, hEW, hsW⟩ := fin_new w2 g
   have HB := Lib.hid hb
   have HM1 := Lib.hid m1
   have HM2 := Lib.hid m2
   have HM3 := Lib.hid m3
   have HEW := Lib.hid hEW
   have hWf : Hid (W = (((w2.alloc (Obj.map #[] 0)).alloc (Obj.map #[] 0)).alloc (Obj.map #[] 0)).alloc (Obj.cells #[Value.map (some g), Value.map (some w2.heap.size), Value.map (some (w2.heap.size + 1)), Value.map (some (w2.heap.size + 1 + 1)), Value.slice none 0 0, Value.slice none 0 0] 80)) := Lib.hid hW
   clear hb m1 m2 m3 hEW hW
   go_wp2_with (go_at_call 46
                rw [← hWf.out]
                refine (literals_any f g ks _ (HG.out.ext HEW.out) HMM.out (by have := keys_len HG.out; have := mayCnfB_len HMM.out; omega)).mono ?_
                rintro e w3 ⟨v3, rfl, ho, hE⟩
                have HS := Lib.hid (TW.start (HG.out.ext (HEW.out.trans hE)) (fun k hk => HG.out.lt hk) (HM1.out.ext hE) (HM2.out.ext hE) (HM3.out.ext hE) ((hE.chg (fun _ => False)).blk HB.out id) (own_lower ho hsW))
                have HE3 : Hid (Ext w w3) := Lib.hid (HE2.out.trans (HEW.out.trans hE))
                obtain ⟨LA, lc, hv3, hl1, hl2, -⟩ := OwnI.reads ho
                subst hv3
                clear ho hE)
   obtain ⟨B, hB⟩ : ∃ B : FB, B = ⟨w2.heap.size + 3, g, w2.heap.size, w2.heap.size + 1, w2.heap.size + 2, ks, .slice LA (graphLits f).length lc, graphLits f⟩ := ⟨_, rfl⟩
   have hF : w2.heap.size + 1 + 1 + 1 = B.F := by rw [hB]
   have HLV : Hid (B.lv = .slice LA (graphLits f).length lc) := Lib.hid (by rw [hB])
   have HLX : Hid (B.lx = graphLits f) := Lib.hid (by rw [hB])
   rw [← hB] at HS
   rw [hF]
   have hbw : w.heap.size ≤ w2.heap.size := HE2.out.size
   obtain ⟨base, hbase⟩ : ∃ base, base = w2.heap.size := ⟨_, rfl⟩
   rw [← hbase] at HS hbw
   have hU : (graphLits f).length ≤ 100000 := by have := graphLits_len f; have := mayCnfB_len HMM.out; omega
   have HUL := Lib.hid hU
   obtain ⟨L, hL⟩ : ∃ L, L = (graphLits f).length := ⟨_, rfl⟩
   rw [← hL] at hl1 hl2 hU HLV
   rw [← hL]
   have HL := Lib.hid hL
   clear hB hF hbase hL hsW hmm
   go_loopg [24] L (fun gn i wr => ∃ k pv cv vs, k ≤ L ∧ gn + k = L ∧ i = .int .i64 (k : Int) ∧ Hid (TW base f B wr pv cv vs (tAll (nbL f) (graphLits f) ((graphLits f).take k))) ∧ Hid (TV (nbL f) (graphLits f) (tAll (nbL f) (graphLits f) ((graphLits f).take k)) []) ∧ Hid (Chg (fun i => base ≤ i) w3 wr))
   case atStart => exact ⟨0, _, _, _, Nat.zero_le _, by omega, rfl, HS, Lib.hid (t0_TV _ _), Lib.hid (Chg.refl _ _)⟩
   case round =>
    obtain ⟨k, pv, cv, vs, hk, hgk, rfl, HT, HTV, HC⟩ := hrel
    obtain ⟨w4, rfl⟩ : ∃ w4 : World, w4 = wr := ⟨_, rfl⟩
    by_cases hlt : k < L
    · have hkf : k < (graphLits f).length := Nat.lt_of_lt_of_le hlt (Nat.le_of_eq HL.out)
      obtain ⟨ad, had, hcell⟩ : ∃ ad, LA = some ad ∧ w4.cell? (ad.add k) = some (.int .i64 (graphLits f)[k]) := by
       have h1 := HT.out.lit
       rw [HLX.out] at h1
       obtain ⟨A', c', e1, -, -, e4⟩ := OwnI.reads h1
       rw [HLV.out] at e1
       injection e1 with a1 a2 a3
       subst a1
       exact e4.int k hkf
      subst had
      have hsn : tAll (nbL f) (graphLits f) ((graphLits f).take (k + 1)) = tOne (nbL f) (graphLits f) (tAll (nbL f) (graphLits f) ((graphLits f).take k)) (graphLits f)[k] := by
       rw [List.take_succ_eq_append_getElem hkf, tAll_snoc]
      have hym : (graphLits f)[k] ∈ graphLits f := List.getElem_mem hkf
      generalize (graphLits f)[k] = y at hcell hsn hym
      obtain ⟨s, hs⟩ : ∃ s, s = tAll (nbL f) (graphLits f) ((graphLits f).take k) := ⟨_, rfl⟩
      rw [← hs] at HT HTV hsn
      have c1 := HT.out.fb.cell 1
      simp only [List.getElem?_cons_zero, List.getElem?_cons_succ] at c1
      have hln := HT.out.lkn y
      obtain ⟨ny, hny⟩ : ∃ ny, ny = s.num y := ⟨_, rfl⟩
      rw [← hny] at hln
      have HNY := Lib.hid hny
      have HSN := Lib.hid hsn
      have HYM := Lib.hid hym
      have hwrk : IntKind.i64.wrap ((k : Int) + 1) = (k : Int) + 1 := IntWalk.i64_in _ (by omega)
      clear hs hny hsn hym hkf
      by_cases hz : ny = 0
      · subst hz
        go_wp2_with (go_at_call 50; refine (visit_any base f B _ pv cv vs s HT.out HTV.out y HNY.out.symm HYM.out HUL.out (graphLits_nodup f) (graphLits_nb f)).mono ?_; rintro e w5 ⟨pv5, cv5, vs5, rfl, ht, htv, hc⟩; have HT5 := Lib.hid ht; have HTV5 := Lib.hid htv; have HC5 := Lib.hid (HC.out.trans hc); clear ht htv hc)
        go_roundg (L - (k + 1))
        case measure => omega
        case rel =>
         have e : tAll (nbL f) (graphLits f) ((graphLits f).take (k + 1)) = tVisit (nbL f) (graphLits f) s y := by rw [HSN.out]; unfold tOne; rw [if_pos HNY.out.symm]
         exact ⟨k + 1, pv5, cv5, vs5, by omega, by omega, by go_num, by rw [e]; exact HT5, by rw [e]; exact HTV5, HC5⟩
      · have hzb : (ny == 0) = false := by simpa using hz
        go_wp2
        go_roundg (L - (k + 1))
        case measure => omega
        case rel =>
         have e : tAll (nbL f) (graphLits f) ((graphLits f).take (k + 1)) = s := by rw [HSN.out]; unfold tOne; rw [if_neg (by rw [← HNY.out]; exact hz)]
         exact ⟨k + 1, pv, cv, vs, by omega, by omega, by go_num, by rw [e]; exact HT, by rw [e]; exact HTV, HC⟩
    · obtain rfl : k = L := by omega
      have htk : (graphLits f).take k = graphLits f := by rw [HL.out, List.take_length]
      rw [htk] at HT HTV
      obtain ⟨T, hT⟩ : ∃ T, T = tAll (nbL f) (graphLits f) (graphLits f) := ⟨_, rfl⟩
      rw [← hT] at HT HTV
      have HTT := Lib.hid hT
      clear htk hT
      have c5 := HT.out.fb.cell 5
      simp only [List.getElem?_cons_zero, List.getElem?_cons_succ] at c5
      obtain ⟨CA, cc, hcv, q1, q2, -⟩ := own_row HT.out.cls.1
      rw [hcv] at c5
      have HCV := Lib.hid hcv
      clear hcv
      obtain ⟨v1, v2, v3, v4, v5⟩ := HT.out.cls
      obtain ⟨n, hn⟩ : ∃ n, n = vs.length := ⟨_, rfl⟩
      have HN := Lib.hid hn
      rw [← hn] at q1 q2 c5
      have HV2 := Lib.hid v2
      have HV3 := Lib.hid v3
      have HV5 := Lib.hid v5
      have HV1 : Hid (w4.ownsRow base 24 1 (.slice CA n cc) n vs) := Lib.hid (by rw [HCV.out] at v1; rw [hn]; exact v1)
      have hnl : n ≤ 1000000 := by have := HTV.out.clsl; have := HUL.out; omega
      have hb4 : base ≤ w4.heap.size := HT.out.sz
      have HCF : Hid (∀ C ∈ T.cls, C.Nodup ∧ C.length ≤ 1000000 ∧ All64 C ∧ ∀ x ∈ C, varOf x ≠ 0) := Lib.hid (fun C hC => by
       have hsub : ∀ x ∈ C, x ∈ graphLits f := fun x hx => HTV.out.inU x ((HTV.out.ti.ent x).2 (.inr (List.mem_flatten.2 ⟨C, hC, hx⟩)))
       have hnd : C.Nodup := (List.pairwise_flatten.1 HTV.out.ti.clsn).1 C hC
       have hvar : ∀ x ∈ C, varOf x ≠ 0 := fun x hx => by
        rcases (mem_graphLits f x).1 (hsub x hx) with h | h
        · exact lits2_var HMM.out x h
        · have := lits2_var HMM.out _ h; rwa [varOf_neg] at this
       refine ⟨hnd, ?_, fun x hx => ?_, hvar⟩
       · have := nodup_len C (graphLits f) hnd hsub
         have := HUL.out; omega
       · have := varOf_eq (hvar x hx)
         have := varOf_range x
         unfold I64; omega)
      obtain ⟨i0, hi, hz0, hz1, hz2⟩ := info_parts info_ints
      have HI := Lib.hid hi
      have HZ := Lib.hid hz0
      have HZ1 := Lib.hid hz1
      have HZ2 := Lib.hid hz2
      clear hn v1 v2 v3 v4 v5 hi hz0 hz1 hz2
      go_wp2
      go_loopg [7, 44] n (fun gn ov i wr => ∃ (k2 : Nat) (ps : List (Value × List Int)), k2 ≤ n ∧ gn + k2 = n ∧ i = .int .i64 (k2 : Int) ∧ Hid (ps.length ≤ k2) ∧ Hid (wr.ownsRow base 24 1 (.slice CA n cc) n vs) ∧
       Hid (∀ (j : Nat) (h : j < vs.length) (h' : j < T.cls.length), (j < k2 → OwnI wr base vs[j] (setL [] T.cls[j])) ∧ (k2 ≤ j → OwnI wr base vs[j] T.cls[j])) ∧
       Hid (wr.ownsRow w4.heap.size 24 1 ov ps.length (ps.map Prod.fst)) ∧ Hid (ps = [] → ov = .slice none 0 0) ∧ Hid (ps.map Prod.snd = ((T.cls.take k2).map (setL [])).filter goodC) ∧
       Hid (∀ p ∈ ps, ∃ (j : Nat) (h : j < vs.length) (h' : j < T.cls.length), j < k2 ∧ p = (vs[j], setL [] T.cls[j])) ∧ Hid (Chg (fun i => base ≤ i) w4 wr) ∧ Hid (w4.heap.size ≤ wr.heap.size))
      case atStart =>
       exact ⟨0, [], Nat.zero_le _, by omega, rfl, Lib.hid (Nat.le_refl _), HV1, Lib.hid (fun j h h' => ⟨fun h0 => absurd h0 (Nat.not_lt_zero j), fun _ => HV3.out j h h'⟩), Lib.hid (World.ownsRow_nil _ _ _ 1), Lib.hid (fun _ => rfl), Lib.hid rfl, Lib.hid (fun p hp => by cases hp), Lib.hid (Chg.refl _ _), Lib.hid (Nat.le_refl _)⟩
      case round =>
       obtain ⟨k2, ps, hk2, hgk2, rfl, HPL, HR1, HR2, HR3, HR4, HR5, HR6, HR7, HR8⟩ := hrel
       obtain ⟨w5, rfl⟩ : ∃ w5 : World, w5 = wr := ⟨_, rfl⟩
       by_cases hlt2 : k2 < n
       · have hkv : k2 < vs.length := Nat.lt_of_lt_of_le hlt2 (Nat.le_of_eq HN.out)
         have hkc : k2 < T.cls.length := by rw [← HV2.out]; exact hkv
         have hrow : Row w5 CA vs := by
          have h1 := HR1.out
          have h2 : w5.ownsRow base 24 1 (.slice CA n cc) vs.length vs := by rw [← HN.out]; exact h1
          obtain ⟨A', c', e1, -, -, e4⟩ := own_row h2
          injection e1 with a1 a2 a3
          subst a1; exact e4
         obtain ⟨ad, had, hcell⟩ := hrow k2 hkv
         subst had
         have hk2own := (HR2.out k2 hkv hkc).2 (Nat.le_refl _)
         have hcf := HCF.out T.cls[k2] (List.getElem_mem hkc)
         obtain ⟨vk, hvk⟩ : ∃ vk, vk = vs[k2] := ⟨_, rfl⟩
         obtain ⟨C, hC⟩ : ∃ C, C = T.cls[k2] := ⟨_, rfl⟩
         rw [← hvk] at hcell hk2own
         rw [← hC] at hk2own hcf
         have HVK : Hid (∃ h : k2 < vs.length, vk = vs[k2]) := Lib.hid ⟨hkv, hvk⟩
         have HCC : Hid (∃ h : k2 < T.cls.length, C = T.cls[k2]) := Lib.hid ⟨hkc, hC⟩
         have HKO := Lib.hid hk2own
         have HCF2 := Lib.hid hcf
         have hwrk : IntKind.i64.wrap ((k2 : Int) + 1) = (k2 : Int) + 1 := IntWalk.i64_in _ (by omega)
         obtain ⟨Ak, ck, hvke, -⟩ := OwnI.reads hk2own
         obtain ⟨nk, hnk⟩ : ∃ nk, nk = C.length := ⟨_, rfl⟩
         rw [← hnk] at hvke
         have HNK := Lib.hid hnk
         have hnk1 : nk ≤ 1000000 := by rw [hnk]; exact hcf.2.1
         subst hvke
         clear hkv hkc hrow hk2own hcf hvk hC hnk
         go_wp2_with (go_at_call 51; refine (SortE_own C _ base w5 HKO.out (by have := HCF2.out.2.1; omega) HCF2.out.2.2.1).mono ?_; rintro e w6 ⟨ys, rfl, ho, hgr, hp, hso⟩; have hys := sortE_set hp hso HCF2.out.1 HCF2.out.2.2.2; subst hys; have HO6 := Lib.hid ho; have HG6 := Lib.hid (grown_chg hgr); have HPE := Lib.hid hp; clear ho hgr hp hso)
         obtain ⟨ov, rfl⟩ : ∃ ov : Value, ov = u7 := ⟨_, rfl⟩
         have hR1b : w6.drew.ownsRow base 24 1 (.slice (some ad) n cc) n vs := own_ext (HG6.out.own HR1.out (fun b hb hs => own_neb HR1.out HKO.out (by decide) hb hs.symm)) (Ext.drew w6)
         have hR3b : w6.drew.ownsRow w4.heap.size 24 1 ov ps.length (ps.map Prod.fst) := own_ext (HG6.out.own HR3.out (fun b hb hs => own_neb HR3.out HKO.out (by decide) hb hs.symm)) (Ext.drew w6)
         have hR2b : ∀ (j : Nat) (h : j < vs.length) (h' : j < T.cls.length), (j < k2 + 1 → OwnI w6.drew base vs[j] (setL [] T.cls[j])) ∧ (k2 + 1 ≤ j → OwnI w6.drew base vs[j] T.cls[j]) := fun j h h' => by
          obtain ⟨g1, hvk⟩ := HVK.out
          obtain ⟨g2, hC⟩ := HCC.out
          have hp5 := List.pairwise_iff_getElem.1 HV5.out
          refine ⟨fun hj => ?_, fun hj => ?_⟩
          · by_cases e : j = k2
            · subst e
              rw [← hvk, ← hC]
              exact own_ext HO6.out (Ext.drew w6)
            · have h1 := (HR2.out j h h').1 (by omega)
              refine own_ext (HG6.out.own h1 (fun b hb hs => ?_)) (Ext.drew w6)
              rw [hvk] at hs
              exact hp5 j k2 h g1 (by omega) b hb hs.symm
          · have h1 := (HR2.out j h h').2 (by omega)
            refine own_ext (HG6.out.own h1 (fun b hb hs => ?_)) (Ext.drew w6)
            rw [hvk] at hs
            exact hp5 k2 j g1 h (by omega) b hs.symm hb
         have hR6b : ∀ p ∈ ps, ∃ (j : Nat) (h : j < vs.length) (h' : j < T.cls.length), j < k2 + 1 ∧ p = (vs[j], setL [] T.cls[j]) := fun p hp => by
          obtain ⟨j, h, h', h1, h2⟩ := HR6.out p hp
          exact ⟨j, h, h', by omega, h2⟩
         have hR5b : ((T.cls.take (k2 + 1)).map (setL [])).filter goodC = ps.map Prod.snd ++ (if goodC (setL [] C) = true then [setL [] C] else []) := by
          obtain ⟨g2, hC⟩ := HCC.out
          rw [List.take_succ_eq_append_getElem g2, List.map_append, List.filter_append, ← HR5.out, ← hC]
          congr 1
          cases hgd : goodC (setL [] C) <;> simp [hgd]
         have hR7b : Chg (fun i => base ≤ i) w4 w6.drew := HR7.out.trans ((HG6.out.mono fun i hi => (own_typed HKO.out hi.symm).1).trans ((Ext.drew w6).chg _))
         have hR8b : w4.heap.size ≤ w6.drew.heap.size := Nat.le_trans HR8.out (Nat.le_trans HG6.out.size (Ext.drew w6).size)
         have H1B := Lib.hid hR1b
         have H2B := Lib.hid hR2b
         have H3B := Lib.hid hR3b
         have H5B := Lib.hid hR5b
         have H6B := Lib.hid hR6b
         have H7B := Lib.hid hR7b
         have H8B := Lib.hid hR8b
         clear hR1b hR2b hR3b hR5b hR6b hR7b hR8b
         have HLEN : Hid (nk = (setL [] C).length) := Lib.hid (by rw [HNK.out, HPE.out.length_eq])
         by_cases h1 : 1 < nk
         · obtain ⟨a0, a1, rr, hse⟩ : ∃ a0 a1 rr, setL [] C = a0 :: a1 :: rr := by
            have := HLEN.out
            match hq : setL [] C with
            | [] => rw [hq] at this; simp at this; omega
            | [_] => rw [hq] at this; simp at this; omega
            | a0 :: a1 :: rr => exact ⟨a0, a1, rr, rfl⟩
           have hrd := OwnI.reads HO6.out
           rw [hse] at hrd
           obtain ⟨A', c', e1, -, -, e4⟩ := hrd
           injection e1 with a1' a2' a3'
           subst a1' a3'
           obtain ⟨ad2, had2, cc0⟩ := e4.int 0 (by simp)
           obtain ⟨ad3, had3, cc1⟩ := e4.int 1 (by simp)
           rw [had2] at had3
           injection had3 with had3
           subst had3 had2
           obtain ⟨g9, hg9⟩ : ∃ g9, ad2 = ⟨g9, 0, none⟩ := by
            obtain ⟨-, ⟨h, -⟩ | ⟨g9, cap9, cur, he, -⟩⟩ := HO6.out
            · cases h
            · injection he with he
              injection he with he
              exact ⟨g9, he⟩
           subst hg9
           rw [addr0] at cc0 cc1
           simp only [List.getElem_cons_zero, List.getElem_cons_succ] at cc0 cc1
           have hva : varOf a0 ≠ 0 := HCF2.out.2.2.2 a0 (HPE.out.mem_iff.1 (by rw [hse]; simp))
           have hva1 := varOf_eq hva
           have hva2 := varOf_range a0
           have hneg : IntKind.i64.wrap (-a0) = -a0 := IntWalk.i64_in _ (by omega)
           have HSE := Lib.hid hse
           clear hse a2' e4 hva hva1 hva2
           have h1i : (1 : Int) < (nk : Int) := by omega
           have h1b : decide ((1 : Int) < (nk : Int)) = true := decide_eq_true h1i
           have hn0 : 0 < nk := by omega
           by_cases p0 : 0 < a0
           · have p0b : decide (0 < a0) = true := by simpa using p0
             have HGD : Hid (goodC (setL [] C) = true) := Lib.hid (by rw [HSE.out]; unfold goodC; simp [p0])
             go_region
             generalize w6.drew = w7 at H1B H2B H3B H7B H8B ⊢
             go_wp2_with (at_builtin; refine wpList_append_own _ rfl (.tmp 69) (.tmp 71) 22 rfl w4.heap.size 24 i0 (.slice none 0 0) 1 24 Tryz.underlying22 HI.out HZ.out HZ1.out HZ2.out rfl (by decide) _ ps.length (ps.map Prod.fst) rfl (own_ext H3B.out (Ext.alloc w7 _)) ⟨w7.heap.size, 0, none⟩ 1 1 [.slice (some ⟨g9, 0, none⟩) nk ck] rfl rfl (one_cell w7 _ _) (by simp [Value.oneCell']) (by have := HPL.out; unfold maxLen; omega) (by have := HPL.out; omega) (by have := H8B.out; simp; omega) ?_; intro v' w8 hown hgr hnil; have HO8 := Lib.hid hown; have HG8 := Lib.hid (grown_chg hgr); have HNI := Lib.hid hnil; clear hown hgr hnil)
             go_roundg (n - (k2 + 1))
             case measure => omega
             case rel =>
              have hc8 : Chg (fun i => some i = ov.ownBlock) w7 w8 := ((Ext.alloc w7 _).chg _).trans HG8.out
              refine ⟨k2 + 1, ps ++ [(.slice (some ⟨g9, 0, none⟩) nk ck, setL [] C)], by omega, by omega, by go_num, Lib.hid (by have := HPL.out; rw [List.length_append, List.length_singleton]; omega), Lib.hid ?_, Lib.hid ?_, Lib.hid ?_, Lib.hid ?_, Lib.hid ?_, Lib.hid ?_, Lib.hid ?_, Lib.hid ?_⟩
              · exact hc8.own H1B.out (fun b hb hs => by
                 have h1 := (own_typed H3B.out hs.symm).1
                 have h2 := (own_typed HV1.out hb).2.1
                 omega)
              · exact fun j h h' => ⟨fun hj => hc8.own ((H2B.out j h h').1 hj) (fun b hb hs => own_neb ((H2B.out j h h').1 hj) H3B.out (by decide) hb hs.symm), fun hj => hc8.own ((H2B.out j h h').2 hj) (fun b hb hs => own_neb ((H2B.out j h h').2 hj) H3B.out (by decide) hb hs.symm)⟩
              · rw [List.map_append, List.length_append]; exact HO8.out
              · intro h; simp at h
              · rw [H5B.out, HGD.out, if_pos rfl, List.map_append]; rfl
              · intro p hp
                rcases List.mem_append.1 hp with hp | hp
                · exact H6B.out p hp
                · obtain ⟨g1, hvk⟩ := HVK.out
                  obtain ⟨g2, hC⟩ := HCC.out
                  simp at hp
                  exact ⟨k2, g1, g2, by omega, by rw [hp, ← hC, ← hvk]⟩
              · exact H7B.out.trans (hc8.mono fun i hi => by have := (own_typed H3B.out hi.symm).1; omega)
              · exact Nat.le_trans H8B.out hc8.size
           · have p0b : decide (0 < a0) = false := by simpa using p0
             by_cases q0 : a1 = -a0
             · have q0b : (a1 == -a0) = true := by simpa using q0
               have Q0 := Lib.hid q0
               clear q0
               have HGD : Hid (goodC (setL [] C) = true) := Lib.hid (by rw [HSE.out]; unfold goodC; simp [Q0.out])
               go_region
               generalize w6.drew = w7 at H1B H2B H3B H7B H8B ⊢
               go_wp2_with (at_builtin; refine wpList_append_own _ rfl (.tmp 69) (.tmp 71) 22 rfl w4.heap.size 24 i0 (.slice none 0 0) 1 24 Tryz.underlying22 HI.out HZ.out HZ1.out HZ2.out rfl (by decide) _ ps.length (ps.map Prod.fst) rfl (own_ext H3B.out (Ext.alloc w7 _)) ⟨w7.heap.size, 0, none⟩ 1 1 [.slice (some ⟨g9, 0, none⟩) nk ck] rfl rfl (one_cell w7 _ _) (by simp [Value.oneCell']) (by have := HPL.out; unfold maxLen; omega) (by have := HPL.out; omega) (by have := H8B.out; simp; omega) ?_; intro v' w8 hown hgr hnil; have HO8 := Lib.hid hown; have HG8 := Lib.hid (grown_chg hgr); have HNI := Lib.hid hnil; clear hown hgr hnil)
               go_roundg (n - (k2 + 1))
               case measure => omega
               case rel =>
                have hc8 : Chg (fun i => some i = ov.ownBlock) w7 w8 := ((Ext.alloc w7 _).chg _).trans HG8.out
                refine ⟨k2 + 1, ps ++ [(.slice (some ⟨g9, 0, none⟩) nk ck, setL [] C)], by omega, by omega, by go_num, Lib.hid (by have := HPL.out; rw [List.length_append, List.length_singleton]; omega), Lib.hid ?_, Lib.hid ?_, Lib.hid ?_, Lib.hid ?_, Lib.hid ?_, Lib.hid ?_, Lib.hid ?_, Lib.hid ?_⟩
                · exact hc8.own H1B.out (fun b hb hs => by
                   have h1 := (own_typed H3B.out hs.symm).1
                   have h2 := (own_typed HV1.out hb).2.1
                   omega)
                · exact fun j h h' => ⟨fun hj => hc8.own ((H2B.out j h h').1 hj) (fun b hb hs => own_neb ((H2B.out j h h').1 hj) H3B.out (by decide) hb hs.symm), fun hj => hc8.own ((H2B.out j h h').2 hj) (fun b hb hs => own_neb ((H2B.out j h h').2 hj) H3B.out (by decide) hb hs.symm)⟩
                · rw [List.map_append, List.length_append]; exact HO8.out
                · intro h; simp at h
                · rw [H5B.out, HGD.out, if_pos rfl, List.map_append]; rfl
                · intro p hp
                  rcases List.mem_append.1 hp with hp | hp
                  · exact H6B.out p hp
                  · obtain ⟨g1, hvk⟩ := HVK.out
                    obtain ⟨g2, hC⟩ := HCC.out
                    simp at hp
                    exact ⟨k2, g1, g2, by omega, by rw [hp, ← hC, ← hvk]⟩
                · exact H7B.out.trans (hc8.mono fun i hi => by have := (own_typed H3B.out hi.symm).1; omega)
                · exact Nat.le_trans H8B.out hc8.size
             · have q0b : (a1 == -a0) = false := by simpa using q0
               have HGD : Hid (goodC (setL [] C) = false) := Lib.hid (by rw [HSE.out]; unfold goodC; simp [q0, p0])
               go_region
               generalize w6.drew = w7 at H1B H2B H3B H7B H8B ⊢
               go_wp2
               go_roundg (n - (k2 + 1))
               case measure => omega
               case rel => exact ⟨k2 + 1, ps, by omega, by omega, by go_num, Lib.hid (by have := HPL.out; omega), H1B, H2B, H3B, HR4, Lib.hid (by rw [H5B.out, HGD.out, if_neg (by simp), List.append_nil]), H6B, H7B, H8B⟩
         · have h1i : ¬ (1 : Int) < (nk : Int) := by omega
           have h1b : decide ((1 : Int) < (nk : Int)) = false := decide_eq_false h1i
           have h1c : nk ≤ 1 := by omega
           have HGD : Hid (goodC (setL [] C) = false) := Lib.hid (by unfold goodC; rw [← HLEN.out]; simp [h1])
           go_region
           generalize w6.drew = w7 at H1B H2B H3B H7B H8B ⊢
           go_wp2
           go_roundg (n - (k2 + 1))
           case measure => omega
           case rel => exact ⟨k2 + 1, ps, by omega, by omega, by go_num, Lib.hid (by have := HPL.out; omega), H1B, H2B, H3B, HR4, Lib.hid (by rw [H5B.out, HGD.out, if_neg (by simp), List.append_nil]), H6B, H7B, H8B⟩
       · obtain rfl : k2 = n := by omega
         obtain ⟨ov, rfl⟩ : ∃ ov : Value, ov = u7 := ⟨_, rfl⟩
         have hall : ∀ p ∈ ps, OwnI w5 base p.1 p.2 ∧ All64 p.2 ∧ p.2 ≠ [] := fun p hp => by
          obtain ⟨j, h, h', hj, he⟩ := HR6.out p hp
          have hm : p.2 ∈ ps.map Prod.snd := List.mem_map.2 ⟨p, hp, rfl⟩
          rw [HR5.out] at hm
          have hg := (List.mem_filter.1 hm).2
          obtain ⟨C, hC, hCe⟩ := List.mem_map.1 (List.mem_filter.1 hm).1
          refine ⟨by rw [he]; exact (HR2.out j h h').1 hj, fun x hx => ?_, fun h0 => ?_⟩
          · rw [← hCe, mem_setL] at hx
            rcases hx with hx | hx
            · cases hx
            · exact (HCF.out C (List.mem_of_mem_take hC)).2.2.1 x hx
          · rw [h0] at hg; simp [goodC] at hg
         obtain ⟨qs0, hqs⟩ := lift_sub ps hall
         have hq1 : (qs0.map fun p => p.1.1) = ps.map Prod.fst := by rw [← hqs, List.map_map]; rfl
         have hq2 : (qs0.map fun p => p.1.2) = ps.map Prod.snd := by rw [← hqs, List.map_map]; rfl
         have hql : qs0.length = ps.length := by rw [← hqs, List.length_map]
         have HSO := Lib.hid (sortHL w5 base w4.heap.size qs0 ov (by rw [hql, hq1]; exact HR3.out) (by have := HPL.out; omega) (fun h => HR4.out (by rw [← hqs, h]; rfl)))
         have HQ2 := Lib.hid hq2
         clear hall hqs hq1 hq2 hql
         go_wp2_with (go_at_call 52; refine HSO.out.mono ?_; rintro e w6 ⟨qs, rfl, ho, hgr, hpe, hso⟩; have HO6 := Lib.hid ho; have HG6 := Lib.hid hgr; have HPE := Lib.hid hpe; have HSS := Lib.hid hso; clear ho hgr hpe hso)
         go_ret
         have hgc := grown_chg HG6.out
         refine ⟨_, qs.map (fun p => p.1.2), rfl, ?_, ?_, fun h => (by rw [HMM.out] at h; cases h), fun _ => ⟨?_, ?_⟩⟩
         · have h1 : w6.ownsRow w4.heap.size 24 1 ov (qs.map fun p => p.1.1).length (qs.map fun p => p.1.1) := by rw [List.length_map]; exact HO6.out
           obtain ⟨A', c', e1, l1, l2, l3⟩ := own_row h1
           refine ⟨A', c', _, e1, l1, l2, l3, by simp, fun j hj hj' => ?_⟩
           simp only [List.getElem_map]
           have hj2 : j < qs.length := by simpa using hj
           exact OwnI.reads (hgc.own (qs[j]).2.1 (fun b hb hs => own_neb (qs[j]).2.1 HR3.out (by decide) hb hs.symm))
         · have h1 := HC.out.toExt HE3.out (fun i hi => Nat.le_trans hbw hi)
           have h2 := HR7.out.toExt h1 (fun i hi => Nat.le_trans hbw hi)
           exact hgc.toExt h2 (fun i hi => by have := (own_typed HR3.out hi.symm).1; omega)
         · refine (HPE.out.map _).trans ?_
           rw [HQ2.out, HR5.out, HN.out, HV2.out, List.take_length]
           unfold clsOf
           rw [← HTT.out]
         · rw [List.pairwise_map]; exact HSS.out
end Go.Proofs.YtjecjaihficcdaaGreat
namespace Go.Proofs.YtjecjaihficcdaaGreat
open Go.RowKit
attribute [local go_sem ↓] Go.wp_at_zero Go.wp_at_succ
def encX (ps : List (Int × Value)) : List Value := ps.flatMap fun p => [.int .i64 p.1, p.2]
theorem encX_snoc (ps : List (Int × Value)) (p : Int × Value) : encX (ps ++ [p]) = encX ps ++ [.int .i64 p.1, p.2] := by unfold encX; rw [List.flatMap_append]; simp
theorem fin_neq {w : World} {base g n sz : Nat} {e e' : TypeId} {cur : List Value} {v : Value} {xs : List Value} (hb : Blk w g e cur) (h : w.ownsRow base e' sz v n xs) (hne : e ≠ e') : ¬ v.ownBlock = some g := fun hk => by
 obtain ⟨-, -, cur', h1⟩ := own_typed h hk
 unfold Blk at hb
 rw [hb] at h1
 injection h1 with h1
 injection h1 with _ h1
 exact hne h1
def OwnX (w : World) (base : Nat) (v : Value) (X : List (Int × List Int)) : Prop :=
 ∃ ps : List (Int × Value), w.ownsRow base 61 2 v X.length (encX ps) ∧ ps.length = X.length ∧ ∀ j (h : j < ps.length) (h' : j < X.length), ps[j].1 = X[j].1 ∧ OwnI w base ps[j].2 X[j].2
theorem OwnX.nil (w : World) (base : Nat) : OwnX w base (.slice none 0 0) [] := ⟨[], World.ownsRow_nil _ _ _ 2, rfl, fun j h => absurd h (Nat.not_lt_zero j)⟩
theorem info_dep : (Tryz.prog.info? 61).map (fun i => (i.zero, i.size, i.bytes)) = some (some (.agg #[.int .i64 0, .slice none 0 0]), 2, 32) := by kernel_rfl
theorem OwnX.keep {S : Nat → Prop} {w w' : World} {base : Nat} {v : Value} {X : List (Int × List Int)} (h : OwnX w base v X) (hc : Chg S w w') (hS : ∀ i, S i → ∀ cur : Array Value, w.heap[i]? = some (.cells cur 3 (0, 0)) ∨ w.heap[i]? = some (.cells cur 61 (0, 0)) → False) : OwnX w' base v X := by
 obtain ⟨ps, h1, h2, h3⟩ := h
 refine ⟨ps, hc.own h1 (fun k hk hs => ?_), h2, fun j hj hj' => ⟨(h3 j hj hj').1, hc.own (h3 j hj hj').2 (fun k hk hs => ?_)⟩⟩
 · obtain ⟨-, -, cur, hcur⟩ := own_typed h1 hk
   exact hS k hs cur (.inr hcur)
 · obtain ⟨-, -, cur, hcur⟩ := own_typed (h3 j hj hj').2 hk
   exact hS k hs cur (.inl hcur)
theorem OwnX.ext {w w' : World} {base : Nat} {v : Value} {X : List (Int × List Int)} (h : OwnX w base v X) (k : Ext w w') : OwnX w' base v X := h.keep (k.chg (fun _ => False)) (fun _ h => h.elim)
theorem OwnX.reads {w : World} {base : Nat} {v : Value} {X : List (Int × List Int)} (h : OwnX w base v X) : RX w v X := by
 obtain ⟨ps, ⟨h0, ⟨rfl, h1⟩ | ⟨g, cap, cur, rfl, hb, hg, hn, hm, hs, ht⟩⟩, h2, h3⟩ := h
 · have : X = [] := List.length_eq_zero_iff.1 h1
   subst this
   exact ⟨none, 0, [], rfl, Nat.le_refl _, by simp, rfl, fun j h => absurd h (Nat.not_lt_zero j)⟩
 · refine ⟨_, cap, ps.map Prod.snd, rfl, hn, by unfold maxLen at hm; omega, by rw [List.length_map, h2], fun j hj hj' => ?_⟩
   have hjp : j < ps.length := by rw [h2]; exact hj
   obtain ⟨e1, e2⟩ := h3 j hjp hj
   have hcell : ∀ i, i < 2 → w.cell? ⟨g, j * 2 + i, none⟩ = (encX ps)[j * 2 + i]? := fun i hi => by
    rw [cell_of_row w g _ cur _ (0, 0) hg]
    have h9 : (cur.toList.take (X.length * 2))[j * 2 + i]? = (encX ps)[j * 2 + i]? := by rw [ht]
    rw [List.getElem?_take_of_lt (by omega), Array.getElem?_toList] at h9
    exact h9
   have henc : ∀ (ps : List (Int × Value)) (j : Nat) (h : j < ps.length), (encX ps)[j * 2]? = some (.int .i64 ps[j].1) ∧ (encX ps)[j * 2 + 1]? = some ps[j].2 := by
    intro ps
    induction ps with
    | nil => intro j h; exact absurd h (Nat.not_lt_zero j)
    | cons p ps ih =>
      intro j h
      have e : encX (p :: ps) = .int .i64 p.1 :: p.2 :: encX ps := rfl
      cases j with
      | zero => rw [e]; exact ⟨rfl, rfl⟩
      | succ j =>
        have := ih j (by simpa using h)
        rw [e, show (j + 1) * 2 = j * 2 + 1 + 1 by omega]
        simp only [List.getElem?_cons_succ, List.getElem_cons_succ]
        exact this
   obtain ⟨q1, q2⟩ := henc ps j hjp
   refine ⟨_, rfl, ?_, ?_, ?_⟩
   · rw [addr0]; have := hcell 0 (by omega); rw [Nat.add_zero] at this; rw [this, q1, e1]
   · rw [addr0]; have := hcell 1 (by omega); show w.cell? ⟨g, j * 2 + 1, none⟩ = _; rw [this, q2, List.getElem_map]
   · rw [List.getElem_map]; exact OwnI.reads e2
theorem len_le_total {f : List (List Int)} {l : List Int} (h : l ∈ f) : l.length ≤ total f := by
 unfold total lens
 rw [List.take_length]
 induction f with
 | nil => cases h
 | cons c f ih =>
   rw [List.map_cons, List.sum_cons]
   rcases List.mem_cons.1 h with rfl | h
   · omega
   · have := ih h; omega
theorem mid_set (f : Int → Int) (l : List Int) (j : Nat) (h : j < l.length) : ((l.take j).map f ++ l.drop j).set j (f l[j]) = (l.take (j + 1)).map f ++ l.drop (j + 1) := by
 have e : ((l.take j).map f).length = j := by rw [List.length_map, List.length_take]; omega
 rw [List.set_append_right _ _ (by omega), e, Nat.sub_self, List.drop_eq_getElem_cons h, List.set_cons_zero, List.take_succ_eq_append_getElem h, List.map_append]
 simp
theorem mid_get (f : Int → Int) (l : List Int) (j : Nat) (h : j < l.length) (h2 : j < ((l.take j).map f ++ l.drop j).length) : ((l.take j).map f ++ l.drop j)[j] = l[j] := by
 have e : ((l.take j).map f).length = j := by rw [List.length_map, List.length_take]; omega
 rw [List.getElem_append_right (by omega)]
 simp only [List.getElem_drop]
 congr 1
 omega
theorem mid_len (f : Int → Int) (l : List Int) (j : Nat) : ((l.take j).map f ++ l.drop j).length = l.length := by simp; omega
theorem own_free {w : World} {base g n c j : Nat} {xs : List Int} (h : OwnI w base (.slice (some ⟨g, 0, none⟩) n c) xs) : w.frozen? ⟨g, j, none⟩ = false := by
 obtain ⟨-, ⟨he, -⟩ | ⟨g', cap, cur, he, hb, hg, -⟩⟩ := h
 · cases he
 · injection he with e1
   injection e1 with e1
   injection e1 with e1
   subst e1
   unfold World.frozen?
   simp [hg]
theorem own_setI {w : World} {base g n c : Nat} {xs : List Int} (h : OwnI w base (.slice (some ⟨g, 0, none⟩) n c) xs) (j : Nat) (y : Int) : OwnI (w.setCell ⟨g, j, none⟩ (.int .i64 y)) base (.slice (some ⟨g, 0, none⟩) n c) (xs.set j y) := by
 unfold OwnI at *
 obtain ⟨h0, ⟨he, -⟩ | ⟨g', cap, cur, he, hb, hg, hn, hm, hs, ht⟩⟩ := h
 · cases he
 · injection he with e1 e2 e3
   injection e1 with e1
   injection e1 with e1
   subst e1 e3
   refine ⟨by simp, .inr ⟨g, c, cur.setIfInBounds j (.int .i64 y), by rw [List.length_set, e2], hb, heap_setCell_same w g _ cur _ _ hg, by simpa using hn, hm, by simpa using hs, ?_⟩⟩
   rw [Array.toList_setIfInBounds, List.take_set]
   have this : List.take ((xs.set j y).length * 1) cur.toList = xs.map (Value.int .i64) := by simpa using ht
   rw [this, List.map_set]
theorem OwnLL.keep {S : Nat → Prop} {w w' : World} {base : Nat} {v : Value} {f : List (List Int)} (h : OwnLL w base v f) (hc : Chg S w w') (hS : ∀ i, S i → ∀ cur : Array Value, w.heap[i]? = some (.cells cur 3 (0, 0)) ∨ w.heap[i]? = some (.cells cur 24 (0, 0)) → False) : OwnLL w' base v f := by
 obtain ⟨vs, h1, h2, h3⟩ := h
 refine ⟨vs, hc.own h1 (fun k hk hs => ?_), h2, fun j hj hj' => hc.own (h3 j hj hj') (fun k hk hs => ?_)⟩
 · obtain ⟨-, -, cur, hcur⟩ := own_typed h1 hk
   exact hS k hs cur (.inr hcur)
 · obtain ⟨-, -, cur, hcur⟩ := own_typed (h3 j hj hj') hk
   exact hS k hs cur (.inl hcur)
theorem depX {base b7 gC capC nX : Nat} {wA wB wC : World} {u xv cv vB : Value} {X0 : List (Int × List Int)} {x : Int × List Int} {ps : List (Int × Value)} (hnX : nX = X0.length) (p1 : wA.ownsRow base 61 2 xv nX (encX ps)) (p2 : ps.length = nX)
 (p3 : ∀ j (h : j < ps.length) (h' : j < X0.length), ps[j].1 = X0[j].1 ∧ OwnI wA base ps[j].2 X0[j].2) (hAB : Ext wA wB) (hBB : Blk wB b7 27 [u, xv, cv]) (hob : OwnI wB base vB x.2)
 (hOC : wC.ownsRow base 61 2 (.slice (some ⟨gC, 0, none⟩) (nX + 1) capC) (nX + 1) (encX ps ++ [.int .i64 x.1, vB])) (hcC : Chg (fun i => some i = xv.ownBlock) wB wC) (hb7 : base ≤ b7) :
 Blk (wC.setCell ⟨b7, 1, none⟩ (.slice (some ⟨gC, 0, none⟩) (nX + 1) capC)) b7 27 [u, .slice (some ⟨gC, 0, none⟩) (nX + 1) capC, cv] ∧ OwnX (wC.setCell ⟨b7, 1, none⟩ (.slice (some ⟨gC, 0, none⟩) (nX + 1) capC)) base (.slice (some ⟨gC, 0, none⟩) (nX + 1) capC) (X0 ++ [x]) ∧
  Chg (fun i => base ≤ i) wB (wC.setCell ⟨b7, 1, none⟩ (.slice (some ⟨gC, 0, none⟩) (nX + 1) capC)) ∧ ∀ (vv : Value) (xs : List Int), OwnI wA base vv xs → OwnI (wC.setCell ⟨b7, 1, none⟩ (.slice (some ⟨gC, 0, none⟩) (nX + 1) capC)) base vv xs := by
 have hrow := own_ext p1 hAB
 have hbC := hcC.blk hBB (fun h => fin_neq hBB hrow (by decide) h.symm)
 have hset := Chg.set wC b7 1 (.slice (some ⟨gC, 0, none⟩) (nX + 1) capC)
 have hCD : Chg (fun i => some i = xv.ownBlock ∨ i = b7) wB (wC.setCell ⟨b7, 1, none⟩ (.slice (some ⟨gC, 0, none⟩) (nX + 1) capC)) := (hcC.mono fun i hi => .inl hi).trans (hset.mono fun i hi => .inr hi)
 have hint : ∀ {vv : Value} {xs : List Int}, OwnI wB base vv xs → OwnI (wC.setCell ⟨b7, 1, none⟩ (.slice (some ⟨gC, 0, none⟩) (nX + 1) capC)) base vv xs := fun ho => hCD.own ho (fun b hb hs => by
  rcases hs with hs | hs
  · exact own_neb ho hrow (by decide) hb hs.symm
  · exact fin_neq hBB ho (by decide) (hs ▸ hb))
 refine ⟨hbC.set 1 _, ⟨ps ++ [(x.1, vB)], ?_, ?_, ?_⟩, hCD.mono fun i hi => ?_, fun vv xs h => hint (own_ext h hAB)⟩
 · rw [encX_snoc, List.length_append, ← hnX]
   exact hset.own hOC (fun b hb hs => fin_neq hbC hOC (by decide) (hs ▸ hb))
 · rw [List.length_append, List.length_append, p2, ← hnX]; rfl
 · intro j hj hj'
   by_cases hjl : j < ps.length
   · have q1 : (ps ++ [(x.1, vB)])[j] = ps[j] := List.getElem_append_left hjl
     have hjx : j < X0.length := by rw [← hnX, ← p2]; exact hjl
     have q2 : (X0 ++ [x])[j] = X0[j] := List.getElem_append_left hjx
     rw [q1, q2]
     exact ⟨(p3 j hjl hjx).1, hint (own_ext (p3 j hjl hjx).2 hAB)⟩
   · have ej : j = ps.length := by rw [List.length_append, List.length_singleton] at hj; omega
     have ex : X0.length = ps.length := by rw [← hnX, ← p2]
     have q1 : (ps ++ [(x.1, vB)])[j] = (x.1, vB) := by rw [List.getElem_append_right (by omega)]; simp
     have q2 : (X0 ++ [x])[j] = x := by rw [List.getElem_append_right (by omega)]; simp
     rw [q1, q2]
     exact ⟨rfl, hint hob⟩
 · rcases hi with hi | hi
   · exact (own_typed hrow hi.symm).1
   · rw [hi]; exact hb7
structure OwnD (w : World) (base : Nat) (vu vx vc : Value) (d : DqV) : Prop where
 u : OwnI w base vu d.univ
 x : OwnX w base vx d.exist
 c : OwnLL w base vc d.clauses
theorem OwnD.reads {w : World} {base : Nat} {vu vx vc : Value} {d : DqV} (h : OwnD w base vu vx vc d) : RD w vu vx vc d := ⟨OwnI.reads h.u, h.x.reads, h.c.reads⟩
theorem OwnX.lower {w : World} {base base' : Nat} {v : Value} {X : List (Int × List Int)} (h : OwnX w base v X) (hb : base' ≤ base) : OwnX w base' v X := by
 obtain ⟨ps, h1, h2, h3⟩ := h
 exact ⟨ps, own_lower h1 hb, h2, fun j hj hj' => ⟨(h3 j hj hj').1, own_lower (h3 j hj hj').2 hb⟩⟩
theorem OwnD.lower {w : World} {base base' : Nat} {vu vx vc : Value} {d : DqV} (h : OwnD w base vu vx vc d) (hb : base' ≤ base) : OwnD w base' vu vx vc d := ⟨own_lower h.u hb, h.x.lower hb, h.c.lower hb⟩
def FarD (w : World) (i : Nat) : Prop := ∀ cur : Array Value, w.heap[i]? = some (.cells cur 3 (0, 0)) ∨ w.heap[i]? = some (.cells cur 61 (0, 0)) ∨ w.heap[i]? = some (.cells cur 24 (0, 0)) → False
theorem OwnD.keep {S : Nat → Prop} {w w' : World} {base : Nat} {vu vx vc : Value} {d : DqV} (h : OwnD w base vu vx vc d) (hc : Chg S w w') (hS : ∀ i, S i → FarD w i) : OwnD w' base vu vx vc d :=
 ⟨hc.own h.u (fun k hk hs => by
  obtain ⟨-, -, cur, hcur⟩ := own_typed h.u hk
  exact hS k hs cur (.inl hcur)),
  h.x.keep hc (fun i hi cur hh => hS i hi cur (hh.elim .inl fun h => .inr (.inl h))),
  h.c.keep hc (fun i hi cur hh => hS i hi cur (hh.elim .inl fun h => .inr (.inr h)))⟩
theorem OwnD.ext {w w' : World} {base : Nat} {vu vx vc : Value} {d : DqV} (h : OwnD w base vu vx vc d) (k : Ext w w') : OwnD w' base vu vx vc d := h.keep (k.chg (fun _ => False)) (fun _ h => h.elim)
def PostMakeO (w : World) (d : DqV) (e : Ending) (w' : World) : Prop := ∃ vu vx vc, e = .returned (.tuple #[.agg #[vu, vx, vc], .int .i64 0]) ∧ OwnD w' w.heap.size vu vx vc d ∧ Ext w w'
theorem PostMakeO.post {w w' : World} {d : DqV} {e : Ending} (h : PostMakeO w d e w') : PostMake w (d, 0) e w' := by
 obtain ⟨vu, vx, vc, h1, h2, h3⟩ := h
 exact ⟨vu, vx, vc, h1, h2.reads, h3⟩
set_option maxRecDepth 100000 in
set_option maxHeartbeats 8000000 in
theorem Make_own (d : DqV) (c : ChV) (vu vx vc : Value) (w : World) (hd : RD w vu vx vc d) (ok : DOk d) (cok : COk c) (hm : mayD d = true) (hyes : okCh d c = true) : Calls Tryz.prog 21 #[.agg #[vu, vx, vc], .agg (chArr c)] w (PostMakeO w (madeV d c)) := by
 have HM := Lib.hid (fun w' (h : Ext w w') => MayD_any d vu vx vc w' ok.x64 ok.c64 (hd.u.ext h) (hd.x.ext h) (RLL.ext' hd.c h) (fun _ => by have := ok.tot; omega) ok.xl ok.ul)
 have HAL := Lib.hid (fun w' (h : Ext w w') => allowed_any d vu vx vc c.lit c.tz w' (hd.ext h) ok cok.t)
 have HP1 := Lib.hid (fun w' (h : Ext w w') => pair_any d vu vx vc c.pos (-c.lit) c.tz w' (hd.ext h) ok)
 have HP2 := Lib.hid (fun w' (h : Ext w w') => pair_any d vu vx vc c.other c.lit (-c.tz) w' (hd.ext h) ok)
 have hh := hyes
 unfold okCh at hh
 simp only [Bool.and_eq_true, decide_eq_true_eq] at hh
 obtain ⟨h1, h2, hal, hp1, hp2⟩ := hh
 rw [hm] at HM
 rw [hal] at HAL
 rw [hp1] at HP1
 rw [hp2] at HP2
 have ht0 := (hasR_lit hm hp1).2
 have hte := varOf_eq ht0
 have htr := varOf_range c.tz
 have HD := Lib.hid hd
 have OK := Lib.hid ok
 obtain ⟨⟨UA, uc, hue, -⟩, ⟨XA, xc, ons, hxe, -⟩, ⟨CA, cc, us, hce, -, -, -, hcl4, -⟩⟩ := hd
 subst hue hxe hce
 have HCL4 := Lib.hid hcl4
 clear ok hm hyes hal hp1 hp2 hcl4
 unfold chArr
 obtain ⟨W, hW, B0, B1, B2, hEW, hsW⟩ := mk_new w (.slice UA d.univ.length uc) (.slice XA d.exist.length xc) (.slice CA us.length cc) c.kind c.lit c.tz c.pos c.other
 have HB0 := Lib.hid B0
 have HB1 := Lib.hid B1
 have HB2 := Lib.hid B2
 have HEW := Lib.hid hEW
 have HW := Lib.hid hW
 have HSW := Lib.hid hsW
 clear B0 B1 B2 hEW hsW hW
 obtain ⟨k, hk⟩ : ∃ k, k = c.kind := ⟨_, rfl⟩
 obtain ⟨x, hx⟩ : ∃ x, x = c.lit := ⟨_, rfl⟩
 obtain ⟨t, ht⟩ : ∃ t, t = c.tz := ⟨_, rfl⟩
 have hx64 := cok.l
 rw [← hk, ← hx, ← ht] at HB1 HW
 rw [← hx, ← ht] at HAL HP1 HP2
 rw [← hx] at hx64 h2
 rw [← hk] at h1
 rw [← ht] at hte htr ht0
 rw [← hk, ← hx, ← ht]
 have HMV : Hid (madeV d c = ⟨d.univ, d.exist.filter (fun y => !decide (y.1 = x)), d.clauses.filterMap (normC x t)⟩) := Lib.hid (by rw [hx, ht]; rfl)
 clear hk hx ht cok
 unfold I64 at hx64
 have h2b : decide (x ≤ 0) = false := decide_eq_false (by omega)
 have hnt : IntKind.i64.wrap (-t) = -t := IntWalk.i64_in _ (by omega)
 obtain ⟨nt, hnte⟩ : ∃ nt, nt = -t := ⟨_, rfl⟩
 have hnt2 : RowKit.wrap64 (-t) = nt := by rw [hnte, ← IntWalk.i64_left]; exact hnt
 rw [← hnte] at HP2
 have HNT := Lib.hid hnte
 have HTR : Hid (varOf t ≠ 0) := Lib.hid ht0
 subst h1
 clear hnte hnt hte htr ht0
 go_enter Tryz.func21, Tryz.ntmps21
 go_upto_region 7 with (first
  | (go_at_call 54; rw [← HW.out]; refine (HM.out _ HEW.out).mono ?_; rintro e w2 ⟨rfl, hE2⟩; have HE2 := Lib.hid hE2; have hbD := (hE2.chg (fun _ => False)).blk HB0.out id; have hbC := (hE2.chg (fun _ => False)).blk HB1.out id; have hbR := (hE2.chg (fun _ => False)).blk HB2.out id; have d0a := hbD.cell 0; have d1a := hbD.cell 1; have d2a := hbD.cell 2; have k0a := hbC.cell 0; have k1a := hbC.cell 1; have k2a := hbC.cell 2; have k3a := hbC.cell 3; have k4a := hbC.cell 4; simp only [List.getElem?_cons_zero, List.getElem?_cons_succ] at d0a d1a d2a k0a k1a k2a k3a k4a; clear hbD hbC hbR; clear hE2)
  | (go_at_call 56; refine (HAL.out _ (HEW.out.trans HE2.out)).mono ?_; rintro e w3 ⟨rfl, hE3⟩; have HE3 := Lib.hid (HE2.out.trans hE3); have hbD := ((HE2.out.trans hE3).chg (fun _ => False)).blk HB0.out id; have hbC := ((HE2.out.trans hE3).chg (fun _ => False)).blk HB1.out id; have hbR := ((HE2.out.trans hE3).chg (fun _ => False)).blk HB2.out id; have d0b := hbD.cell 0; have d1b := hbD.cell 1; have d2b := hbD.cell 2; have k0b := hbC.cell 0; have k1b := hbC.cell 1; have k2b := hbC.cell 2; have k3b := hbC.cell 3; have k4b := hbC.cell 4; simp only [List.getElem?_cons_zero, List.getElem?_cons_succ] at d0b d1b d2b k0b k1b k2b k3b k4b; clear hbD hbC hbR; clear hE3)
  | (go_at_call_of 58 (Value.int .i64 (-x)); refine (HP1.out _ (HEW.out.trans HE3.out)).mono ?_; rintro e w4 ⟨rfl, hE4⟩; have HE4 := Lib.hid (HE3.out.trans hE4); have hbD := ((HE3.out.trans hE4).chg (fun _ => False)).blk HB0.out id; have hbC := ((HE3.out.trans hE4).chg (fun _ => False)).blk HB1.out id; have hbR := ((HE3.out.trans hE4).chg (fun _ => False)).blk HB2.out id; have d0c := hbD.cell 0; have d1c := hbD.cell 1; have d2c := hbD.cell 2; have k0c := hbC.cell 0; have k1c := hbC.cell 1; have k2c := hbC.cell 2; have k3c := hbC.cell 3; have k4c := hbC.cell 4; simp only [List.getElem?_cons_zero, List.getElem?_cons_succ] at d0c d1c d2c k0c k1c k2c k3c k4c; clear hbD hbC hbR; clear hE4)
  | (go_at_call_of 58 (Value.int .i64 nt); refine (HP2.out _ (HEW.out.trans HE4.out)).mono ?_; rintro e w5 ⟨rfl, hE5⟩; have HE5 := Lib.hid (HE4.out.trans hE5); have hbD := ((HE4.out.trans hE5).chg (fun _ => False)).blk HB0.out id; have hbC := ((HE4.out.trans hE5).chg (fun _ => False)).blk HB1.out id; have hbR := ((HE4.out.trans hE5).chg (fun _ => False)).blk HB2.out id; have d0d := hbD.cell 0; have d1d := hbD.cell 1; have d2d := hbD.cell 2; have k0d := hbC.cell 0; have k1d := hbC.cell 1; have k2d := hbC.cell 2; have k3d := hbC.cell 3; have k4d := hbC.cell 4; simp only [List.getElem?_cons_zero, List.getElem?_cons_succ] at d0d d1d d2d k0d k1d k2d k3d k4d; clear hbD hbC hbR; clear hE5)
  | (go_at_call 59; refine (cloneI_any _ d.univ _ (HD.out.u.ext (HEW.out.trans HE5.out)) (by have := OK.out.ul; omega)).mono ?_; rintro e w6 ⟨v6, rfl, ho6, hE6⟩; obtain ⟨VA, vcap, hv6, -⟩ := OwnI.reads ho6; subst hv6; have HO6 := Lib.hid ho6; have HE6 := Lib.hid (HE5.out.trans hE6); have hbD := ((HE5.out.trans hE6).chg (fun _ => False)).blk HB0.out id; have hbC := ((HE5.out.trans hE6).chg (fun _ => False)).blk HB1.out id; have hbR := ((HE5.out.trans hE6).chg (fun _ => False)).blk HB2.out id; have d0e := hbD.cell 0; have d1e := hbD.cell 1; have d2e := hbD.cell 2; have k0e := hbC.cell 0; have k1e := hbC.cell 1; have k2e := hbC.cell 2; have k3e := hbC.cell 3; have k4e := hbC.cell 4; simp only [List.getElem?_cons_zero, List.getElem?_cons_succ] at d0e d1e d2e k0e k1e k2e k3e k4e; clear hbD hbC hbR; clear hE6 ho6))
 have hE7 : Ext W (w6.alloc (.cells #[.slice VA d.univ.length vcap, .slice none 0 0, .slice none 0 0] 27)) := HE6.out.trans (Ext.alloc w6 _)
 have hB7 := Blk.new w6 27 [.slice VA d.univ.length vcap, .slice none 0 0, .slice none 0 0]
 have hO7 : OwnI (w6.alloc (.cells #[.slice VA d.univ.length vcap, .slice none 0 0, .slice none 0 0] 27)) W.heap.size (.slice VA d.univ.length vcap) d.univ := own_lower (own_ext HO6.out (Ext.alloc w6 _)) HE5.out.size
 have hb7 : W.heap.size ≤ w6.heap.size := HE6.out.size
 obtain ⟨b7, hb7e⟩ : ∃ b7, b7 = w6.heap.size := ⟨_, rfl⟩
 rw [← hb7e] at hB7 hb7 ⊢
 clear hb7e d0e d1e d2e k0e k1e k2e k3e k4e HO6 HE6 HE5 HE4 HE3 HE2 HM HAL HP1 HP2
 generalize w6.alloc (.cells #[.slice VA d.univ.length vcap, .slice none 0 0, .slice none 0 0] 27) = w7 at hE7 hB7 hO7 ⊢
 have HE7 := Lib.hid hE7
 have HB7 := Lib.hid hB7
 have HO7 := Lib.hid hO7
 have d17 := ((hE7.chg (fun _ => False)).blk HB0.out id).cell 1
 simp only [List.getElem?_cons_zero, List.getElem?_cons_succ] at d17
 obtain ⟨m, hm⟩ : ∃ m, m = d.exist.length := ⟨_, rfl⟩
 have HMX := Lib.hid hm
 rw [← hm] at d17
 have hml : m ≤ 1000000 := by rw [hm]; exact OK.out.xl
 clear hE7 hB7 hO7 hm
 go_wp2
 go_loopg [69] m (fun gn i wr => ∃ (k : Nat) (xv : Value), k ≤ m ∧ gn + k = m ∧ i = .int .i64 (k : Int) ∧ Hid (Blk wr b7 27 [.slice VA d.univ.length vcap, xv, .slice none 0 0]) ∧ Hid (OwnX wr W.heap.size xv ((d.exist.take k).filter fun y => !decide (y.1 = x))) ∧ Hid (OwnI wr W.heap.size (.slice VA d.univ.length vcap) d.univ) ∧ Hid (Chg (fun i => W.heap.size ≤ i) W wr))
 case atStart => exact ⟨0, _, Nat.zero_le _, by omega, rfl, HB7, Lib.hid (OwnX.nil _ _), HO7, Lib.hid (HE7.out.chg _)⟩
 case round =>
  obtain ⟨k, xv, hk, hgk, rfl, HBr, HXr, HUr, HCr⟩ := hrel
  obtain ⟨w8, rfl⟩ : ∃ w8 : World, w8 = wr := ⟨_, rfl⟩
  by_cases hlt : k < m
  · have hkf : k < d.exist.length := Nat.lt_of_lt_of_le hlt (Nat.le_of_eq HMX.out)
    have hEw8 : Ext w w8 := HCr.out.toExt HEW.out (fun i hi => Nat.le_trans HEW.out.size hi)
    obtain ⟨A', c', ons', e1, -, -, e4, e5⟩ := HD.out.x.ext hEw8
    injection e1 with a1 a2 a3
    subst a1
    obtain ⟨ad, had, hc0, hc1, hri⟩ := e5 k hkf (by rw [e4]; exact hkf)
    subst had
    have hx64k := (OK.out.x64 _ (List.getElem_mem hkf))
    have hol := OK.out.ol _ (List.getElem_mem hkf)
    have hfil : (d.exist.take (k + 1)).filter (fun y => !decide (y.1 = x)) = (d.exist.take k).filter (fun y => !decide (y.1 = x)) ++ (if d.exist[k].1 = x then [] else [d.exist[k]]) := by
     rw [List.take_succ_eq_append_getElem hkf, List.filter_append]
     congr 1
     by_cases e : d.exist[k].1 = x <;> simp [e]
    generalize d.exist[k] = X at hc0 hri hx64k hol hfil
    generalize ons'[k]'(by rw [e4]; exact hkf) = on at hc1 hri
    have hri2 := hri
    obtain ⟨OA, oc, hone, -⟩ := hri
    obtain ⟨ol, hole⟩ : ∃ ol, ol = X.2.length := ⟨_, rfl⟩
    rw [← hole] at hone
    subst hone
    obtain ⟨v, hv⟩ : ∃ v, v = X.1 := ⟨_, rfl⟩
    rw [← hv] at hc0 hfil
    have HRI := Lib.hid hri2
    have HV := Lib.hid hv
    have HFI := Lib.hid hfil
    have HX64 := Lib.hid hx64k
    have HOL := Lib.hid hol
    have HOLE := Lib.hid hole
    have hwrk : IntKind.i64.wrap ((k : Int) + 1) = (k : Int) + 1 := IntWalk.i64_in _ (by omega)
    clear hri2 hkf hEw8 e4 e5 a2 a3 hx64k hol hfil hole hv
    by_cases hvx : v = x
    · have hvb : (v != x) = false := by simp [hvx]
      have HVX := Lib.hid hvx
      clear hvx
      go_wp2
      go_roundg (m - (k + 1))
      case measure => omega
      case rel =>
       have e9 := Ext.alloc w8 (.cells #[.int .i64 v, .slice OA ol oc] 61)
       exact ⟨k + 1, xv, by omega, by omega, by go_num, Lib.hid ((e9.chg (fun _ => False)).blk HBr.out id), Lib.hid (by rw [HFI.out, if_pos HVX.out, List.append_nil]; exact HXr.out.ext e9), Lib.hid (own_ext HUr.out e9), Lib.hid (HCr.out.trans (e9.chg _))⟩
    · have hvb : (v != x) = true := by simp [hvx]
      have HVX := Lib.hid hvx
      clear hvx
      go_wp2
      have e9 := Ext.alloc w8 (.cells #[.int .i64 v, .slice OA ol oc] 61)
      have bA := (e9.chg (fun _ => False)).blk HBr.out id
      have HUA := Lib.hid (own_ext HUr.out e9)
      have HCA : Hid (Chg (fun i => W.heap.size ≤ i) W _) := Lib.hid (HCr.out.trans (e9.chg _))
      have b9 := Blk.new w8 61 [.int .i64 v, .slice OA ol oc]
      have HRA := Lib.hid (HRI.out.ext e9)
      have HXA := Lib.hid (HXr.out.ext e9)
      have hsz8 : W.heap.size ≤ w8.heap.size := HCr.out.size
      clear e9 hc0 hc1 d17
      obtain ⟨n8, hn8⟩ : ∃ n8, n8 = w8.heap.size := ⟨_, rfl⟩
      rw [← hn8] at b9 hsz8 ⊢
      clear hn8
      generalize w8.alloc (.cells #[.int .i64 v, .slice OA ol oc] 61) = wA at bA HUA HCA b9 HRA HXA ⊢
      have a1 := bA.cell 1
      have a90 := b9.cell 0
      have a91 := b9.cell 1
      simp only [List.getElem?_cons_zero, List.getElem?_cons_succ] at a1 a90 a91
      obtain ⟨ps, p1, p2, p3⟩ := HXA.out
      obtain ⟨nX, hnX⟩ : ∃ nX, nX = ((d.exist.take k).filter fun y => !decide (y.1 = x)).length := ⟨_, rfl⟩
      rw [← hnX] at p1 p2
      have hnXl : nX ≤ 1000000 := by
       rw [hnX]
       refine Nat.le_trans (List.length_filter_le _ _) ?_
       rw [List.length_take]; omega
      have HBA := Lib.hid bA
      have HP1 := Lib.hid p1
      have HP2 := Lib.hid p2
      have HP3 := Lib.hid p3
      have HNX := Lib.hid hnX
      obtain ⟨i0, hi, hz0, hz1, hz2⟩ := info_parts info_dep
      have HI := Lib.hid hi
      have HZ := Lib.hid hz0
      have HZ1 := Lib.hid hz1
      have HZ2 := Lib.hid hz2
      clear hi hz0 hz1 hz2 bA b9 p1 p2 p3 hnX
      go_region_law (first
       | (refine step_append_lies _ rfl (.tmp 78) (.tmp 85) 25 rfl W.heap.size 61 i0 (.agg #[.int .i64 0, .slice none 0 0]) 2 32 Tryz.underlying25 HI.out HZ.out HZ1.out HZ2.out rfl (by decide) xv nX (encX ps) rfl ?c1 ⟨wB.heap.size, 0, none⟩ 1 1 [.int .i64 v, .slice BA nb bc] rfl rfl ?c2 (by simp [Value.oneCell']) (by omega) (by unfold maxLen; omega) (by omega) (by have := HSB.out; simp; omega) (wB.heap.size + 1) (by simp) ?_
          case c1 => exact own_ext HP1.out (HAB.out.trans (Ext.alloc wB _))
          case c2 => exact two_cells wB _ _ _
          intro gC capC wC hown hgr hat hlt
          have hcC : Chg (fun i => some i = xv.ownBlock) wB wC := ((Ext.alloc wB _).chg _).trans (grown_chg hgr)
          have hbC := hcC.blk HBB.out (fun h => fin_neq HBB.out (own_ext HP1.out HAB.out) (by decide) h.symm)
          have c1C := hbC.cell 1
          have f1C := hbC.free 1
          simp only [List.getElem?_cons_zero, List.getElem?_cons_succ] at c1C
          have HFN := Lib.hid (depX (x := X) HNX.out HP1.out HP2.out HP3.out HAB.out HBB.out HOB.out (by rw [← HV.out]; exact hown) hcC hb7)
          clear hown hgr hcC hbC hat hlt)
       | (go_simp
          go_at_call 59
          refine (cloneI_any _ X.2 _ (HRA.out.ext (Ext.drew wA)) (by have := HOL.out; omega)).mono ?_
          rintro e wB ⟨vB, rfl, hoB, hEB⟩
          obtain ⟨BA, bc, hvB, -⟩ := OwnI.reads hoB
          obtain ⟨nb, hnb⟩ : ∃ nb, nb = X.2.length := ⟨_, rfl⟩
          rw [← hnb] at hvB
          subst hvB
          have hAB : Ext wA wB := (Ext.drew wA).trans hEB
          have HOB := Lib.hid (own_lower hoB (Nat.le_trans HCA.out.size (Ext.drew wA).size))
          have HAB := Lib.hid hAB
          have HBB := Lib.hid ((hAB.chg (fun _ => False)).blk HBA.out id)
          have HSB : Hid (W.heap.size ≤ wB.heap.size) := Lib.hid (Nat.le_trans HCA.out.size hAB.size)
          have b1 := hAB.cell a1
          have b90 := hAB.cell a90
          have b91 := hAB.cell a91
          have b1a : (wB.alloc (.cells #[.int .i64 v, .slice BA nb bc] 61)).cell? ⟨b7, 1, none⟩ = some xv := (Ext.alloc wB _).cell b1
          clear hoB hEB hAB hnb))
      all_goals
       go_wp2
       go_roundg (m - (k + 1))
       case measure => omega
       case rel =>
        exact ⟨k + 1, _, by omega, by omega, by go_num, Lib.hid HFN.out.1, Lib.hid (by rw [HFI.out, if_neg HVX.out]; exact HFN.out.2.1), Lib.hid (HFN.out.2.2.2 _ _ HUA.out), Lib.hid (HCA.out.trans ((HAB.out.chg _).trans HFN.out.2.2.1))⟩
  · obtain rfl : k = m := by omega
    have htk : d.exist.take k = d.exist := by rw [HMX.out, List.take_length]
    rw [htk] at HXr
    have hEw8 : Ext w w8 := HCr.out.toExt HEW.out (fun i hi => Nat.le_trans HEW.out.size hi)
    have hsw := HSW.out
    have d28 := (HCr.out.blk HB0.out (fun h => by omega)).cell 2
    simp only [List.getElem?_cons_zero, List.getElem?_cons_succ] at d28
    obtain ⟨nC, hnC⟩ : ∃ nC, nC = us.length := ⟨_, rfl⟩
    have HNC := Lib.hid hnC
    have hnCl : nC ≤ 1000000 := by rw [hnC, HCL4.out]; exact OK.out.cl
    rw [← hnC] at d28
    have HSW2 := Lib.hid hsw
    clear htk hEw8 hsw hnC d17
    go_wp2
    go_loopg [92] nC (fun gn i wr => ∃ (k2 : Nat) (cv : Value), k2 ≤ nC ∧ gn + k2 = nC ∧ i = .int .i64 (k2 : Int) ∧ Hid (Blk wr b7 27 [.slice VA d.univ.length vcap, xv, cv]) ∧ Hid (OwnX wr W.heap.size xv (d.exist.filter fun y => !decide (y.1 = x))) ∧ Hid (OwnI wr W.heap.size (.slice VA d.univ.length vcap) d.univ) ∧ Hid (OwnLL wr W.heap.size cv ((d.clauses.take k2).filterMap (normC x t))) ∧ Hid (Chg (fun i => W.heap.size ≤ i) W wr))
    case atStart => exact ⟨0, _, Nat.zero_le _, by omega, rfl, HBr, HXr, HUr, Lib.hid ⟨[], World.ownsRow_nil _ _ _ 1, rfl, fun j hj => absurd hj (Nat.not_lt_zero j)⟩, HCr⟩
    case round =>
     obtain ⟨k2, cv, hk2, hgk2, rfl, GBr, GXr, GUr, GLr, GCr⟩ := hrel
     obtain ⟨w9, rfl⟩ : ∃ w9 : World, w9 = wr := ⟨_, rfl⟩
     by_cases hlt2 : k2 < nC
     · have hEw9 : Ext w w9 := GCr.out.toExt HEW.out (fun i hi => Nat.le_trans HEW.out.size hi)
       obtain ⟨A', c', us', e1, -, -, e4, e5, e6⟩ := RLL.ext' HD.out.c hEw9
       injection e1 with a1 a2 a3
       subst a1
       have hku : k2 < us'.length := by rw [← a2, ← HNC.out]; exact hlt2
       have hkc : k2 < d.clauses.length := by rw [← e5]; exact hku
       obtain ⟨ad, had, hcell⟩ := e4 k2 hku
       subst had
       have hri := e6 k2 hku hkc
       have h64 := OK.out.c64 _ (List.getElem_mem hkc)
       have hll : d.clauses[k2].length ≤ 1000000 := Nat.le_trans (len_le_total (List.getElem_mem hkc)) OK.out.tot
       have hfm : (d.clauses.take (k2 + 1)).filterMap (normC x t) = (d.clauses.take k2).filterMap (normC x t) ++ (normC x t d.clauses[k2]).toList := by
        rw [List.take_succ_eq_append_getElem hkc, List.filterMap_append]
        congr 1
       generalize d.clauses[k2] = l at hri h64 hll hfm
       generalize us'[k2] = uk at hcell hri
       have hri2 := hri
       obtain ⟨KA, kc, huk, -⟩ := hri
       obtain ⟨nl, hnl⟩ : ∃ nl, nl = l.length := ⟨_, rfl⟩
       rw [← hnl] at huk
       subst huk
       have HRI := Lib.hid hri2
       have H64 := Lib.hid h64
       have HFM := Lib.hid hfm
       have HNL := Lib.hid hnl
       have hnl1 : nl ≤ 1000000 := by rw [hnl]; exact hll
       have HLL := Lib.hid hll
       have hwrk : IntKind.i64.wrap ((k2 : Int) + 1) = (k2 : Int) + 1 := IntWalk.i64_in _ (by omega)
       clear hEw9 e4 e5 e6 a2 a3 hku hkc hri2 h64 hfm hnl hll
       go_wp2_with (go_at_call 59; refine (cloneI_any _ l _ HRI.out (by have := HLL.out; omega)).mono ?_; rintro e wB ⟨vB, rfl, hoB, hEB⟩; obtain ⟨BA, bc, hvB, -⟩ := OwnI.reads hoB; rw [← HNL.out] at hvB; subst hvB; have HBL : Hid (∀ i, some i = (Value.slice BA nl bc).ownBlock → w9.heap.size ≤ i) := Lib.hid (fun i hi => (own_typed hoB hi.symm).1); have HOB := Lib.hid (own_lower hoB GCr.out.size); have HEB := Lib.hid hEB; clear hoB hEB)
       have kto : ∀ wr, Chg (fun i => W.heap.size ≤ i) W wr → wr.cell? ⟨w.heap.size + 1, 2, none⟩ = some (.int .i64 t) := fun wr hc => by
        have := (hc.blk HB1.out (fun h => by have := HSW2.out; omega)).cell 2
        simpa using this
       have HKT := Lib.hid kto
       clear kto
       go_loopg [100] nl (fun gn i wr => ∃ j : Nat, j ≤ nl ∧ gn + j = nl ∧ i = .int .i64 (j : Int) ∧ Hid (OwnI wr W.heap.size (.slice BA nl bc) ((l.take j).map (subst1 x t) ++ l.drop j)) ∧ Hid (Chg (fun i => some i = (Value.slice BA nl bc).ownBlock) wB wr))
       case atStart => exact ⟨0, Nat.zero_le _, by omega, rfl, Lib.hid (by rw [List.take_zero, List.map_nil, List.nil_append, List.drop_zero]; exact HOB.out), Lib.hid (Chg.refl _ _)⟩
       case round =>
        obtain ⟨j, hj, hgj, rfl, FO, FC⟩ := hrel
        obtain ⟨wr, rfl⟩ : ∃ w' : World, w' = wr := ⟨_, rfl⟩
        by_cases hjl : j < nl
        · have hjf : j < l.length := by rw [← HNL.out]; exact hjl
          obtain ⟨gB, hBA⟩ : ∃ gB, BA = some ⟨gB, 0, none⟩ := by
           obtain ⟨-, ⟨h, h0⟩ | ⟨g, cap, cur, h, -⟩⟩ := FO.out
           · exfalso
             rw [mid_len] at h0; omega
           · injection h with h1
             exact ⟨g, h1⟩
          subst hBA
          have hmj := mid_get (subst1 x t) l j hjf (by rw [mid_len]; exact hjf)
          obtain ⟨ad2, had2, hcj⟩ := (OwnI.reads FO.out).row.2.2.2.int j (by rw [mid_len]; exact hjf)
          injection had2 with had2
          subst had2
          rw [hmj, addr0] at hcj
          have hfz := own_free (j := j) FO.out
          have hms := mid_set (subst1 x t) l j hjf
          have hy64 := H64.out _ (List.getElem_mem hjf)
          generalize l[j] = y at hcj hms hy64 hmj
          have HMJ : Hid (((l.take j).map (subst1 x t) ++ l.drop j).set j y = (l.take j).map (subst1 x t) ++ l.drop j) := Lib.hid (by rw [← hmj]; exact List.set_getElem_self _)
          have HMS := Lib.hid hms
          have FCW : Hid (Chg (fun i => W.heap.size ≤ i) W wr) := Lib.hid (GCr.out.trans ((HEB.out.chg _).trans (FC.out.mono fun i hi => (own_typed HOB.out hi.symm).1)))
          have kt := HKT.out wr FCW.out
          have hwj : IntKind.i64.wrap ((j : Int) + 1) = (j : Int) + 1 := IntWalk.i64_in _ (by omega)
          clear hmj hms hjf hy64
          by_cases hyx : y = x
          · have hyb : (y == x) = true := by simpa using hyx
            have HYX := Lib.hid hyx
            clear hyx
            go_wp2
            go_roundg (nl - (j + 1))
            case measure => omega
            case rel =>
             refine ⟨j + 1, by omega, by omega, by go_num, Lib.hid ?_, Lib.hid (FC.out.trans ((Chg.set wr gB j (.int .i64 t)).mono fun i hi => by rw [hi]; rfl))⟩
             rw [← HMS.out, show subst1 x t y = t by unfold subst1; rw [if_pos HYX.out]]
             exact own_setI FO.out j t
          · have hyb : (y == x) = false := by simpa using hyx
            have HYX := Lib.hid hyx
            clear hyx
            by_cases hyn : y = -x
            · have hynb : (y == -x) = true := by simpa using hyn
              have HYN := Lib.hid hyn
              clear hyn
              go_wp2
              go_roundg (nl - (j + 1))
              case measure => omega
              case rel =>
               refine ⟨j + 1, by omega, by omega, by go_num, Lib.hid ?_, Lib.hid (FC.out.trans ((Chg.set wr gB j (.int .i64 nt)).mono fun i hi => by rw [hi]; rfl))⟩
               rw [← HMS.out, show subst1 x t y = nt by unfold subst1; rw [if_neg HYX.out, if_pos HYN.out, HNT.out]]
               exact own_setI FO.out j nt
            · have hynb : (y == -x) = false := by simpa using hyn
              have HYN := Lib.hid hyn
              clear hyn
              go_wp2
              go_roundg (nl - (j + 1))
              case measure => omega
              case rel =>
               refine ⟨j + 1, by omega, by omega, by go_num, Lib.hid ?_, FC⟩
               have e : subst1 x t y = y := by unfold subst1; rw [if_neg HYX.out, if_neg HYN.out]
               rw [← HMS.out, e, HMJ.out]
               exact FO.out
        · obtain rfl : j = nl := by omega
          have hres : (l.take j).map (subst1 x t) ++ l.drop j = l.map (subst1 x t) := by
           rw [HNL.out, List.take_length, List.drop_length, List.append_nil]
          rw [hres] at FO
          have h64m : All64 (l.map (subst1 x t)) := fun z hz => by
           obtain ⟨y, hy, rfl⟩ := List.mem_map.1 hz
           have h1 := H64.out y hy
           have h2 := varOf_eq HTR.out
           have h3 := varOf_range t
           unfold subst1
           split
           · unfold I64; omega
           · split
             · unfold I64; omega
             · exact h1
          have HN1 := Lib.hid (Norm_any (l.map (subst1 x t)) (.slice BA j bc) wr h64m (OwnI.reads FO.out))
          have HE9 := Lib.hid (FC.out.toExt HEB.out HBL.out)
          obtain ⟨R, hR⟩ : ∃ R, R = NormV (l.map (subst1 x t)) := ⟨_, rfl⟩
          have HNC2 : Hid (normC x t l = if R.2 = 0 then some R.1 else none) := Lib.hid (by rw [hR]; rfl)
          rw [← hR] at HN1
          obtain ⟨R1, R2⟩ := R
          unfold PostNorm at HN1
          clear hR h64m hres
          simp only at HN1 HNC2
          obtain ⟨i1, hi, hz0, hz1, hz2⟩ := info_parts info_ints
          have HI := Lib.hid hi
          have HZ := Lib.hid hz0
          have HZ1 := Lib.hid hz1
          have HZ2 := Lib.hid hz2
          clear hi hz0 hz1 hz2
          obtain ⟨vs, v1, v2, v3⟩ := GLr.out
          have hvl : vs.length ≤ 1000000 := by
           rw [v2]
           refine Nat.le_trans (List.length_filterMap_le _ _) ?_
           rw [List.length_take]; omega
          have HV1 := Lib.hid v1
          have HV2 := Lib.hid v2
          have HV3 := Lib.hid v3
          clear v1 v2 v3
          by_cases hr : R2 = 0
          · subst hr
            go_wp2_with (first
             | (go_at_call 60; refine HN1.out.mono ?_; rintro e wN ⟨vN, rfl, hoN, hEN⟩; have HEN := Lib.hid (HE9.out.trans hEN); have HON := Lib.hid (own_lower hoN (Nat.le_trans GCr.out.size HE9.out.size)); obtain ⟨NA, nc, hvN, -⟩ := OwnI.reads hoN; obtain ⟨nn, hnn⟩ : ∃ nn, nn = R1.length := ⟨_, rfl⟩; rw [← hnn] at hvN; subst hvN; have hbN := (HEN.out.chg (fun _ => False)).blk GBr.out id; have HBN := Lib.hid hbN; have z2 := hbN.cell 2; simp only [List.getElem?_cons_zero, List.getElem?_cons_succ] at z2; have HSN : Hid (W.heap.size ≤ wN.heap.size) := Lib.hid (Nat.le_trans GCr.out.size HEN.out.size); clear hoN hEN hnn hbN)
             | (at_builtin; refine wpList_append_own _ rfl (.tmp 133) (.tmp 135) 22 rfl W.heap.size 24 i1 (.slice none 0 0) 1 24 Tryz.underlying22 HI.out HZ.out HZ1.out HZ2.out rfl (by decide) _ vs.length vs rfl (own_ext HV1.out (HEN.out.trans (Ext.alloc wN _))) ⟨wN.heap.size, 0, none⟩ 1 1 [.slice NA nn nc] rfl rfl (one_cell wN _ _) (by simp [Value.oneCell']) (by unfold maxLen; omega) (by omega) (by have := HSN.out; simp; omega) ?_; intro v' wP hown hgr _
                obtain ⟨gP, capP, hvP, -⟩ := own_some hown
                subst hvP
                have hcP : Chg (fun i => some i = cv.ownBlock) wN wP := ((Ext.alloc wN _).chg _).trans (grown_chg hgr)
                have hbP := hcP.blk HBN.out (fun h => fin_neq HBN.out (own_ext HV1.out HEN.out) (by decide) h.symm)
                have p2 := hbP.cell 2
                have f2 := hbP.free 2
                simp only [List.getElem?_cons_zero, List.getElem?_cons_succ] at p2
                have HOP := Lib.hid hown
                have HGP := Lib.hid hgr
                have HCP := Lib.hid hcP
                have HBP := Lib.hid hbP
                clear hown hgr hcP hbP))
            go_roundg (nC - (k2 + 1))
            case measure => omega
            case rel =>
             have hset := Chg.set wP b7 2 (.slice (some ⟨gP, 0, none⟩) (vs.length + 1) capP)
             have hrow := own_ext HV1.out HEN.out
             have hall : Chg (fun i => some i = cv.ownBlock ∨ i = b7) wN (wP.setCell ⟨b7, 2, none⟩ (.slice (some ⟨gP, 0, none⟩) (vs.length + 1) capP)) := (HCP.out.mono fun i hi => .inl hi).trans (hset.mono fun i hi => .inr hi)
             have hne : ∀ i, (some i = cv.ownBlock ∨ i = b7) → ∀ cur : Array Value, wN.heap[i]? = some (.cells cur 3 (0, 0)) ∨ wN.heap[i]? = some (.cells cur 61 (0, 0)) → False := fun i hi cur hh => by
              rcases hi with hi | hi
              · obtain ⟨-, -, c9, h9⟩ := own_typed hrow hi.symm
                rw [h9] at hh
                rcases hh with hh | hh <;> injection hh with hh <;> injection hh with _ hh <;> exact absurd hh (by decide)
              · have h9 := HBN.out
                unfold Blk at h9
                rw [hi, h9] at hh
                rcases hh with hh | hh <;> injection hh with hh <;> injection hh with _ hh <;> exact absurd hh (by decide)
             refine ⟨k2 + 1, _, by omega, by omega, by go_num, Lib.hid (HBP.out.set 2 _), Lib.hid ((GXr.out.ext HEN.out).keep hall hne), Lib.hid (hall.own (own_ext GUr.out HEN.out) (fun b hb hs => ?_)), Lib.hid ?_, Lib.hid (GCr.out.trans ((HEN.out.chg _).trans (hall.mono fun i hi => ?_)))⟩
             · obtain ⟨-, -, c9, h9⟩ := own_typed (own_ext GUr.out HEN.out) hb
               exact hne b hs c9 (.inl h9)
             · rw [HFM.out, HNC2.out, if_pos trivial, show (some R1).toList = [R1] from rfl]
               have hs := OwnLL.snoc (w := wN.alloc (.cells #[.slice NA nn nc] 24)) HV2.out (fun j hj hj' => own_ext (HV3.out j hj hj') (HEN.out.trans (Ext.alloc wN _))) (own_ext HV1.out (HEN.out.trans (Ext.alloc wN _))) (own_ext HON.out (Ext.alloc wN _)) HOP.out HGP.out
               refine hs.keep hset (fun i hi cur hh => ?_)
               have h9 := HBP.out
               unfold Blk at h9
               rw [hi, h9] at hh
               rcases hh with hh | hh <;> injection hh with hh <;> injection hh with _ hh <;> exact absurd hh (by decide)
             · rcases hi with hi | hi
               · exact (own_typed hrow hi.symm).1
               · rw [hi]; exact hb7
          · have hrb : (R2 == 0) = false := by simpa using hr
            have HRN := Lib.hid hr
            clear hr
            go_wp2_with (go_at_call 60; refine HN1.out.mono ?_; rintro e wN ⟨vN, rfl, hoN, hEN⟩; have HEN := Lib.hid (HE9.out.trans hEN); clear hoN hEN)
            go_roundg (nC - (k2 + 1))
            case measure => omega
            case rel =>
             exact ⟨k2 + 1, cv, by omega, by omega, by go_num, Lib.hid ((HEN.out.chg (fun _ => False)).blk GBr.out id), Lib.hid (GXr.out.ext HEN.out), Lib.hid (own_ext GUr.out HEN.out), Lib.hid (by rw [HFM.out, HNC2.out, if_neg HRN.out]; simpa using GLr.out.ext HEN.out), Lib.hid (GCr.out.trans (HEN.out.chg _))⟩
     · obtain rfl : k2 = nC := by omega
       have htk2 : d.clauses.take k2 = d.clauses := by rw [HNC.out, HCL4.out, List.take_length]
       rw [htk2] at GLr
       have r0 := (GCr.out.blk HB2.out (fun h => by have := HSW2.out; omega)).cell 0
       have r1 := (GCr.out.blk HB2.out (fun h => by have := HSW2.out; omega)).cell 1
       have r2 := (GCr.out.blk HB2.out (fun h => by have := HSW2.out; omega)).cell 2
       have q0 := (GCr.out.blk HB2.out (fun h => by have := HSW2.out; omega)).free 0
       have q1 := (GCr.out.blk HB2.out (fun h => by have := HSW2.out; omega)).free 1
       have q2 := (GCr.out.blk HB2.out (fun h => by have := HSW2.out; omega)).free 2
       have s0 := GBr.out.cell 0
       have s1 := GBr.out.cell 1
       have s2 := GBr.out.cell 2
       simp only [List.getElem?_cons_zero, List.getElem?_cons_succ] at r0 r1 r2 s0 s1 s2
       obtain ⟨A1, c1, hxve, -⟩ : ∃ A1 c1, xv = .slice A1 (d.exist.filter fun y => !decide (y.1 = x)).length c1 ∧ True := by
        obtain ⟨A, c, ons, e, -⟩ := GXr.out.reads
        exact ⟨A, c, e, trivial⟩
       obtain ⟨A2, n2, c2, hcve⟩ : ∃ A2 n2 c2, cv = .slice A2 n2 c2 := by
        obtain ⟨vs, h1, -⟩ := GLr.out
        obtain ⟨A, c, e, -⟩ := own_row h1
        exact ⟨A, _, c, e⟩
       obtain ⟨n1, hn1⟩ : ∃ n1, n1 = (d.exist.filter fun y => !decide (y.1 = x)).length := ⟨_, rfl⟩
       rw [← hn1] at hxve
       have HXV := Lib.hid hxve
       have HCVE := Lib.hid hcve
       rw [hxve] at s1
       rw [hcve] at s2
       clear hxve hcve hn1 htk2
       go_wp2
       refine bodyPost_ret (v := .tuple #[.agg #[.slice VA d.univ.length vcap, .slice A1 n1 c1, .slice A2 n2 c2], .int .i64 0]) (by simp [results, Tryz.results21, go_sem, r0, r1, r2]) rfl ⟨_, _, _, rfl, ?_, ?_⟩
       · have hset : Chg (fun i => i = w.heap.size + 2) w9 ((((w9.setCell ⟨w.heap.size + 2, 0, none⟩ (.slice VA d.univ.length vcap)).setCell ⟨w.heap.size + 2, 1, none⟩ (.slice A1 n1 c1)).setCell ⟨w.heap.size + 2, 2, none⟩ (.slice A2 n2 c2))) := ((Chg.set w9 _ _ _).trans (Chg.set _ _ _ _)).trans (Chg.set _ _ _ _)
         have hbR := GCr.out.blk HB2.out (fun h => by have := HSW2.out; omega)
         show OwnD ((((w9.setCell ⟨w.heap.size + 2, 0, none⟩ (.slice VA d.univ.length vcap)).setCell ⟨w.heap.size + 2, 1, none⟩ (.slice A1 n1 c1)).setCell ⟨w.heap.size + 2, 2, none⟩ (.slice A2 n2 c2))) w.heap.size _ _ _ (madeV d c)
         rw [HMV.out]
         have hno : ∀ i, i = w.heap.size + 2 → ∀ cur : Array Value, w9.heap[i]? = some (.cells cur 3 (0, 0)) ∨ w9.heap[i]? = some (.cells cur 24 (0, 0)) → False := fun i hi cur hh => by
          subst hi
          unfold Blk at hbR
          rw [hbR] at hh
          rcases hh with hh | hh <;> injection hh with hh <;> injection hh with _ hh <;> exact absurd hh (by decide)
         have hno2 : ∀ i, i = w.heap.size + 2 → ∀ cur : Array Value, w9.heap[i]? = some (.cells cur 3 (0, 0)) ∨ w9.heap[i]? = some (.cells cur 61 (0, 0)) → False := fun i hi cur hh => by
          subst hi
          unfold Blk at hbR
          rw [hbR] at hh
          rcases hh with hh | hh <;> injection hh with hh <;> injection hh with _ hh <;> exact absurd hh (by decide)
         refine OwnD.lower (base := W.heap.size) ⟨hset.own GUr.out (fun b hb hs => fin_neq hbR GUr.out (by decide) (hs ▸ hb)), ?_, ?_⟩ HEW.out.size
         · have h9 := GXr.out.keep hset hno2
           have h8 : OwnX _ W.heap.size (.slice A1 n1 c1) (d.exist.filter fun y => !decide (y.1 = x)) := HXV.out ▸ h9
           exact h8
         · have h9 := GLr.out.keep hset hno
           have h8 : OwnLL _ W.heap.size (.slice A2 n2 c2) (d.clauses.filterMap (normC x t)) := HCVE.out ▸ h9
           exact h8
       · have he := GCr.out.toExt HEW.out (fun i hi => Nat.le_trans HEW.out.size hi)
         repeat (refine Below.setCell ?_ (by simp <;> omega) _)
         exact he
theorem Make_ok (d : DqV) (c : ChV) (vu vx vc : Value) (w : World) (hd : RD w vu vx vc d) (ok : DOk d) (cok : COk c) (hm : mayD d = true) (hyes : okCh d c = true) : Calls Tryz.prog 21 #[.agg #[vu, vx, vc], .agg (chArr c)] w (PostMake w (madeV d c, 0)) :=
 (Make_own d c vu vx vc w hd ok cok hm hyes).mono fun _ _ h => h.post
end Go.Proofs.YtjecjaihficcdaaGreat
namespace Go.Proofs.YtjecjaihficcdaaGreat
open Go.RowKit
theorem Make_any (d : DqV) (c : ChV) (vu vx vc : Value) (w : World) (hd : RD w vu vx vc d) (ok : DOk d) (cok : COk c) : Calls Tryz.prog 21 #[.agg #[vu, vx, vc], .agg (chArr c)] w (PostMake w (MakeV d c)) := by
 unfold MakeV
 cases hm : mayD d
 · rw [if_pos rfl]; exact Make_no d c vu vx vc w hd ok hm
 · rw [if_neg (by simp)]
   cases hy : okCh d c
   · rw [if_pos rfl]; exact Make_bad d c vu vx vc w hd ok cok hm hy
   · rw [if_neg (by simp)]; exact Make_ok d c vu vx vc w hd ok cok hm hy
end Go.Proofs.YtjecjaihficcdaaGreat
namespace Go.Proofs.YtjecjaihficcdaaGreat
open Go.RowKit
theorem rll_lit (w : World) (vs : List Value) (f : List (List Int)) (hl : vs.length = f.length) (hm : vs.length ≤ 1000000) (h : ∀ j (h : j < vs.length) (h' : j < f.length), RI w vs[j] f[j]) :
 RLL (w.alloc (.cells vs.toArray 24)) (.slice (some ⟨w.heap.size, 0, none⟩) vs.length vs.length) f := by
 refine ⟨_, _, vs, rfl, Nat.le_refl _, by omega, fun j hj => ⟨_, rfl, ?_⟩, hl, fun j hj hj' => (h j hj hj').ext (Ext.alloc w _)⟩
 rw [addr0, (Blk.new w 24 vs).cell]
 exact List.getElem?_eq_getElem hj
end Go.Proofs.YtjecjaihficcdaaGreat
namespace Go.Proofs.YtjecjaihficcdaaGreat
section
variable {nb : Int → List Int} {U : List Int} {s : Tj} {fr : List Fr}
theorem mu_zero (h : mu nb U s = 0) : s.work = [] := by
 cases hw : s.work with
 | nil => rfl
 | cons p rest => unfold mu muW at h; rw [hw] at h; simp at h
theorem tRun_done (hU : U.Nodup) (hnb : ∀ y ∈ U, ∀ z ∈ nb y, z ∈ U) : ∀ (n : Nat) (s : Tj) (fr : List Fr), TV nb U s fr → mu nb U s ≤ n → ∃ fr', TV nb U (tRun nb n s) fr' ∧ (tRun nb n s).work = []
 | 0, s, fr, h, hm => by
   have h0 : mu nb U s = 0 := Nat.le_zero.1 hm
   exact ⟨fr, h, mu_zero h0⟩
 | n + 1, s, fr, h, hm => by
   by_cases hw : s.work = []
   · rw [tRun_nil _ _ hw]; exact ⟨fr, h, hw⟩
   · obtain ⟨fr', h1, h2⟩ := h.step hU hnb hw
     rw [tRun_succ _ _ hw]
     exact tRun_done hU hnb n _ fr' h1 (by omega)
theorem tLeave_num (s : Tj) (x : Int) : (tLeave s x).num = s.num := rfl
theorem tPop_num (s : Tj) (x : Int) (rest : List (Int × Nat)) : (tPop s x rest).num = s.num := by
 unfold tPop
 have h : (tUp { s with work := rest } x rest).num = s.num := by unfold tUp; cases rest <;> rfl
 simp only
 split
 · rw [tLeave_num, h]
 · exact h
theorem tStep_num (s : Tj) (z : Int) (h : s.num z ≠ 0) : (tStep nb s).num z ≠ 0 := by
 unfold tStep
 split
 · exact h
 · rename_i x k rest hw
   split
   · rename_i hk
     split
     · show fset s.num _ _ z ≠ 0
       by_cases e : z = (nb x)[k]
       · rw [e, fset_same]; omega
       · rw [fset_ne _ _ e]; exact h
     · split <;> exact h
   · rw [tPop_num]; exact h
theorem tRun_num : ∀ (n : Nat) (s : Tj) (z : Int), s.num z ≠ 0 → (tRun nb n s).num z ≠ 0
 | 0, _, _, h => h
 | n + 1, s, z, h => by
   by_cases hw : s.work = []
   · rw [tRun_nil _ _ hw]; exact h
   · rw [tRun_succ _ _ hw]; exact tRun_num n _ z (tStep_num s z h)
theorem tOne_TV (hU : U.Nodup) (hnb : ∀ y ∈ U, ∀ z ∈ nb y, z ∈ U) (h : TV nb U s []) (x : Int) (hx : x ∈ U) : TV nb U (tOne nb U s x) [] ∧ (tOne nb U s x).num x ≠ 0 ∧ ∀ z, s.num z ≠ 0 → (tOne nb U s x).num z ≠ 0 := by
 unfold tOne
 by_cases h0 : s.num x = 0
 · rw [if_pos h0]
   have hst : TV nb U (tStart s x) [⟨x, 0, []⟩] := by
    have := tEnter_TV h x h0 hx (fun f fs h => by cases h)
    rw [show s.work = [] from h.ti.work] at this; exact this
   obtain ⟨fr', h1, h2⟩ := tRun_done hU hnb _ _ _ hst (Nat.le_refl _)
   have hfr : fr' = [] := by have := h1.ti.work; rw [h2] at this; exact List.map_eq_nil_iff.1 this.symm
   subst hfr
   refine ⟨h1, tRun_num _ _ _ ?_, fun z hz => tRun_num _ _ _ ?_⟩
   · show fset s.num x (s.cnt + 1) x ≠ 0
     rw [fset_same]; omega
   · show fset s.num x (s.cnt + 1) z ≠ 0
     by_cases e : z = x
     · rw [e, fset_same]; omega
     · rw [fset_ne _ _ e]; exact hz
 · rw [if_neg h0]; exact ⟨h, h0, fun _ hz => hz⟩
theorem foldl_TV (hU : U.Nodup) (hnb : ∀ y ∈ U, ∀ z ∈ nb y, z ∈ U) : ∀ (xs : List Int) (s : Tj), (∀ x ∈ xs, x ∈ U) → TV nb U s [] → TV nb U (xs.foldl (tOne nb U) s) [] ∧ (∀ z, s.num z ≠ 0 → (xs.foldl (tOne nb U) s).num z ≠ 0) ∧ ∀ x ∈ xs, (xs.foldl (tOne nb U) s).num x ≠ 0
 | [], s, _, h => ⟨h, fun _ hz => hz, fun _ hx => by cases hx⟩
 | x :: xs, s, hs, h => by
   obtain ⟨h1, h2, h3⟩ := tOne_TV hU hnb h x (hs x (by simp))
   obtain ⟨k1, k2, k3⟩ := foldl_TV hU hnb xs (tOne nb U s x) (fun y hy => hs y (by simp [hy])) h1
   refine ⟨k1, fun z hz => k2 z (h3 z hz), fun y hy => ?_⟩
   rcases List.mem_cons.1 hy with rfl | hy
   · exact k2 y h2
   · exact k3 y hy
theorem cls_closed (h : TI nb s []) (A B : List (List Int)) (C : List Int) (he : s.cls = A ++ C :: B) {v z : Int} (hv : v ∈ (A ++ [C]).flatten) (hr : Rch nb v z) : z ∈ (A ++ [C]).flatten := by
 induction hr with
 | start => exact hv
 | step _ hz ih =>
   rename_i y z _
   rw [List.mem_flatten] at ih
   obtain ⟨D, hD, hy⟩ := ih
   obtain ⟨A1, A2, hA⟩ := List.append_of_mem hD
   have he2 : s.cls = A1 ++ D :: (A2 ++ B) := by
    rw [he, show A ++ C :: B = (A ++ [C]) ++ B by simp, hA]; simp
   have := h.clsc A1 D (A2 ++ B) he2 y hy z hz
   rw [hA, List.flatten_append, List.mem_append, List.flatten_cons, List.mem_append]
   rcases this with h1 | h1
   · exact .inl h1
   · exact .inr (.inl h1)
theorem cls_same (h : TV nb U s []) {C : List Int} (hC : C ∈ s.cls) {x : Int} (hx : x ∈ C) (y : Int) : y ∈ C ↔ Rch nb x y ∧ Rch nb y x := by
 refine ⟨fun hy => ⟨(h.ti.clss C hC).2 x hx y hy, (h.ti.clss C hC).2 y hy x hx⟩, fun ⟨h1, h2⟩ => ?_⟩
 obtain ⟨A, B, he⟩ := List.append_of_mem hC
 have hy := cls_closed h.ti A B C he (List.mem_flatten.2 ⟨C, by simp, hx⟩) h1
 rw [List.flatten_append, List.mem_append] at hy
 rcases hy with hy | hy
 · obtain ⟨D, hD, hyD⟩ := List.mem_flatten.1 hy
   obtain ⟨A1, A2, hA⟩ := List.append_of_mem hD
   have he2 : s.cls = A1 ++ D :: (A2 ++ C :: B) := by rw [he, hA]; simp
   have hxD := cls_closed h.ti A1 (A2 ++ C :: B) D he2 (List.mem_flatten.2 ⟨D, by simp, hyD⟩) h2
   have hn := h.ti.clsn
   have e3 : s.cls = (A1 ++ [D]) ++ (A2 ++ C :: B) := by rw [he2]; simp
   rw [e3, List.flatten_append, List.nodup_append] at hn
   exact absurd rfl (hn.2.2 x hxD x (List.mem_flatten.2 ⟨C, by simp, hx⟩))
 · simpa using hy
end
end Go.Proofs.YtjecjaihficcdaaGreat
namespace Go.Proofs.YtjecjaihficcdaaGreat
def refCl (f : List (List Int)) (x : Int) : List Int := (setL [] (reachL f x)).filter fun y => decide (x ∈ reachL f y)
def refTake (f : List (List Int)) (x : Int) : Option (List Int) := if 1 < (refCl f x).length ∧ hdI (refCl f x) = x ∧ (0 < x ∨ -x ∈ refCl f x) then some (refCl f x) else none
def RefClasses (f : List (List Int)) : List (List Int) := (graphLits f).filterMap (refTake f)
theorem hdI_mem {l : List Int} (h : l ≠ []) : hdI l ∈ l := by
 cases l with
 | nil => exact absurd rfl h
 | cons x l => simp [hdI]
theorem setL_ne {C : List Int} (h : C ≠ []) : setL [] C ≠ [] := fun e => by
 obtain ⟨x, hx⟩ := List.exists_mem_of_ne_nil _ h
 have : x ∈ setL [] C := (mem_setL C [] x).2 (.inr hx)
 rw [e] at this; cases this
theorem graphLits_var {f : List (List Int)} (hm : mayCnfB f = true) : ∀ x ∈ graphLits f, varOf x ≠ 0 := fun x hx => by
 rcases (mem_graphLits f x).1 hx with h | h
 · exact lits2_var hm x h
 · have := lits2_var hm _ h; rwa [varOf_neg] at this
theorem classes_ref {f L : List (List Int)} (hm : mayCnfB f = true) (h : ClassesP f L) : L = RefClasses f := by
 obtain ⟨hp, hs⟩ := h
 obtain ⟨hTV, -, hall⟩ := foldl_TV (graphLits_nodup f) (graphLits_nb f) (graphLits f) t0 (fun x hx => hx) (t0_TV (nbL f) (graphLits f))
 have hpath : (tAll (nbL f) (graphLits f) (graphLits f)).path = [] := hTV.ti.path
 have hcls0 : clsOf f = (tAll (nbL f) (graphLits f) (graphLits f)).cls.map (setL []) := rfl
 change TV (nbL f) (graphLits f) (tAll (nbL f) (graphLits f) (graphLits f)) [] at hTV
 change ∀ x ∈ graphLits f, (tAll (nbL f) (graphLits f) (graphLits f)).num x ≠ 0 at hall
 generalize tAll (nbL f) (graphLits f) (graphLits f) = T at hTV hall hpath hcls0
 have hin : ∀ x ∈ graphLits f, ∃ C ∈ T.cls, x ∈ C := fun x hx => by
  have h1 := (hTV.ti.ent x).1 (hall x hx)
  rw [hpath] at h1
  rcases h1 with h1 | h1
  · cases h1
  · exact List.mem_flatten.1 h1
 have hsub : ∀ C ∈ T.cls, ∀ x ∈ C, x ∈ graphLits f := fun C hC x hx => hTV.inU x ((hTV.ti.ent x).2 (.inr (List.mem_flatten.2 ⟨C, hC, hx⟩)))
 have hcl : ∀ C ∈ T.cls, ∀ x ∈ C, setL [] C = refCl f x := fun C hC x hx => by
  refine sorted_ext blt_asym (setL_sorted _ List.Pairwise.nil) ((setL_sorted _ List.Pairwise.nil).filter _) fun y => ?_
  unfold refCl
  rw [mem_setL, List.mem_filter, mem_setL, decide_eq_true_eq]
  have e := cls_same hTV hC hx y
  simp only [List.not_mem_nil, false_or, (reachL_spec f x).2.2, (reachL_spec f y).2.2]
  exact e
 have hmem : ∀ c, c ∈ L ↔ c ∈ RefClasses f := fun c => by
  rw [hp.mem_iff, List.mem_filter, hcls0, List.mem_map]
  unfold RefClasses
  rw [List.mem_filterMap]
  constructor
  · rintro ⟨⟨C, hC, rfl⟩, hg⟩
    have hne := setL_ne (hTV.ti.clss C hC).1
    have hx := hdI_mem hne
    have hxC : hdI (setL [] C) ∈ C := by rw [mem_setL] at hx; simpa using hx
    have he := hcl C hC _ hxC
    refine ⟨hdI (setL [] C), hsub C hC _ hxC, ?_⟩
    unfold refTake
    rw [← he, if_pos]
    unfold goodC at hg
    rw [Bool.and_eq_true, decide_eq_true_eq, Bool.or_eq_true, decide_eq_true_eq, decide_eq_true_eq] at hg
    refine ⟨hg.1, rfl, hg.2.imp id fun e => ?_⟩
    have hh : (setL [] C).headD 0 = hdI (setL [] C) := rfl
    rw [hh] at e
    rw [← e]
    match hq : setL [] C with
    | [] => exact absurd hq hne
    | [_] => rw [hq] at hg; simp at hg
    | a :: b :: r => simp
  · rintro ⟨x, hx, ht⟩
    unfold refTake at ht
    split at ht
    · rename_i hc
      obtain ⟨h1, h2, h3⟩ := hc
      injection ht with ht
      subst ht
      obtain ⟨C, hC, hxC⟩ := hin x hx
      have he := hcl C hC x hxC
      refine ⟨⟨C, hC, he⟩, ?_⟩
      have hsort : (refCl f x).Pairwise blt := by rw [← he]; exact setL_sorted _ List.Pairwise.nil
      have hv := varOf_eq (graphLits_var hm x hx)
      have hv0 := graphLits_var hm x hx
      unfold goodC
      rw [Bool.and_eq_true, decide_eq_true_eq, Bool.or_eq_true, decide_eq_true_eq, decide_eq_true_eq]
      refine ⟨h1, ?_⟩
      match hq : refCl f x with
      | [] => rw [hq] at h1; simp at h1
      | [_] => rw [hq] at h1; simp at h1
      | a :: b :: r =>
        rw [hq] at h2 h3 hsort
        have h2' : a = x := h2
        subst h2'
        rcases h3 with h3 | h3
        · exact .inl h3
        · by_cases hpos : 0 < a
          · exact .inl hpos
          · refine .inr ?_
            show b = -a
            rw [List.pairwise_cons, List.pairwise_cons] at hsort
            obtain ⟨k1, k2, -⟩ := hsort
            have hab := k1 b (by simp)
            simp only [List.mem_cons] at h3
            rcases h3 with h3 | h3 | h3
            · have : a = 0 := by omega
              rw [this] at hv0
              exact absurd rfl hv0
            · exact h3.symm
            · have hb := k2 _ h3
              unfold blt at hab hb
              omega
    · cases ht
 refine sorted_ext (r := fun a b => elt (hdI a) (hdI b)) (fun a b h1 h2 => by unfold elt at h1 h2; omega) ?_ ?_ hmem
 · have hd : L.Pairwise fun a b => hdI a ≠ hdI b := by
    rw [hp.pairwise_iff (fun h => h.symm), hcls0]
    refine List.Pairwise.filter _ ?_
    rw [List.pairwise_map]
    refine (List.pairwise_flatten.1 hTV.ti.clsn).2.imp_of_mem fun {C D} hC hD hCD => ?_
    have k1 := hdI_mem (setL_ne (hTV.ti.clss C hC).1)
    have k2 := hdI_mem (setL_ne (hTV.ti.clss D hD).1)
    rw [mem_setL] at k1 k2
    exact hCD _ (by simpa using k1) _ (by simpa using k2)
   have hv : ∀ c ∈ L, varOf (hdI c) ≠ 0 := fun c hc => by
    rw [hp.mem_iff, List.mem_filter, hcls0, List.mem_map] at hc
    obtain ⟨⟨C, hC, rfl⟩, -⟩ := hc
    have k1 := hdI_mem (setL_ne (hTV.ti.clss C hC).1)
    rw [mem_setL] at k1
    exact graphLits_var hm _ (hsub C hC _ (by simpa using k1))
   have := (List.pairwise_and_iff.2 ⟨hd, hs⟩)
   refine this.imp_of_mem fun {a b} ha hb hab => ?_
   have v1 := varOf_eq (hv a ha)
   have v2 := varOf_eq (hv b hb)
   have h1 := hab.1
   have h2 := hab.2
   unfold elt at h2 ⊢
   omega
 · unfold RefClasses
   rw [List.pairwise_filterMap]
   have hg : (graphLits f).Pairwise blt := setL_sorted _ List.Pairwise.nil
   refine hg.imp_of_mem fun {x y} hx hy hxy c hc e he => ?_
   have g1 : hdI c = x := by unfold refTake at hc; split at hc; · rename_i q; injection hc with hc; rw [← hc]; exact q.2.1
                             · cases hc
   have g2 : hdI e = y := by unfold refTake at he; split at he; · rename_i q; injection he with he; rw [← he]; exact q.2.1
                             · cases he
   rw [g1, g2]
   exact (elt_blt (graphLits_var hm x hx) (graphLits_var hm y hy)).2 hxy
end Go.Proofs.YtjecjaihficcdaaGreat
