/- Walks and plain laws that this claim uses. -/
import Derived.Test.YtjecjaihficcdaaGreatMxH
import Derived.Test.YtjecjaihficcdaaGreatMxF
import Derived.BigRegion
import Derived.StillTailTactics
namespace Go.Proofs.YtjecjaihficcdaaGreat
open Go.RowKit
theorem TW.wk {base : Nat} {f : List (List Int)} {B : FB} {w : World} {pv cv : Value} {vs : List Value} {s : Tj} (h : TW base f B w pv cv vs s) (l : List (Int × Nat)) : TW base f B w pv cv vs { s with work := l } :=
 ⟨h.fb, h.gr, h.gb, h.num, h.low, h.on, h.path, h.cls, h.ne, h.bs, h.sz, h.lit, h.litp⟩
theorem two_cells (w : World) (a b : Value) (t : TypeId) : ∀ j u, [a, b][j]? = some u → (w.alloc (.cells #[a, b] t)).cell? ((⟨w.heap.size, 0, none⟩ : Addr).add j) = some u := fun j u hu => by
 have h : (w.alloc (.cells #[a, b] t)).heap[w.heap.size]? = some (.cells #[a, b] t (0, 0)) := heap_alloc_new w _
 have hadd : (⟨w.heap.size, 0, none⟩ : Addr).add j = ⟨w.heap.size, j, none⟩ := by unfold Addr.add; split <;> simp_all
 rw [hadd, cell_of_row _ _ j _ t (0, 0) h]
 simpa using hu
theorem own_some {w : World} {base n sz : Nat} {e : TypeId} {v : Value} {xs : List Value} (h : w.ownsRow base e sz v (n + 1) xs) : ∃ g cap, v = .slice (some ⟨g, 0, none⟩) (n + 1) cap ∧ n + 1 ≤ cap := by
 obtain ⟨-, ⟨-, h⟩ | ⟨g, cap, cur, rfl, -, -, hn, -⟩⟩ := h
 · cases h
 · exact ⟨g, cap, rfl, hn⟩
theorem pathOf_len : ∀ fr : List Fr, fr.length ≤ (pathOf fr).length
 | [] => Nat.le_refl _
 | f :: fs => by have := pathOf_len fs; simp only [pathOf, List.length_append, List.length_cons]; omega
theorem TV.workl {nb : Int → List Int} {U : List Int} {s : Tj} {fr : List Fr} (h : TV nb U s fr) : s.work.length ≤ U.length := by
 have h1 := pathOf_len fr
 have h2 := h.len
 rw [h.ti.work, List.length_map]
 rw [h.ti.path] at h2
 omega
theorem TV.bottom {nb : Int → List Int} {U : List Int} {s : Tj} {fr : List Fr} {x : Int} {k : Nat} (h : TV nb U s fr) (hw : s.work = [(x, k)]) : s.low x = s.num x := by
 obtain ⟨r, fs, rfl, hp, hx, hr⟩ := h.top hw
 have hfs : fs = [] := List.map_eq_nil_iff.1 hr.symm
 subst hfs
 have hxp : x ∈ s.path := by rw [hp]; simp
 have hle := h.ti.lowle x hxp
 obtain ⟨u, hu, h1, h2⟩ := h.ti.lowr x hxp
 have hso := h.ti.sorted
 rw [hp] at hso hu
 simp only [pathOf, List.nil_append, List.pairwise_cons] at hso hu
 rcases List.mem_cons.1 hu with rfl | hu
 · exact h1.symm
 · have := hso.1 u hu; omega
theorem info_step : (Tryz.prog.info? 113).map (fun i => (i.zero, i.size, i.bytes)) = some (some (.agg #[.int .i64 0, .int .i64 0]), 2, 16) := by kernel_rfl
section
variable {base : Nat} {f : List (List Int)} {B : FB} {w : World} {pv cv : Value} {vs : List Value} {s : Tj}
theorem TW.lkn (h : TW base f B w pv cv vs s) (n : Int) : (Instr.lookup 77 (.map (some B.gn)) (.int .i64 n) false).run Tryz.prog w = .ok (.int .i64 (s.num n)) w := by
 obtain ⟨kn, n1, -, n3⟩ := h.num
 have := n1.lookup (P := Tryz.prog) fam_kvI Tryz.underlying77 (zeroValue_int _) n
 unfold kvI at this
 rw [this, n3]
 by_cases e : s.num n = 0
 · rw [if_pos e, e]; rfl
 · rw [if_neg e]; rfl
theorem TW.lkl (h : TW base f B w pv cv vs s) (n : Int) : (Instr.lookup 77 (.map (some B.gl)) (.int .i64 n) false).run Tryz.prog w = .ok (.int .i64 (s.low n)) w := by
 obtain ⟨kl, n1, n2, -⟩ := h.low
 have := n1.lookup (P := Tryz.prog) fam_kvI Tryz.underlying77 (zeroValue_int _) n
 unfold kvI at this
 rw [this, n2]
theorem TW.lko (h : TW base f B w pv cv vs s) (n : Int) : (Instr.lookup 78 (.map (some B.go)) (.int .i64 n) false).run Tryz.prog w = .ok (.bool (s.on n)) w := by
 obtain ⟨ko, n1, n2, -⟩ := h.on
 have := n1.lookup (P := Tryz.prog) fam_kvI Tryz.underlying78 (zeroValue_b _) n
 unfold kvI at this
 rw [this, n2]
theorem TW.setLow (h : TW base f B w pv cv vs s) (t v : Int) (hn : s.num t ≠ 0) : ∃ w', (Instr.mapUpdate 77 (.map (some B.gl)) (.int .i64 t) (.int .i64 v)).run Tryz.prog w = .ok () w' ∧ TW base f B w' pv cv vs { s with low := fset s.low t v } ∧ Kp base w w' := by
 obtain ⟨kl, l1, l2, l3⟩ := h.low
 obtain ⟨d1, d2, d3⟩ := h.ne
 obtain ⟨w', hup, m', hc, -⟩ := l1.update (P := Tryz.prog) fam_kvI Tryz.underlying77 t (.int .i64 v)
 refine ⟨w', hup, h.upd (s' := { s with low := fset s.low t v }) (hc.mono fun i hi => .inr (.inl hi)) rfl rfl ?_ ⟨_, m', fun n => ?_, fun n hz => ?_⟩ ?_⟩
 · obtain ⟨kn, n1, n2⟩ := h.num; exact ⟨kn, n1.keep hc (fun e => d1 e), n2⟩
 · rw [lkp_kput]
   show _ = Value.int .i64 (fset s.low t v n)
   by_cases e : n = t
   · subst e; rw [if_pos rfl, fset_same]; rfl
   · rw [if_neg e, fset_ne _ _ e]; exact l2 n
 · rw [lkp_kput, if_neg (fun e => by subst e; exact hn hz)]; exact l3 n hz
 · obtain ⟨ko, o1, o2⟩ := h.on; exact ⟨ko, o1.keep hc (fun e => d3 e.symm), o2⟩
end
set_option maxRecDepth 100000 in
set_option maxHeartbeats 8000000 in
theorem visit_any (base : Nat) (f : List (List Int)) (B : FB) (w : World) (pv cv : Value) (vs : List Value) (s : Tj) (h : TW base f B w pv cv vs s) (ht : TV (nbL f) (graphLits f) s []) (x : Int) (h0 : s.num x = 0) (hx : x ∈ graphLits f) (hU : (graphLits f).length ≤ 100000) (hnd : (graphLits f).Nodup) (hnb : ∀ y ∈ graphLits f, ∀ z ∈ nbL f y, z ∈ graphLits f) :
 Calls Tryz.prog 50 #[.pointer (some ⟨B.F, 0, none⟩), .int .i64 x] w fun e w' => ∃ pv' cv' vs', e = .returned (.tuple #[]) ∧ TW base f B w' pv' cv' vs' (tVisit (nbL f) (graphLits f) s x) ∧ TV (nbL f) (graphLits f) (tVisit (nbL f) (graphLits f) s x) [] ∧ Chg (fun i => base ≤ i) w w' := by
 have hpl : s.path.length ≤ 1000000 := by have := ht.len; omega
 have hcn : s.cnt ≤ 1000000 := by have := ht.cnt; have := ht.len; omega
 have hwk : s.work = [] := ht.ti.work
 have hst : TV (nbL f) (graphLits f) (tStart s x) [⟨x, 0, []⟩] := by
  have := tEnter_TV ht x h0 hx (fun f fs h => by cases h)
  rw [hwk] at this; exact this
 obtain ⟨fin, hfin⟩ : ∃ fin, fin = tVisit (nbL f) (graphLits f) s x := ⟨_, rfl⟩
 rw [← hfin]
 have HFIN := Lib.hid hfin
 have HST := Lib.hid hst
 have H := Lib.hid h
 have HU := Lib.hid hU
 have HND := Lib.hid hnd
 have HNB := Lib.hid hnb
 have HEN := Lib.hid (fun w' (hE : Ext w w') => enter_any base f B w' pv cv vs s (h.ext hE) x h0 hcn hpl)
 have hws := WS.one w w.heap.size x (Nat.le_refl _)
 clear hfin hst h ht hU hnd hnb hwk hcn hpl
 obtain ⟨w1, hw1⟩ : ∃ w1, w1 = w.alloc (.cells #[.int .i64 x, .int .i64 0] 113) := ⟨_, rfl⟩
 have hE1 : Ext w w1 := hw1 ▸ Ext.alloc w _
 rw [← hw1] at hws
 have HWS := Lib.hid hws
 have HE1 := Lib.hid hE1
 clear hws hE1
 go_enter Tryz.func50, Tryz.ntmps50
 go_upto_region 2 with (go_at_call 98; try rw [← hw1]; refine (HEN.out _ HE1.out).mono ?_; rintro e w2 ⟨pv2, rfl, ht, hk⟩; have HT2 := Lib.hid ht; have HK2 := Lib.hid hk; clear ht hk)
 have HWS2 := Lib.hid (HWS.out.kp HK2.out)
 have HC2 : Hid (Chg (fun i => base ≤ i) w w2) := Lib.hid ((HE1.out.chg _).trans HK2.out.chg)
 obtain ⟨M, hM⟩ : ∃ M, M = mu (nbL f) (graphLits f) (tStart s x) := ⟨_, rfl⟩
 have HM := Lib.hid hM
 clear hM
 go_loopg [4] M (fun gn i wr => ∃ s' fr pv' cv' vs' g cap n, i = .slice (some ⟨g, 0, none⟩) n cap ∧ n ≤ 1000000 ∧ n ≤ cap ∧ Hid (n = s'.work.length) ∧ Hid (TV (nbL f) (graphLits f) s' fr) ∧ Hid (gn = mu (nbL f) (graphLits f) s') ∧ Hid (tRun (nbL f) gn s' = fin) ∧ Hid (TW base f B wr pv' cv' vs' s') ∧ Hid (WS wr w.heap.size g cap s'.work) ∧ Hid (Chg (fun i => base ≤ i) w wr))
 case atStart =>
  exact ⟨tStart s x, _, pv2, cv, vs, w.heap.size, 1, 1, rfl, by omega, by omega, Lib.hid rfl, HST, HM, Lib.hid (by rw [HM.out]; exact HFIN.out.symm), Lib.hid (HT2.out.wk [(x, 0)]), HWS2, HC2⟩
 case round =>
  obtain ⟨s', fr, pv', cv', vs', g, cap, n, rfl, hn, hcap, HN, HTV, HMU, HFI, HT, HW, HC⟩ := hrel
  obtain ⟨w4, rfl⟩ : ∃ w4 : World, w4 = wr := ⟨_, rfl⟩
  by_cases hn0 : n = 0
  · subst hn0
    have hwn : s'.work = [] := List.length_eq_zero_iff.1 HN.out.symm
    have hfe : s' = fin := by have := HFI.out; rw [tRun_nil _ _ hwn] at this; exact this
    subst hfe
    have hfr : fr = [] := by have := HTV.out.ti.work; rw [hwn] at this; exact List.map_eq_nil_iff.1 this.symm
    subst hfr
    have HHF := Lib.hid hwn
    clear hwn
    go_wp2
    go_end0
    exact ⟨_, _, _, rfl, HT.out, HTV.out, HC.out⟩
  · obtain ⟨t, k, rest, hwk⟩ : ∃ t k rest, s'.work = (t, k) :: rest := by
     cases hw : s'.work with
     | nil => have := HN.out; rw [hw] at this; exact absurd this hn0
     | cons p rest => exact ⟨p.1, p.2, rest, rfl⟩
    obtain ⟨m, hm⟩ : ∃ m, m = rest.length := ⟨_, rfl⟩
    have hnm : n = m + 1 := by have := HN.out; rw [hwk, List.length_cons, ← hm] at this; exact this
    have hwr1 : IntKind.i64.wrap ((n : Int) - 1) = (m : Int) := by rw [IntWalk.i64_in _ (by omega)]; omega
    have hn1 : 0 < n := by omega
    have hn2 : (0 : Int) < n := by omega
    have hmn : m < n := by omega
    have hm1 : m ≤ 1000000 := by omega
    have HNM := Lib.hid hnm
    obtain ⟨r, fs, hfr, hpth, htp, hrest⟩ := HTV.out.top hwk
    have hwz := HW.out
    rw [hwk] at hwz
    obtain ⟨ct, ck, fk⟩ := hwz.cellsOf
    rw [← hm] at ct ck fk
    have hlt := hwz.raw
    have c0 := HT.out.fb.cell 0
    have c1 := HT.out.fb.cell 1
    have c2 := HT.out.fb.cell 2
    have c3 := HT.out.fb.cell 3
    simp only [List.getElem?_cons_zero, List.getElem?_cons_succ] at c0 c1 c2 c3
    have hlk := HT.out.gr.lookup t
    obtain ⟨A, c, hrow, hA1, hA2, hA3⟩ := HT.out.gr.row t
    rw [hrow] at hlk
    obtain ⟨L, hL⟩ : ∃ L, L = (nbL f t).length := ⟨_, rfl⟩
    have hfa := HTV.out.ti.frk ⟨t, k, r⟩ (by rw [hfr]; simp)
    have hkL : k ≤ L := by rw [hL]; exact hfa.1
    have hL2 : L ≤ 9223372036854775807 := by rw [hL]; omega
    rw [← hL] at hlk hA1
    have HWK := Lib.hid hwk
    have HRM := Lib.hid hm
    have HWZ := Lib.hid hwz
    have HROW := Lib.hid hrow
    have HA3 := Lib.hid hA3
    have HLL := Lib.hid hL
    have HFR := Lib.hid hfr
    have HPT := Lib.hid hpth
    have HTP := Lib.hid htp
    have HRE := Lib.hid hrest
    clear hn0 hnm hwk hm hwz hrow hA3 hL hfr hpth htp hrest hlt hfa
    have hw0 : s'.work ≠ [] := by rw [HWK.out]; simp
    obtain ⟨fr2, htv2, hmu2⟩ := HTV.out.step HND.out HNB.out hw0
    have hfi2 : tRun (nbL f) (mu (nbL f) (graphLits f) (tStep (nbL f) s')) (tStep (nbL f) s') = fin := by
     have := HFI.out
     rw [HMU.out, ← hmu2, tRun_succ _ _ hw0] at this
     exact this
    have hwl2 : (tStep (nbL f) s').work.length ≤ 1000000 := Nat.le_trans htv2.workl (Nat.le_trans HU.out (by decide))
    have hmlt : mu (nbL f) (graphLits f) (tStep (nbL f) s') < gk := by rw [HMU.out]; omega
    have hpath2 : s'.path.length ≤ 1000000 := by have := HTV.out.len; have := HU.out; omega
    have hcls2 : s'.cls.length ≤ 1000000 := by have := HTV.out.clsl; have := HU.out; omega
    have hcnt2 : s'.cnt ≤ 1000000 := by have := HTV.out.len; have := HTV.out.cnt; have := HU.out; omega
    have htp' : t ∈ s'.path := by rw [HPT.out]; simp
    have htn : s'.num t ≠ 0 := (HTV.out.ti.ent t).2 (.inl htp')
    have HTV2 := Lib.hid htv2
    have HFI2 := Lib.hid hfi2
    have HWL2 := Lib.hid hwl2
    have HMLT := Lib.hid hmlt
    have HPA2 := Lib.hid hpath2
    have HCL2 := Lib.hid hcls2
    have HCN2 := Lib.hid hcnt2
    have HTN := Lib.hid htn
    clear hw0 htv2 hmu2 hfi2 hwl2 hmlt hpath2 hcls2 hcnt2 htp' htn
    have hlk1 := (HT.out.gr.ext (Ext.drew w4)).lookup t
    have hlk2 := ((HT.out.gr.ext (Ext.drew w4)).ext (Ext.drew _)).lookup t
    rw [HROW.out, ← HLL.out] at hlk1 hlk2
    go_wp2
    by_cases hkl : k < L
    · have hkb : decide ((k : Int) < (L : Int)) = true := by simpa using hkl
      go_region
      have hkf : k < (nbL f t).length := Nat.lt_of_lt_of_le hkl (Nat.le_of_eq HLL.out)
      obtain ⟨ad, had, hcy⟩ := HA3.out.int k hkf
      subst had
      generalize hy : (nbL f t)[k] = y at hcy
      have HY : Hid (∃ h : k < (nbL f t).length, (nbL f t)[k] = y) := Lib.hid ⟨hkf, hy⟩
      have hk0 : (0 : Int) ≤ k := by omega
      have hk1 : (k : Int) < L := by omega
      clear hy hkf
      have hwrk : IntKind.i64.wrap ((k : Int) + 1) = (k : Int) + 1 := IntWalk.i64_in _ (by omega)
      have hgB : base ≤ g := Nat.le_trans H.out.sz (by have := HWZ.out.raw; obtain ⟨_, _, h, _⟩ := this; exact h)
      have hT6 : TW base f B ((w4.setCell ⟨g, m * 2 + 1, none⟩ (.int .i64 ((k : Int) + 1))).drew.drew) pv' cv' vs' s' :=
       ((HT.out.step (Chg.set w4 g (m * 2 + 1) (.int .i64 ((k : Int) + 1))) (fun i hi => by
         subst hi
         obtain ⟨cur, h1, -⟩ := HWZ.out.raw
         exact ⟨hgB, cur, h1⟩)).ext (Ext.drew _)).ext (Ext.drew _)
      have hW6 : WS ((w4.setCell ⟨g, m * 2 + 1, none⟩ (.int .i64 ((k : Int) + 1))).drew.drew) w.heap.size g cap ((t, k + 1) :: rest) := by
       have := HWZ.out.bump
       rw [← HRM.out] at this
       exact (this.ext (Ext.drew _)).ext (Ext.drew _)
      have hC6 : Chg (fun i => base ≤ i) w ((w4.setCell ⟨g, m * 2 + 1, none⟩ (.int .i64 ((k : Int) + 1))).drew.drew) :=
       HC.out.trans (((Chg.set w4 g _ _).mono fun i hi => by subst hi; exact hgB).trans (((Ext.drew _).chg _).trans ((Ext.drew _).chg _)))
      have hFg : B.F ≠ g := fun e => by
       obtain ⟨cur, h1, -⟩ := HWZ.out.raw
       have h2 := HT.out.fb
       unfold Blk at h2
       rw [e, h1] at h2
       injection h2 with h2
       injection h2 with _ h2
       exact absurd h2 (by decide)
      have hgF : g ≠ B.F := fun e => hFg e.symm
      have hn6 := hT6.lkn y
      have ho6 := hT6.lko y
      have HT6 := Lib.hid hT6
      have HW6 := Lib.hid hW6
      have HC6 := Lib.hid hC6
      clear hT6 hW6 hC6
      obtain ⟨ny, hny⟩ : ∃ ny, ny = s'.num y := ⟨_, rfl⟩
      obtain ⟨oy, hoy⟩ : ∃ oy, oy = s'.on y := ⟨_, rfl⟩
      rw [← hny] at hn6
      rw [← hoy] at ho6
      have HNY := Lib.hid hny
      have HOY := Lib.hid hoy
      clear hny hoy
      go_wp2
      go_region
      have HNN : Hid (n = ((t, k + 1) :: rest).length) := Lib.hid (by rw [HNM.out, HRM.out]; rfl)
      by_cases hz : ny = 0
      · have HZY : Hid (s'.num y = 0) := Lib.hid (by rw [← HNY.out, hz])
        have HSE : Hid (tStep (nbL f) s' = { tEnter s' y with work := (y, 0) :: (t, k + 1) :: rest }) := Lib.hid (by
         obtain ⟨h1, h2⟩ := HY.out
         subst h2
         exact tStep_new HWK.out h1 HZY.out)
        subst hz
        obtain ⟨i0, hi, hz0, hz1, hz2⟩ := info_parts info_step
        have HI := Lib.hid hi
        have HZ := Lib.hid hz0
        have HZ1 := Lib.hid hz1
        have HZ2 := Lib.hid hz2
        clear hi hz0 hz1 hz2
        go_wp2_with (first
         | (go_at_call 98; refine (enter_any base f B _ pv' cv' vs' s' HT6.out y HZY.out HCN2.out HPA2.out).mono ?_; rintro e w7 ⟨pv7, rfl, ht, hk⟩; have HT7 := Lib.hid ht; have HW7 := Lib.hid (HW6.out.kp hk); have HC7 := Lib.hid (HC6.out.trans hk.chg); clear ht hk)
         | (at_builtin; refine wpList_append_own _ rfl (.tmp 70) (.tmp 73) 114 rfl w.heap.size 113 i0 (.agg #[.int .i64 0, .int .i64 0]) 2 16 Tryz.underlying114 HI.out HZ.out HZ1.out HZ2.out rfl (by decide) _ n (encW ((t, k + 1) :: rest)) rfl (own_ext (by have := HW7.out; unfold WS at this; rw [← HNN.out] at this; exact this) (Ext.alloc w7 _)) ⟨w7.heap.size, 0, none⟩ 1 1 [.int .i64 y, .int .i64 0] rfl rfl (two_cells w7 _ _ _) (by simp [Value.oneCell']) (by unfold maxLen; omega) (by omega) (by have := HC7.out.size; simp; omega) ?_
            intro v' w8 hown hgr _
            obtain ⟨g8, cap8, hv8, hcap8⟩ := own_some hown
            subst hv8
            have HOW8 := Lib.hid hown
            have HC8 := Lib.hid (grown_chg hgr)
            clear hown hgr))
        go_roundg (mu (nbL f) (graphLits f) (tStep (nbL f) s'))
        case measure => exact HMLT.out
        case rel =>
         have hwk2 : (tStep (nbL f) s').work = (y, 0) :: (t, k + 1) :: rest := by rw [HSE.out]
         have hn2 : n + 1 = (tStep (nbL f) s').work.length := by rw [hwk2, List.length_cons, ← HNN.out]
         have hch8 : Chg (fun i => i = g) w7 w8 := ((Ext.alloc w7 _).chg _).trans (HC8.out.mono fun i hi => Option.some.inj hi)
         refine ⟨tStep (nbL f) s', fr2, pv7, cv', vs', g8, cap8, n + 1, rfl, by rw [hn2]; exact HWL2.out, hcap8, Lib.hid hn2, HTV2, Lib.hid rfl, HFI2, Lib.hid ?_, Lib.hid ?_, Lib.hid ?_⟩
         · rw [HSE.out]
           exact (HT7.out.step hch8 (fun i hi => by
            subst hi
            obtain ⟨cur, h1, -⟩ := HW7.out.raw
            exact ⟨hgB, cur, h1⟩)).wk _
         · rw [hwk2]
           refine WS.push ?_
           rw [← HNN.out]
           exact HOW8.out
         · exact HC7.out.trans (hch8.mono fun i hi => by subst hi; exact hgB)
      · have hzb : (ny == 0) = false := by simpa using hz
        have HZY : Hid (s'.num y ≠ 0) := Lib.hid (by rw [← HNY.out]; exact hz)
        cases oy with
        | false =>
          have HSE : Hid (tStep (nbL f) s' = { s' with work := (t, k + 1) :: rest }) := Lib.hid (by
           obtain ⟨h1, h2⟩ := HY.out
           subst h2
           exact tStep_off HWK.out h1 HZY.out HOY.out.symm)
          go_wp2
          go_roundg (mu (nbL f) (graphLits f) (tStep (nbL f) s'))
          case measure => exact HMLT.out
          case rel =>
           have hwk2 : (tStep (nbL f) s').work = (t, k + 1) :: rest := by rw [HSE.out]
           refine ⟨tStep (nbL f) s', fr2, pv', cv', vs', g, cap, n, rfl, hn, hcap, Lib.hid (by rw [hwk2]; exact HNN.out), HTV2, Lib.hid rfl, HFI2, Lib.hid ?_, Lib.hid ?_, HC6⟩
           · rw [HSE.out]; exact HT6.out.wk _
           · rw [hwk2]; exact HW6.out
        | true =>
          have HSE : Hid (tStep (nbL f) s' = { s' with low := fset s'.low t (min (s'.low t) (s'.num y)), work := (t, k + 1) :: rest }) := Lib.hid (by
           obtain ⟨h1, h2⟩ := HY.out
           subst h2
           exact tStep_on HWK.out h1 HZY.out HOY.out.symm)
          obtain ⟨lt, hlt⟩ : ∃ lt, lt = s'.low t := ⟨_, rfl⟩
          obtain ⟨mn, hmn⟩ : ∃ mn, mn = min lt ny := ⟨_, rfl⟩
          have hmin : min lt ny = mn := hmn.symm
          have HMN : Hid (mn = min (s'.low t) (s'.num y)) := Lib.hid (by rw [hmn, hlt, HNY.out])
          have HLT := Lib.hid hlt
          clear hmn hlt
          go_wp2
          clear hn6 ho6 hlk hlk1 hlk2 c0 c1 c2 c3 ct ck fk hcy HT HW HWZ HC
          generalize (w4.setCell ⟨g, m * 2 + 1, none⟩ (.int .i64 ((k : Int) + 1))).drew.drew = w6 at HT6 HW6 HC6 ⊢
          have c1 := HT6.out.fb.cell 1
          have c2 := HT6.out.fb.cell 2
          simp only [List.getElem?_cons_zero, List.getElem?_cons_succ] at c1 c2
          obtain ⟨ct, -, -⟩ := HW6.out.cellsOf
          rw [← HRM.out] at ct
          have T6 := HT6.out.ext (Ext.drew _)
          have hl7 := T6.lkl t
          have hn7 := T6.lkn y
          rw [← HLT.out] at hl7
          rw [← HNY.out] at hn7
          obtain ⟨w7, hup7, t7, k7⟩ := T6.setLow t mn HTN.out
          have HT7 := Lib.hid t7
          have HW7 := Lib.hid ((HW6.out.ext (Ext.drew _)).kp k7)
          have HC7 := Lib.hid (HC6.out.trans (((Ext.drew _).chg _).trans k7.chg))
          clear T6 t7 k7
          go_still_tail 24, (by kernel_rfl)
          go_wp2
          go_roundg (mu (nbL f) (graphLits f) (tStep (nbL f) s'))
          case measure => exact HMLT.out
          case rel =>
           have hwk2 : (tStep (nbL f) s').work = (t, k + 1) :: rest := by rw [HSE.out]
           refine ⟨tStep (nbL f) s', fr2, pv', cv', vs', g, cap, n, rfl, hn, hcap, Lib.hid (by rw [hwk2]; exact HNN.out), HTV2, Lib.hid rfl, HFI2, Lib.hid ?_, Lib.hid ?_, HC7⟩
           · rw [HSE.out, ← HMN.out]; exact HT7.out.wk _
           · rw [hwk2]; exact HW7.out
    · obtain rfl : k = L := by omega
      have hTWa := HT.out.ext (Ext.drew w4)
      have hTWb := hTWa.ext (Ext.drew _)
      have HSE0 : Hid (tStep (nbL f) s' = tPop s' t rest) := Lib.hid (tStep_pop HWK.out (by rw [← HLL.out]; exact Nat.lt_irrefl k))
      have hWp := (HWZ.out.pop.ext (Ext.drew w4)).ext (Ext.drew _)
      obtain ⟨lt, hlt⟩ : ∃ lt, lt = s'.low t := ⟨_, rfl⟩
      obtain ⟨nt, hnt⟩ : ∃ nt, nt = s'.num t := ⟨_, rfl⟩
      have HLT := Lib.hid hlt
      have HNT := Lib.hid hnt
      have hst := slice_to (P := Tryz.prog) Tryz.underlying114 info_step (some ⟨g, 0, none⟩) n cap m (by omega)
      have HNUM : Hid (∀ z ∈ s'.path, s'.num z ≠ 0) := Lib.hid (fun z hz => (HTV.out.ti.ent z).2 (.inl hz))
      have hmcap : m ≤ cap := by omega
      cases rest with
      | nil =>
        have hm0 : m = 0 := HRM.out
        have hll := hTWb.lkl t
        have hnn := hTWb.lkn t
        have hbt := HTV.out.bottom HWK.out
        rw [← hbt, ← hlt] at hnn
        rw [← hlt] at hll
        have HTWB := Lib.hid hTWb
        have HWP := Lib.hid hWp
        have HSE : Hid (tStep (nbL f) s' = tLeave { s' with work := [] } t) := Lib.hid (by
         rw [HSE0.out]; unfold tPop tUp; simp only [if_pos hbt])
        clear hTWa hTWb hWp hbt hlt hnt HSE0
        subst hm0
        go_region
        go_wp2
        go_region
        go_wp2_with (go_at_call 99; refine (leave_any base f B _ pv' cv' vs' { s' with work := [] } (HTWB.out.wk []) t (pathOf fs) r HPT.out HTP.out HNUM.out HPA2.out HCL2.out).mono ?_; rintro e w7 ⟨pv7, cv7, vs7, rfl, ht, hk⟩; have HT7 := Lib.hid ht; have HW7 := Lib.hid (HWP.out.kp hk); have HC7 : Hid (Chg (fun i => base ≤ i) w w7) := Lib.hid (HC.out.trans (((Ext.drew w4).chg _).trans (((Ext.drew _).chg _).trans hk.chg))); clear ht hk)
        go_roundg (mu (nbL f) (graphLits f) (tStep (nbL f) s'))
        case measure => exact HMLT.out
        case rel =>
         have hwk2 : (tStep (nbL f) s').work = [] := by rw [HSE.out]; rfl
         refine ⟨tStep (nbL f) s', fr2, pv7, cv7, vs7, g, cap, 0, rfl, by omega, by omega, Lib.hid (by rw [hwk2]; rfl), HTV2, Lib.hid rfl, HFI2, Lib.hid ?_, Lib.hid ?_, HC7⟩
         · rw [HSE.out]; exact HT7.out
         · rw [hwk2]; exact HW7.out
      | cons p rest2 =>
        obtain ⟨u, ku⟩ := p
        obtain ⟨m2, hm2⟩ : ∃ m2, m2 = rest2.length := ⟨_, rfl⟩
        have hmm : m = m2 + 1 := by rw [HRM.out, hm2]; rfl
        have hwr2 : IntKind.i64.wrap ((m : Int) - 1) = (m2 : Int) := by rw [IntWalk.i64_in _ (by omega)]; omega
        have hm0 : 0 < m := by omega
        have hm0' : (0 : Int) < m := by omega
        have hmm2 : m2 < m := by omega
        have HMM := Lib.hid hmm
        obtain ⟨cu, -, -⟩ := HWZ.out.pop.cellsOf
        rw [← hm2] at cu
        have hup : u ∈ s'.path := by
         have h1 := HRE.out
         cases fs with
         | nil => cases h1
         | cons f1 fs1 =>
           simp only [List.map_cons, List.cons.injEq, Prod.mk.injEq] at h1
           rw [HPT.out, h1.1.1]
           simp [pathOf]
        have hut : t ≠ u := fun e => by
         have h1 := HRE.out
         have h2 := HTP.out
         cases fs with
         | nil => cases h1
         | cons f1 fs1 =>
           simp only [List.map_cons, List.cons.injEq, Prod.mk.injEq] at h1
           exact h2 (by rw [e, h1.1.1]; simp [pathOf])
        obtain ⟨lu, hlu⟩ : ∃ lu, lu = s'.low u := ⟨_, rfl⟩
        obtain ⟨mn, hmn⟩ : ∃ mn, mn = min lu lt := ⟨_, rfl⟩
        have hmin : min lu lt = mn := hmn.symm
        have HUN : Hid (s'.num u ≠ 0) := Lib.hid ((HTV.out.ti.ent u).2 (.inl hup))
        have HUT := Lib.hid hut
        have HSE1 : Hid (tStep (nbL f) s' = if lt = nt then tLeave { s' with low := fset s'.low u mn, work := (u, ku) :: rest2 } t else { s' with low := fset s'.low u mn, work := (u, ku) :: rest2 }) := Lib.hid (by
         rw [HSE0.out]; unfold tPop tUp
         simp only [fset_ne _ _ hut, hmn, hlt, hnt, hlu])
        have HRL : Hid (m = ((u, ku) :: rest2).length) := HRM
        have HTA := Lib.hid hTWa
        have HWA : Hid (WS w4.drew w.heap.size g cap ((u, ku) :: rest2)) := Lib.hid (HWZ.out.pop.ext (Ext.drew w4))
        have HCA : Hid (Chg (fun i => base ≤ i) w w4.drew) := Lib.hid (HC.out.trans ((Ext.drew w4).chg _))
        have HLU := Lib.hid hlu
        clear hTWa hTWb hWp hlt hnt hlu HSE0 hmm hm2 hup hut hmn
        go_region
        go_wp2
        clear hlk hlk1 hlk2 c0 c1 c2 c3 ct ck fk cu HT HW HWZ HC
        generalize w4.drew = w5 at HTA HWA HCA ⊢
        have c1 := HTA.out.fb.cell 1
        have c2 := HTA.out.fb.cell 2
        simp only [List.getElem?_cons_zero, List.getElem?_cons_succ] at c1 c2
        have T5 := HTA.out.ext (Ext.drew _)
        have hlu7 := T5.lkl u
        have hlt7 := T5.lkl t
        rw [← HLU.out] at hlu7
        rw [← HLT.out] at hlt7
        obtain ⟨w7, hup7, t7, k7⟩ := T5.setLow u mn HUN.out
        have HT7 := Lib.hid t7
        have HW7 := Lib.hid ((HWA.out.ext (Ext.drew _)).kp k7)
        have HC7 : Hid (Chg (fun i => base ≤ i) w w7) := Lib.hid (HCA.out.trans (((Ext.drew w5).chg _).trans k7.chg))
        clear T5 t7 k7
        go_still_tail 18, (by kernel_rfl)
        go_wp2
        clear c1 c2 hlu7 hlt7 hup7 HTA HWA HCA
        have c1 := HT7.out.fb.cell 1
        have c2 := HT7.out.fb.cell 2
        simp only [List.getElem?_cons_zero, List.getElem?_cons_succ] at c1 c2
        have T8 := HT7.out.ext (Ext.drew _)
        have hl8 := T8.lkl t
        have hn8 := T8.lkn t
        have e8 : fset s'.low u mn t = lt := by rw [fset_ne _ _ HUT.out, HLT.out]
        simp only [e8, ← HNT.out] at hl8 hn8
        have HT8 := Lib.hid (T8.wk ((u, ku) :: rest2))
        have HW8 := Lib.hid (HW7.out.ext (Ext.drew _))
        have HC8 : Hid (Chg (fun i => base ≤ i) w w7.drew) := Lib.hid (HC7.out.trans ((Ext.drew w7).chg _))
        clear T8 e8
        by_cases hle : lt = nt
        · subst hle
          have HSE : Hid (tStep (nbL f) s' = tLeave { s' with low := fset s'.low u mn, work := (u, ku) :: rest2 } t) := Lib.hid (by rw [HSE1.out, if_pos rfl])
          go_region
          go_wp2_with (go_at_call 99; refine (leave_any base f B _ pv' cv' vs' { s' with low := fset s'.low u mn, work := (u, ku) :: rest2 } HT8.out t (pathOf fs) r HPT.out HTP.out HNUM.out HPA2.out HCL2.out).mono ?_; rintro e w9 ⟨pv9, cv9, vs9, rfl, ht, hk⟩; have HT9 := Lib.hid ht; have HW9 := Lib.hid (HW8.out.kp hk); have HC9 : Hid (Chg (fun i => base ≤ i) w w9) := Lib.hid (HC8.out.trans hk.chg); clear ht hk)
          go_roundg (mu (nbL f) (graphLits f) (tStep (nbL f) s'))
          case measure => exact HMLT.out
          case rel =>
           have hwk2 : (tStep (nbL f) s').work = (u, ku) :: rest2 := by rw [HSE.out]; rfl
           refine ⟨tStep (nbL f) s', fr2, pv9, cv9, vs9, g, cap, m, rfl, by omega, hmcap, Lib.hid (by rw [hwk2]; exact HRL.out), HTV2, Lib.hid rfl, HFI2, Lib.hid ?_, Lib.hid ?_, HC9⟩
           · rw [HSE.out]; exact HT9.out
           · rw [hwk2]; exact HW9.out
        · have hleb : (lt == nt) = false := by simpa using hle
          have HSE : Hid (tStep (nbL f) s' = { s' with low := fset s'.low u mn, work := (u, ku) :: rest2 }) := Lib.hid (by rw [HSE1.out, if_neg hle])
          go_region
          go_wp2
          go_roundg (mu (nbL f) (graphLits f) (tStep (nbL f) s'))
          case measure => exact HMLT.out
          case rel =>
           have hwk2 : (tStep (nbL f) s').work = (u, ku) :: rest2 := by rw [HSE.out]
           refine ⟨tStep (nbL f) s', fr2, pv', cv', vs', g, cap, m, rfl, by omega, hmcap, Lib.hid (by rw [hwk2]; exact HRL.out), HTV2, Lib.hid rfl, HFI2, Lib.hid ?_, Lib.hid ?_, HC8⟩
           · rw [HSE.out]; exact HT8.out
           · rw [hwk2]; exact HW8.out
end Go.Proofs.YtjecjaihficcdaaGreat
namespace Go.Proofs.YtjecjaihficcdaaGreat
open Go.RowKit
abbrev Hp (w0 : World) (base : Nat) : Type := { p : Value × List Int // OwnI w0 base p.1 p.2 ∧ All64 p.2 ∧ p.2 ≠ [] }
def hdI (l : List Int) : Int := l.headD 0
def hpF {w0 : World} {base : Nat} (x y : Hp w0 base) : Int := ordE (hdI x.1.2) (hdI y.1.2)
theorem hpF_lt {w0 : World} {base : Nat} (x y : Hp w0 base) : ltOf hpF x y = decide (elt (hdI x.1.2) (hdI y.1.2)) := by
 unfold ltOf hpF
 rw [decide_eq_decide]
 exact ordE_neg _ _
theorem swo_hp (w0 : World) (base : Nat) : Sort.SWO (ltOf (hpF (w0 := w0) (base := base))) := by
 refine ⟨fun x => ?_, fun x y z h k => ?_, fun x y z h k => ?_⟩
 · rw [hpF_lt, decide_eq_false_iff_not]; unfold elt; omega
 · rw [hpF_lt, decide_eq_true_eq] at *; unfold elt at *; omega
 · rw [hpF_lt, decide_eq_false_iff_not] at *; unfold elt at *; omega
theorem hdI_64 {l : List Int} (h : All64 l) : I64 (hdI l) := by
 cases l with
 | nil => unfold hdI I64; simp
 | cons x l => exact h x (by simp)
theorem RI.headI {w : World} {v : Value} {l : List Int} (h : RI w v l) (hn : l ≠ []) : ∃ ad n c, v = .slice (some ad) n c ∧ 0 < n ∧ w.cell? ad = some (.int .i64 (hdI l)) := by
 obtain ⟨A, c, rfl, h1, h2, h3⟩ := h
 cases l with
 | nil => exact absurd rfl hn
 | cons x l =>
   obtain ⟨ad, rfl, hc⟩ := h3.int 0 (by simp)
   refine ⟨ad, _, c, rfl, by simp, ?_⟩
   have e : ad.add 0 = ad := by unfold Addr.add; split <;> simp_all
   rw [e] at hc
   exact hc
set_option maxRecDepth 100000 in
set_option maxHeartbeats 1000000 in
theorem classes1_fn (xs ys : List Int) (v u : Value) (w : World) (hr : RI w v xs) (kr : RI w u ys) (hx : All64 xs) (hy : All64 ys) (nx : xs ≠ []) (ny : ys ≠ []) :
 Calls Tryz.prog 53 #[v, u] w fun e w' => e = .returned (.int .i64 (ordE (hdI xs) (hdI ys))) ∧ ∃ q os', w' = Sort.grow (w.drewN q) os' := by
 obtain ⟨ad, n, c, rfl, hn, h1⟩ := hr.headI nx
 obtain ⟨ad2, n2, c2, rfl, hn2, h2⟩ := kr.headI ny
 have hx0 := hdI_64 hx
 have hy0 := hdI_64 hy
 generalize hdI xs = a at h1 hx0 ⊢
 generalize hdI ys = b at h2 hy0 ⊢
 have HO := Lib.hid (fun W => orderE_any a b hx0 hy0 W)
 clear hr kr hx hy nx ny hx0 hy0
 go_enter Tryz.func53, Tryz.ntmps53
 go_wp2
 go_still_tail 6, (by kernel_rfl)
 go_wp2_with (go_at_call 41; refine (HO.out _).mono ?_; rintro e w' ⟨rfl, o, rfl⟩)
 go_ret
 exact ⟨rfl, 1, #[o], (show (w.alloc o).drew = (w.drewN 1).alloc o from rfl).trans (Sort.alloc_eq_grow _ o)⟩
theorem own_neb {w : World} {b b' s s' n n' k : Nat} {e e' : TypeId} {v v' : Value} {xs xs' : List Value} (h : w.ownsRow b e s v n xs) (h' : w.ownsRow b' e' s' v' n' xs') (hne : e ≠ e') (hk : v.ownBlock = some k) : v'.ownBlock ≠ some k := fun hk' => by
 obtain ⟨-, -, c1, e1⟩ := own_typed h hk
 obtain ⟨-, -, c2, e2⟩ := own_typed h' hk'
 rw [e1] at e2
 injection e2 with e2
 injection e2 with _ e2
 exact hne e2
theorem sortHL (w : World) (base bo : Nat) (ps : List (Hp w base)) (v : Value) (hown : w.ownsRow bo 24 1 v ps.length (ps.map fun p => p.1.1)) (hl : ps.length ≤ 100000000) (hv : ps = [] → v = .slice none 0 0) :
 Calls Tryz.prog 52 #[v, .func (.func 53) #[] #[]] w fun e w' => ∃ qs : List (Hp w base), e = .returned (.tuple #[]) ∧ w'.ownsRow bo 24 1 v qs.length (qs.map fun p => p.1.1) ∧ w.grownBy w' v.ownBlock ∧ qs.Perm ps ∧ qs.Pairwise (fun a b => ¬ elt (hdI b.1.2) (hdI a.1.2)) := by
 have hown0 := hown
 obtain ⟨h0, ⟨rfl, hz⟩ | ⟨g, cap, cur, rfl, hb, hg, hn, hm, hs, ht⟩⟩ := hown
 · have : ps = [] := List.length_eq_zero_iff.1 hz
   subst this
   refine (AnyF.slices_SortFunc_none (P := Tryz.prog) (ρ := Tryz.laysSlF6_f52_ren) { Tryz.laysSlF6_f52 with } none 0 _ w).mono ?_
   rintro e w' ⟨rfl, rfl⟩
   exact ⟨[], rfl, World.ownsRow_nil _ _ _ 1, ⟨rfl, rfl, rfl, Nat.le_refl _, fun _ _ _ => rfl⟩, List.Perm.refl _, List.Pairwise.nil⟩
 · haveI : Inhabited (Hp w base) := by
    cases ps with
    | nil => have := hv rfl; cases this
    | cons p _ => exact ⟨p⟩
   have hrd : ∀ (x : Hp w base) (m : Nat) (os : Array Obj) (dk : Array (Hp w base)), OwnI (sortWorld (fun p : Hp w base => p.1.1) w g 0 m dk os) base x.1.1 x.1.2 := fun x m os dk =>
    (grown_chg (sortW_grown dk)).own x.2.1 (fun b hb hs => own_neb x.2.1 hown0 (by decide) hb hs.symm)
   refine (Tryz.slices_SortFunc_f52 (fun p : Hp w base => p.1.1) (fun p => by obtain ⟨A, c, e, -⟩ := OwnI.reads p.2.1; show p.1.1.oneCell' = true; rw [e]; rfl) hpF (swo_hp w base) 53 #[] g 0 cap ps.toArray w (enters_of Tryz.func53 (by kernel_rfl) rfl)
    (fun m os dk _ x y => (classes1_fn x.1.2 y.1.2 x.1.1 y.1.1 _ (OwnI.reads (hrd x m os dk)) (OwnI.reads (hrd y m os dk)) x.2.2.1 y.2.2.1 x.2.2.2 y.2.2.2).mono fun e w' ⟨he, n, o, ho⟩ => ⟨he, n, o, ho⟩)
    (holds_blk hg (by rw [Nat.mul_one] at ht; exact ht)) (Array.getElem?_eq_some_iff.1 hg).1 (by simp; omega)).mono ?_
   rintro e w' ⟨rfl, d', n, os, ⟨hsz, -, hperm⟩, hsort, rfl⟩
   have hdl : d'.toList.length = ps.length := by simpa using hsz
   have hp : d'.toList.Perm ps := by
    have h1 : d'.extract 0 ps.toArray.size = d' := by rw [← hsz]; simp
    have h2 : ps.toArray.extract 0 ps.toArray.size = ps.toArray := by simp
    rw [h1, h2] at hperm
    simpa using hperm
   refine ⟨d'.toList, rfl, ?_, sortW_grown d', hp, ?_⟩
   · have h3 := sortW_heap (enc := fun p : Hp w base => p.1.1) (n := n) (os := os) d' hg
     have h4 := take_putc (enc := fun p : Hp w base => p.1.1) cur d'.toList (by omega)
     rw [hdl] at h4
     rw [hdl]
     refine ⟨by simp [hdl], .inr ⟨g, cap, _, rfl, hb, h3, hn, hm, by simp [Sort.putCells, hs], ?_⟩⟩
     rw [Nat.mul_one]
     simpa using h4
   · rw [List.pairwise_iff_getElem]
     intro i j hi hj hij
     have := hsort i j (Nat.zero_le _) hij (by simp; omega)
     rw [hpF_lt, decide_eq_false_iff_not] at this
     have hi' : i < d'.size := by simpa using hi
     have hj' : j < d'.size := by simpa using hj
     rw [getElem!_pos d' i hi', getElem!_pos d' j hj'] at this
     simpa using this
end Go.Proofs.YtjecjaihficcdaaGreat
namespace Go.Proofs.YtjecjaihficcdaaGreat
def t0 : Tj := ⟨fun _ => 0, fun _ => 0, fun _ => false, 0, [], [], []⟩
theorem t0_TI (nb : Int → List Int) : TI nb t0 [] :=
 ⟨rfl, rfl, List.Pairwise.nil, fun y => by simp [t0], fun y => by simp [t0], fun y => by simp [t0], fun y hy => by simp [t0] at hy, fun y hy => by simp [t0] at hy, fun y hy => by simp [t0] at hy,
  fun f hf => by simp at hf, fun f hf => by simp at hf, List.Pairwise.nil, fun C hC => by simp [t0] at hC, fun A C B he => by simp [t0] at he, by simp [t0]⟩
theorem t0_TV (nb : Int → List Int) (U : List Int) : TV nb U t0 [] := ⟨t0_TI nb, fun y hy => absurd rfl hy, rfl⟩
def tOne (nb : Int → List Int) (U : List Int) (s : Tj) (x : Int) : Tj := if s.num x = 0 then tVisit nb U s x else s
def tAll (nb : Int → List Int) (U xs : List Int) : Tj := xs.foldl (tOne nb U) t0
theorem tAll_snoc (nb : Int → List Int) (U xs : List Int) (x : Int) : tAll nb U (xs ++ [x]) = tOne nb U (tAll nb U xs) x := by unfold tAll; rw [List.foldl_append]; rfl
def clsOf (f : List (List Int)) : List (List Int) := (tAll (nbL f) (graphLits f) (graphLits f)).cls.map (setL [])
def goodC (c : List Int) : Bool := decide (1 < c.length) && (decide (0 < c.headD 0) || decide (c.tail.headD 0 = -(c.headD 0)))
end Go.Proofs.YtjecjaihficcdaaGreat
namespace Go.Proofs.YtjecjaihficcdaaGreat
open Go.RowKit
def ClassesP (f L : List (List Int)) : Prop := L.Perm ((clsOf f).filter goodC) ∧ L.Pairwise fun a b => ¬ elt (hdI b) (hdI a)
theorem graphLits_len (f : List (List Int)) : (graphLits f).length ≤ 4 * f.length := by
 have h1 := setL_len ((lits2 f).flatMap fun x => [x, -x]) []
 have h2 : ((lits2 f).flatMap fun x => [x, -x]).length = 2 * (lits2 f).length := by
  induction lits2 f with
  | nil => rfl
  | cons a l ih => rw [List.flatMap_cons, List.length_append, ih]; simp; omega
 have := lits2_len f
 unfold graphLits
 rw [h2, List.length_nil, Nat.zero_add] at h1
 omega
theorem graphLits_nodup (f : List (List Int)) : (graphLits f).Nodup := by
 unfold graphLits
 exact (setL_sorted _ List.Pairwise.nil).imp fun {a b} h e => by subst e; unfold blt at h; omega
theorem graphLits_nb (f : List (List Int)) : ∀ y ∈ graphLits f, ∀ z ∈ nbL f y, z ∈ graphLits f := fun _ _ z hz => (mem_graphLits f z).2 (.inl (nbL_mem hz).1)
theorem TW.start {W : World} {f : List (List Int)} {g n : Nat} {ks : List (Int × Value)} {lv : Value} {lx : List Int} (hg : GR W g ks f) (hgb : ∀ k, GB g ks k → k < n) (h1 : MapK kvI W n []) (h2 : MapK kvI W (n + 1) []) (h3 : MapK kvI W (n + 2) [])
 (hb : Blk W (n + 3) 80 [.map (some g), .map (some n), .map (some (n + 1)), .map (some (n + 2)), .slice none 0 0, .slice none 0 0]) (hl : OwnI W n lv lx) : TW n f ⟨n + 3, g, n, n + 1, n + 2, ks, lv, lx⟩ W (.slice none 0 0) (.slice none 0 0) [] t0 := by
 refine ⟨hb, hg, hgb, ⟨[], h1, rfl, fun k => ?_⟩, ⟨[], h2, fun k => ?_, fun k _ => ?_⟩, ⟨[], h3, fun k => ?_, fun k _ => ?_⟩, OwnI.nil _ _, ⟨World.ownsRow_nil _ _ _ 1, rfl, fun j hj => absurd hj (Nat.not_lt_zero j), by simp, List.Pairwise.nil⟩, ⟨by simp, by simp, by simp⟩, ⟨by simp, by simp, by simp, by simp⟩, Nat.le_of_lt h1.lt, hl, fun k _ => by simp [Value.ownBlock]⟩
 all_goals rfl
theorem lift_sub {α : Type} {P : α → Prop} : ∀ l : List α, (∀ a ∈ l, P a) → ∃ q : List { a // P a }, q.map Subtype.val = l
 | [], _ => ⟨[], rfl⟩
 | a :: l, h => by
   obtain ⟨q, hq⟩ := lift_sub l (fun b hb => h b (by simp [hb]))
   exact ⟨⟨a, h a (by simp)⟩ :: q, by rw [List.map_cons, hq]⟩
theorem fin_new (w : World) (g : Nat) : ∃ W : World, W = (((w.alloc (Obj.map #[] 0)).alloc (Obj.map #[] 0)).alloc (Obj.map #[] 0)).alloc (Obj.cells #[Value.map (some g), Value.map (some w.heap.size), Value.map (some (w.heap.size + 1)), Value.map (some (w.heap.size + 1 + 1)), Value.slice none 0 0, Value.slice none 0 0] 80) ∧
 MapK kvI W w.heap.size [] ∧ MapK kvI W (w.heap.size + 1) [] ∧ MapK kvI W (w.heap.size + 2) [] ∧ Blk W (w.heap.size + 3) 80 [.map (some g), .map (some w.heap.size), .map (some (w.heap.size + 1)), .map (some (w.heap.size + 2)), .slice none 0 0, .slice none 0 0] ∧ Ext w W ∧ w.heap.size ≤ W.heap.size := by
 refine ⟨_, rfl, ?_, ?_, ?_, ?_, ?_, ?_⟩
 · exact (((MapK.new w).ext (Ext.alloc _ _)).ext (Ext.alloc _ _)).ext (Ext.alloc _ _)
 · have h := MapK.new (kv := kvI) (w.alloc (Obj.map #[] 0))
   rw [show (w.alloc (Obj.map #[] 0)).heap.size = w.heap.size + 1 by simp] at h
   exact (h.ext (Ext.alloc _ _)).ext (Ext.alloc _ _)
 · have h := MapK.new (kv := kvI) ((w.alloc (Obj.map #[] 0)).alloc (Obj.map #[] 0))
   rw [show ((w.alloc (Obj.map #[] 0)).alloc (Obj.map #[] 0)).heap.size = w.heap.size + 2 by simp] at h
   exact h.ext (Ext.alloc _ _)
 · have h := Blk.new (((w.alloc (Obj.map #[] 0)).alloc (Obj.map #[] 0)).alloc (Obj.map #[] 0)) 80 [.map (some g), .map (some w.heap.size), .map (some (w.heap.size + 1)), .map (some (w.heap.size + 2)), .slice none 0 0, .slice none 0 0]
   rw [show (((w.alloc (Obj.map #[] 0)).alloc (Obj.map #[] 0)).alloc (Obj.map #[] 0)).heap.size = w.heap.size + 3 by simp] at h
   exact h
 · exact (((Ext.alloc w _).trans (Ext.alloc _ _)).trans (Ext.alloc _ _)).trans (Ext.alloc _ _)
 · simp; omega
def PostCls (w : World) (f : List (List Int)) (e : Ending) (w' : World) : Prop := ∃ v L, e = .returned v ∧ RLL w' v L ∧ Ext w w' ∧ (mayCnfB f = false → L = []) ∧ (mayCnfB f = true → ClassesP f L)
set_option maxRecDepth 100000 in
set_option maxHeartbeats 8000000 in
theorem classes_any (f : List (List Int)) (u : Value) (w : World) (kr : RLL w u f) (h64 : All64L f) (ht : f.length ≤ 20000 → total f ≤ 9223372036854775807) :
 Calls Tryz.prog 17 #[u] w (PostCls w f) := by
 have HKR := Lib.hid kr
 have HM := Lib.hid (fun w' (hE : Ext w w') => mayCnf_any u f w' (RLL.ext' kr hE) h64 ht)
 clear kr
 cases hm : mayCnfB f
 · have HMF := Lib.hid hm
   rw [hm] at HM
   clear hm
   go_enter Tryz.func17, Tryz.ntmps17
   go_wp2_with (go_at_call 37; refine (HM.out _ (Ext.refl _)).mono ?_; rintro e w1 ⟨rfl, hE⟩; have HE := Lib.hid hE; clear hE)
   go_ret
   exact ⟨_, [], rfl, RLL.none _, HE.out, fun _ => rfl, fun h => by rw [HMF.out] at h; cases h⟩
 · rw [hm] at HM
   have HMM := Lib.hid hm
   clear hm
   go_enter Tryz.func17, Tryz.ntmps17
   have hmm := @run_makeMap Tryz.prog
   go_upto_region 4 with (first
    | (go_at_call 37; refine (HM.out _ (Ext.refl _)).mono ?_; rintro e w1 ⟨rfl, hE⟩; have HE := Lib.hid hE; clear hE)
    | (go_at_call 39; refine (implications_any f _ _ h64 (RLL.ext' HKR.out HE.out) HMM.out).mono ?_; rintro e w2 ⟨g, ks, rfl, hg, hE⟩; have HG := Lib.hid (GM.reads hg); have HE2 := Lib.hid (HE.out.trans hE); clear hg hE))
   obtain ⟨W, hW, m1, m2, m3, hb, hEW, hsW⟩ := fin_new w2 g
   have HB := Lib.hid hb
   have HM1 := Lib.hid m1
   have HM2 := Lib.hid m2
   have HM3 := Lib.hid m3
   have HEW := Lib.hid hEW
   have hWf : Hid (W = (((w2.alloc (Obj.map #[] 0)).alloc (Obj.map #[] 0)).alloc (Obj.map #[] 0)).alloc (Obj.cells #[Value.map (some g), Value.map (some w2.heap.size), Value.map (some (w2.heap.size + 1)), Value.map (some (w2.heap.size + 1 + 1)), Value.slice none 0 0, Value.slice none 0 0] 80)) := Lib.hid hW
   clear hb m1 m2 m3 hEW hW
   go_wp2_with (go_at_call 46
                rw [← hWf.out]
                refine (literals_any f g ks _ (HG.out.ext HEW.out) HMM.out (by have := keys_len HG.out; have := mayCnfB_len HMM.out; omega)).mono ?_
                rintro e w3 ⟨v3, rfl, ho, hE⟩
                have HS := Lib.hid (TW.start (HG.out.ext (HEW.out.trans hE)) (fun k hk => HG.out.lt hk) (HM1.out.ext hE) (HM2.out.ext hE) (HM3.out.ext hE) ((hE.chg (fun _ => False)).blk HB.out id) (own_lower ho hsW))
                have HE3 : Hid (Ext w w3) := Lib.hid (HE2.out.trans (HEW.out.trans hE))
                obtain ⟨LA, lc, hv3, hl1, hl2, -⟩ := OwnI.reads ho
                subst hv3
                clear ho hE)
   obtain ⟨B, hB⟩ : ∃ B : FB, B = ⟨w2.heap.size + 3, g, w2.heap.size, w2.heap.size + 1, w2.heap.size + 2, ks, .slice LA (graphLits f).length lc, graphLits f⟩ := ⟨_, rfl⟩
   have hF : w2.heap.size + 1 + 1 + 1 = B.F := by rw [hB]
   have HLV : Hid (B.lv = .slice LA (graphLits f).length lc) := Lib.hid (by rw [hB])
   have HLX : Hid (B.lx = graphLits f) := Lib.hid (by rw [hB])
   rw [← hB] at HS
   rw [hF]
   have hbw : w.heap.size ≤ w2.heap.size := HE2.out.size
   obtain ⟨base, hbase⟩ : ∃ base, base = w2.heap.size := ⟨_, rfl⟩
   rw [← hbase] at HS hbw
   have hU : (graphLits f).length ≤ 100000 := by have := graphLits_len f; have := mayCnfB_len HMM.out; omega
   have HUL := Lib.hid hU
   obtain ⟨L, hL⟩ : ∃ L, L = (graphLits f).length := ⟨_, rfl⟩
   rw [← hL] at hl1 hl2 hU HLV
   rw [← hL]
   have HL := Lib.hid hL
   clear hB hF hbase hL hsW hmm
   go_loopg [24] L (fun gn i wr => ∃ k pv cv vs, k ≤ L ∧ gn + k = L ∧ i = .int .i64 (k : Int) ∧ Hid (TW base f B wr pv cv vs (tAll (nbL f) (graphLits f) ((graphLits f).take k))) ∧ Hid (TV (nbL f) (graphLits f) (tAll (nbL f) (graphLits f) ((graphLits f).take k)) []) ∧ Hid (Chg (fun i => base ≤ i) w3 wr))
   case atStart => exact ⟨0, _, _, _, Nat.zero_le _, by omega, rfl, HS, Lib.hid (t0_TV _ _), Lib.hid (Chg.refl _ _)⟩
   case round =>
    obtain ⟨k, pv, cv, vs, hk, hgk, rfl, HT, HTV, HC⟩ := hrel
    obtain ⟨w4, rfl⟩ : ∃ w4 : World, w4 = wr := ⟨_, rfl⟩
    by_cases hlt : k < L
    · have hkf : k < (graphLits f).length := Nat.lt_of_lt_of_le hlt (Nat.le_of_eq HL.out)
      obtain ⟨ad, had, hcell⟩ : ∃ ad, LA = some ad ∧ w4.cell? (ad.add k) = some (.int .i64 (graphLits f)[k]) := by
       have h1 := HT.out.lit
       rw [HLX.out] at h1
       obtain ⟨A', c', e1, -, -, e4⟩ := OwnI.reads h1
       rw [HLV.out] at e1
       injection e1 with a1 a2 a3
       subst a1
       exact e4.int k hkf
      subst had
      have hsn : tAll (nbL f) (graphLits f) ((graphLits f).take (k + 1)) = tOne (nbL f) (graphLits f) (tAll (nbL f) (graphLits f) ((graphLits f).take k)) (graphLits f)[k] := by
       rw [List.take_succ_eq_append_getElem hkf, tAll_snoc]
      have hym : (graphLits f)[k] ∈ graphLits f := List.getElem_mem hkf
      generalize (graphLits f)[k] = y at hcell hsn hym
      obtain ⟨s, hs⟩ : ∃ s, s = tAll (nbL f) (graphLits f) ((graphLits f).take k) := ⟨_, rfl⟩
      rw [← hs] at HT HTV hsn
      have c1 := HT.out.fb.cell 1
      simp only [List.getElem?_cons_zero, List.getElem?_cons_succ] at c1
      have hln := HT.out.lkn y
      obtain ⟨ny, hny⟩ : ∃ ny, ny = s.num y := ⟨_, rfl⟩
      rw [← hny] at hln
      have HNY := Lib.hid hny
      have HSN := Lib.hid hsn
      have HYM := Lib.hid hym
      have hwrk : IntKind.i64.wrap ((k : Int) + 1) = (k : Int) + 1 := IntWalk.i64_in _ (by omega)
      clear hs hny hsn hym hkf
      by_cases hz : ny = 0
      · subst hz
        go_wp2_with (go_at_call 50; refine (visit_any base f B _ pv cv vs s HT.out HTV.out y HNY.out.symm HYM.out HUL.out (graphLits_nodup f) (graphLits_nb f)).mono ?_; rintro e w5 ⟨pv5, cv5, vs5, rfl, ht, htv, hc⟩; have HT5 := Lib.hid ht; have HTV5 := Lib.hid htv; have HC5 := Lib.hid (HC.out.trans hc); clear ht htv hc)
        go_roundg (L - (k + 1))
        case measure => omega
        case rel =>
         have e : tAll (nbL f) (graphLits f) ((graphLits f).take (k + 1)) = tVisit (nbL f) (graphLits f) s y := by rw [HSN.out]; unfold tOne; rw [if_pos HNY.out.symm]
         exact ⟨k + 1, pv5, cv5, vs5, by omega, by omega, by go_num, by rw [e]; exact HT5, by rw [e]; exact HTV5, HC5⟩
      · have hzb : (ny == 0) = false := by simpa using hz
        go_wp2
        go_roundg (L - (k + 1))
        case measure => omega
        case rel =>
         have e : tAll (nbL f) (graphLits f) ((graphLits f).take (k + 1)) = s := by rw [HSN.out]; unfold tOne; rw [if_neg (by rw [← HNY.out]; exact hz)]
         exact ⟨k + 1, pv, cv, vs, by omega, by omega, by go_num, by rw [e]; exact HT, by rw [e]; exact HTV, HC⟩
    · obtain rfl : k = L := by omega
      have htk : (graphLits f).take k = graphLits f := by rw [HL.out, List.take_length]
      rw [htk] at HT HTV
      obtain ⟨T, hT⟩ : ∃ T, T = tAll (nbL f) (graphLits f) (graphLits f) := ⟨_, rfl⟩
      rw [← hT] at HT HTV
      have HTT := Lib.hid hT
      clear htk hT
      have c5 := HT.out.fb.cell 5
      simp only [List.getElem?_cons_zero, List.getElem?_cons_succ] at c5
      obtain ⟨CA, cc, hcv, q1, q2, -⟩ := own_row HT.out.cls.1
      rw [hcv] at c5
      have HCV := Lib.hid hcv
      clear hcv
      obtain ⟨v1, v2, v3, v4, v5⟩ := HT.out.cls
      obtain ⟨n, hn⟩ : ∃ n, n = vs.length := ⟨_, rfl⟩
      have HN := Lib.hid hn
      rw [← hn] at q1 q2 c5
      have HV2 := Lib.hid v2
      have HV3 := Lib.hid v3
      have HV5 := Lib.hid v5
      have HV1 : Hid (w4.ownsRow base 24 1 (.slice CA n cc) n vs) := Lib.hid (by rw [HCV.out] at v1; rw [hn]; exact v1)
      have hnl : n ≤ 1000000 := by have := HTV.out.clsl; have := HUL.out; omega
      have hb4 : base ≤ w4.heap.size := HT.out.sz
      have HCF : Hid (∀ C ∈ T.cls, C.Nodup ∧ C.length ≤ 1000000 ∧ All64 C ∧ ∀ x ∈ C, varOf x ≠ 0) := Lib.hid (fun C hC => by
       have hsub : ∀ x ∈ C, x ∈ graphLits f := fun x hx => HTV.out.inU x ((HTV.out.ti.ent x).2 (.inr (List.mem_flatten.2 ⟨C, hC, hx⟩)))
       have hnd : C.Nodup := (List.pairwise_flatten.1 HTV.out.ti.clsn).1 C hC
       have hvar : ∀ x ∈ C, varOf x ≠ 0 := fun x hx => by
        rcases (mem_graphLits f x).1 (hsub x hx) with h | h
        · exact lits2_var HMM.out x h
        · have := lits2_var HMM.out _ h; rwa [varOf_neg] at this
       refine ⟨hnd, ?_, fun x hx => ?_, hvar⟩
       · have := nodup_len C (graphLits f) hnd hsub
         have := HUL.out; omega
       · have := varOf_eq (hvar x hx)
         have := varOf_range x
         unfold I64; omega)
      obtain ⟨i0, hi, hz0, hz1, hz2⟩ := info_parts info_ints
      have HI := Lib.hid hi
      have HZ := Lib.hid hz0
      have HZ1 := Lib.hid hz1
      have HZ2 := Lib.hid hz2
      clear hn v1 v2 v3 v4 v5 hi hz0 hz1 hz2
      go_wp2
      go_loopg [7, 44] n (fun gn ov i wr => ∃ (k2 : Nat) (ps : List (Value × List Int)), k2 ≤ n ∧ gn + k2 = n ∧ i = .int .i64 (k2 : Int) ∧ Hid (ps.length ≤ k2) ∧ Hid (wr.ownsRow base 24 1 (.slice CA n cc) n vs) ∧
       Hid (∀ (j : Nat) (h : j < vs.length) (h' : j < T.cls.length), (j < k2 → OwnI wr base vs[j] (setL [] T.cls[j])) ∧ (k2 ≤ j → OwnI wr base vs[j] T.cls[j])) ∧
       Hid (wr.ownsRow w4.heap.size 24 1 ov ps.length (ps.map Prod.fst)) ∧ Hid (ps = [] → ov = .slice none 0 0) ∧ Hid (ps.map Prod.snd = ((T.cls.take k2).map (setL [])).filter goodC) ∧
       Hid (∀ p ∈ ps, ∃ (j : Nat) (h : j < vs.length) (h' : j < T.cls.length), j < k2 ∧ p = (vs[j], setL [] T.cls[j])) ∧ Hid (Chg (fun i => base ≤ i) w4 wr) ∧ Hid (w4.heap.size ≤ wr.heap.size))
      case atStart =>
       exact ⟨0, [], Nat.zero_le _, by omega, rfl, Lib.hid (Nat.le_refl _), HV1, Lib.hid (fun j h h' => ⟨fun h0 => absurd h0 (Nat.not_lt_zero j), fun _ => HV3.out j h h'⟩), Lib.hid (World.ownsRow_nil _ _ _ 1), Lib.hid (fun _ => rfl), Lib.hid rfl, Lib.hid (fun p hp => by cases hp), Lib.hid (Chg.refl _ _), Lib.hid (Nat.le_refl _)⟩
      case round =>
       obtain ⟨k2, ps, hk2, hgk2, rfl, HPL, HR1, HR2, HR3, HR4, HR5, HR6, HR7, HR8⟩ := hrel
       obtain ⟨w5, rfl⟩ : ∃ w5 : World, w5 = wr := ⟨_, rfl⟩
       by_cases hlt2 : k2 < n
       · have hkv : k2 < vs.length := Nat.lt_of_lt_of_le hlt2 (Nat.le_of_eq HN.out)
         have hkc : k2 < T.cls.length := by rw [← HV2.out]; exact hkv
         have hrow : Row w5 CA vs := by
          have h1 := HR1.out
          have h2 : w5.ownsRow base 24 1 (.slice CA n cc) vs.length vs := by rw [← HN.out]; exact h1
          obtain ⟨A', c', e1, -, -, e4⟩ := own_row h2
          injection e1 with a1 a2 a3
          subst a1; exact e4
         obtain ⟨ad, had, hcell⟩ := hrow k2 hkv
         subst had
         have hk2own := (HR2.out k2 hkv hkc).2 (Nat.le_refl _)
         have hcf := HCF.out T.cls[k2] (List.getElem_mem hkc)
         obtain ⟨vk, hvk⟩ : ∃ vk, vk = vs[k2] := ⟨_, rfl⟩
         obtain ⟨C, hC⟩ : ∃ C, C = T.cls[k2] := ⟨_, rfl⟩
         rw [← hvk] at hcell hk2own
         rw [← hC] at hk2own hcf
         have HVK : Hid (∃ h : k2 < vs.length, vk = vs[k2]) := Lib.hid ⟨hkv, hvk⟩
         have HCC : Hid (∃ h : k2 < T.cls.length, C = T.cls[k2]) := Lib.hid ⟨hkc, hC⟩
         have HKO := Lib.hid hk2own
         have HCF2 := Lib.hid hcf
         have hwrk : IntKind.i64.wrap ((k2 : Int) + 1) = (k2 : Int) + 1 := IntWalk.i64_in _ (by omega)
         obtain ⟨Ak, ck, hvke, -⟩ := OwnI.reads hk2own
         obtain ⟨nk, hnk⟩ : ∃ nk, nk = C.length := ⟨_, rfl⟩
         rw [← hnk] at hvke
         have HNK := Lib.hid hnk
         have hnk1 : nk ≤ 1000000 := by rw [hnk]; exact hcf.2.1
         subst hvke
         clear hkv hkc hrow hk2own hcf hvk hC hnk
         go_wp2_with (go_at_call 51; refine (SortE_own C _ base w5 HKO.out (by have := HCF2.out.2.1; omega) HCF2.out.2.2.1).mono ?_; rintro e w6 ⟨ys, rfl, ho, hgr, hp, hso⟩; have hys := sortE_set hp hso HCF2.out.1 HCF2.out.2.2.2; subst hys; have HO6 := Lib.hid ho; have HG6 := Lib.hid (grown_chg hgr); have HPE := Lib.hid hp; clear ho hgr hp hso)
         obtain ⟨ov, rfl⟩ : ∃ ov : Value, ov = u7 := ⟨_, rfl⟩
         have hR1b : w6.drew.ownsRow base 24 1 (.slice (some ad) n cc) n vs := own_ext (HG6.out.own HR1.out (fun b hb hs => own_neb HR1.out HKO.out (by decide) hb hs.symm)) (Ext.drew w6)
         have hR3b : w6.drew.ownsRow w4.heap.size 24 1 ov ps.length (ps.map Prod.fst) := own_ext (HG6.out.own HR3.out (fun b hb hs => own_neb HR3.out HKO.out (by decide) hb hs.symm)) (Ext.drew w6)
         have hR2b : ∀ (j : Nat) (h : j < vs.length) (h' : j < T.cls.length), (j < k2 + 1 → OwnI w6.drew base vs[j] (setL [] T.cls[j])) ∧ (k2 + 1 ≤ j → OwnI w6.drew base vs[j] T.cls[j]) := fun j h h' => by
          obtain ⟨g1, hvk⟩ := HVK.out
          obtain ⟨g2, hC⟩ := HCC.out
          have hp5 := List.pairwise_iff_getElem.1 HV5.out
          refine ⟨fun hj => ?_, fun hj => ?_⟩
          · by_cases e : j = k2
            · subst e
              rw [← hvk, ← hC]
              exact own_ext HO6.out (Ext.drew w6)
            · have h1 := (HR2.out j h h').1 (by omega)
              refine own_ext (HG6.out.own h1 (fun b hb hs => ?_)) (Ext.drew w6)
              rw [hvk] at hs
              exact hp5 j k2 h g1 (by omega) b hb hs.symm
          · have h1 := (HR2.out j h h').2 (by omega)
            refine own_ext (HG6.out.own h1 (fun b hb hs => ?_)) (Ext.drew w6)
            rw [hvk] at hs
            exact hp5 k2 j g1 h (by omega) b hs.symm hb
         have hR6b : ∀ p ∈ ps, ∃ (j : Nat) (h : j < vs.length) (h' : j < T.cls.length), j < k2 + 1 ∧ p = (vs[j], setL [] T.cls[j]) := fun p hp => by
          obtain ⟨j, h, h', h1, h2⟩ := HR6.out p hp
          exact ⟨j, h, h', by omega, h2⟩
         have hR5b : ((T.cls.take (k2 + 1)).map (setL [])).filter goodC = ps.map Prod.snd ++ (if goodC (setL [] C) = true then [setL [] C] else []) := by
          obtain ⟨g2, hC⟩ := HCC.out
          rw [List.take_succ_eq_append_getElem g2, List.map_append, List.filter_append, ← HR5.out, ← hC]
          congr 1
          cases hgd : goodC (setL [] C) <;> simp [hgd]
         have hR7b : Chg (fun i => base ≤ i) w4 w6.drew := HR7.out.trans ((HG6.out.mono fun i hi => (own_typed HKO.out hi.symm).1).trans ((Ext.drew w6).chg _))
         have hR8b : w4.heap.size ≤ w6.drew.heap.size := Nat.le_trans HR8.out (Nat.le_trans HG6.out.size (Ext.drew w6).size)
         have H1B := Lib.hid hR1b
         have H2B := Lib.hid hR2b
         have H3B := Lib.hid hR3b
         have H5B := Lib.hid hR5b
         have H6B := Lib.hid hR6b
         have H7B := Lib.hid hR7b
         have H8B := Lib.hid hR8b
         clear hR1b hR2b hR3b hR5b hR6b hR7b hR8b
         have HLEN : Hid (nk = (setL [] C).length) := Lib.hid (by rw [HNK.out, HPE.out.length_eq])
         by_cases h1 : 1 < nk
         · obtain ⟨a0, a1, rr, hse⟩ : ∃ a0 a1 rr, setL [] C = a0 :: a1 :: rr := by
            have := HLEN.out
            match hq : setL [] C with
            | [] => rw [hq] at this; simp at this; omega
            | [_] => rw [hq] at this; simp at this; omega
            | a0 :: a1 :: rr => exact ⟨a0, a1, rr, rfl⟩
           have hrd := OwnI.reads HO6.out
           rw [hse] at hrd
           obtain ⟨A', c', e1, -, -, e4⟩ := hrd
           injection e1 with a1' a2' a3'
           subst a1' a3'
           obtain ⟨ad2, had2, cc0⟩ := e4.int 0 (by simp)
           obtain ⟨ad3, had3, cc1⟩ := e4.int 1 (by simp)
           rw [had2] at had3
           injection had3 with had3
           subst had3 had2
           obtain ⟨g9, hg9⟩ : ∃ g9, ad2 = ⟨g9, 0, none⟩ := by
            obtain ⟨-, ⟨h, -⟩ | ⟨g9, cap9, cur, he, -⟩⟩ := HO6.out
            · cases h
            · injection he with he
              injection he with he
              exact ⟨g9, he⟩
           subst hg9
           rw [addr0] at cc0 cc1
           simp only [List.getElem_cons_zero, List.getElem_cons_succ] at cc0 cc1
           have hva : varOf a0 ≠ 0 := HCF2.out.2.2.2 a0 (HPE.out.mem_iff.1 (by rw [hse]; simp))
           have hva1 := varOf_eq hva
           have hva2 := varOf_range a0
           have hneg : IntKind.i64.wrap (-a0) = -a0 := IntWalk.i64_in _ (by omega)
           have HSE := Lib.hid hse
           clear hse a2' e4 hva hva1 hva2
           have h1i : (1 : Int) < (nk : Int) := by omega
           have h1b : decide ((1 : Int) < (nk : Int)) = true := decide_eq_true h1i
           have hn0 : 0 < nk := by omega
           by_cases p0 : 0 < a0
           · have p0b : decide (0 < a0) = true := by simpa using p0
             have HGD : Hid (goodC (setL [] C) = true) := Lib.hid (by rw [HSE.out]; unfold goodC; simp [p0])
             go_region
             generalize w6.drew = w7 at H1B H2B H3B H7B H8B ⊢
             go_wp2_with (at_builtin; refine wpList_append_own _ rfl (.tmp 69) (.tmp 71) 22 rfl w4.heap.size 24 i0 (.slice none 0 0) 1 24 Tryz.underlying22 HI.out HZ.out HZ1.out HZ2.out rfl (by decide) _ ps.length (ps.map Prod.fst) rfl (own_ext H3B.out (Ext.alloc w7 _)) ⟨w7.heap.size, 0, none⟩ 1 1 [.slice (some ⟨g9, 0, none⟩) nk ck] rfl rfl (one_cell w7 _ _) (by simp [Value.oneCell']) (by have := HPL.out; unfold maxLen; omega) (by have := HPL.out; omega) (by have := H8B.out; simp; omega) ?_; intro v' w8 hown hgr hnil; have HO8 := Lib.hid hown; have HG8 := Lib.hid (grown_chg hgr); have HNI := Lib.hid hnil; clear hown hgr hnil)
             go_roundg (n - (k2 + 1))
             case measure => omega
             case rel =>
              have hc8 : Chg (fun i => some i = ov.ownBlock) w7 w8 := ((Ext.alloc w7 _).chg _).trans HG8.out
              refine ⟨k2 + 1, ps ++ [(.slice (some ⟨g9, 0, none⟩) nk ck, setL [] C)], by omega, by omega, by go_num, Lib.hid (by have := HPL.out; rw [List.length_append, List.length_singleton]; omega), Lib.hid ?_, Lib.hid ?_, Lib.hid ?_, Lib.hid ?_, Lib.hid ?_, Lib.hid ?_, Lib.hid ?_, Lib.hid ?_⟩
              · exact hc8.own H1B.out (fun b hb hs => by
                 have h1 := (own_typed H3B.out hs.symm).1
                 have h2 := (own_typed HV1.out hb).2.1
                 omega)
              · exact fun j h h' => ⟨fun hj => hc8.own ((H2B.out j h h').1 hj) (fun b hb hs => own_neb ((H2B.out j h h').1 hj) H3B.out (by decide) hb hs.symm), fun hj => hc8.own ((H2B.out j h h').2 hj) (fun b hb hs => own_neb ((H2B.out j h h').2 hj) H3B.out (by decide) hb hs.symm)⟩
              · rw [List.map_append, List.length_append]; exact HO8.out
              · intro h; simp at h
              · rw [H5B.out, HGD.out, if_pos rfl, List.map_append]; rfl
              · intro p hp
                rcases List.mem_append.1 hp with hp | hp
                · exact H6B.out p hp
                · obtain ⟨g1, hvk⟩ := HVK.out
                  obtain ⟨g2, hC⟩ := HCC.out
                  simp at hp
                  exact ⟨k2, g1, g2, by omega, by rw [hp, ← hC, ← hvk]⟩
              · exact H7B.out.trans (hc8.mono fun i hi => by have := (own_typed H3B.out hi.symm).1; omega)
              · exact Nat.le_trans H8B.out hc8.size
           · have p0b : decide (0 < a0) = false := by simpa using p0
             by_cases q0 : a1 = -a0
             · have q0b : (a1 == -a0) = true := by simpa using q0
               have Q0 := Lib.hid q0
               clear q0
               have HGD : Hid (goodC (setL [] C) = true) := Lib.hid (by rw [HSE.out]; unfold goodC; simp [Q0.out])
               go_region
               generalize w6.drew = w7 at H1B H2B H3B H7B H8B ⊢
               go_wp2_with (at_builtin; refine wpList_append_own _ rfl (.tmp 69) (.tmp 71) 22 rfl w4.heap.size 24 i0 (.slice none 0 0) 1 24 Tryz.underlying22 HI.out HZ.out HZ1.out HZ2.out rfl (by decide) _ ps.length (ps.map Prod.fst) rfl (own_ext H3B.out (Ext.alloc w7 _)) ⟨w7.heap.size, 0, none⟩ 1 1 [.slice (some ⟨g9, 0, none⟩) nk ck] rfl rfl (one_cell w7 _ _) (by simp [Value.oneCell']) (by have := HPL.out; unfold maxLen; omega) (by have := HPL.out; omega) (by have := H8B.out; simp; omega) ?_; intro v' w8 hown hgr hnil; have HO8 := Lib.hid hown; have HG8 := Lib.hid (grown_chg hgr); have HNI := Lib.hid hnil; clear hown hgr hnil)
               go_roundg (n - (k2 + 1))
               case measure => omega
               case rel =>
                have hc8 : Chg (fun i => some i = ov.ownBlock) w7 w8 := ((Ext.alloc w7 _).chg _).trans HG8.out
                refine ⟨k2 + 1, ps ++ [(.slice (some ⟨g9, 0, none⟩) nk ck, setL [] C)], by omega, by omega, by go_num, Lib.hid (by have := HPL.out; rw [List.length_append, List.length_singleton]; omega), Lib.hid ?_, Lib.hid ?_, Lib.hid ?_, Lib.hid ?_, Lib.hid ?_, Lib.hid ?_, Lib.hid ?_, Lib.hid ?_⟩
                · exact hc8.own H1B.out (fun b hb hs => by
                   have h1 := (own_typed H3B.out hs.symm).1
                   have h2 := (own_typed HV1.out hb).2.1
                   omega)
                · exact fun j h h' => ⟨fun hj => hc8.own ((H2B.out j h h').1 hj) (fun b hb hs => own_neb ((H2B.out j h h').1 hj) H3B.out (by decide) hb hs.symm), fun hj => hc8.own ((H2B.out j h h').2 hj) (fun b hb hs => own_neb ((H2B.out j h h').2 hj) H3B.out (by decide) hb hs.symm)⟩
                · rw [List.map_append, List.length_append]; exact HO8.out
                · intro h; simp at h
                · rw [H5B.out, HGD.out, if_pos rfl, List.map_append]; rfl
                · intro p hp
                  rcases List.mem_append.1 hp with hp | hp
                  · exact H6B.out p hp
                  · obtain ⟨g1, hvk⟩ := HVK.out
                    obtain ⟨g2, hC⟩ := HCC.out
                    simp at hp
                    exact ⟨k2, g1, g2, by omega, by rw [hp, ← hC, ← hvk]⟩
                · exact H7B.out.trans (hc8.mono fun i hi => by have := (own_typed H3B.out hi.symm).1; omega)
                · exact Nat.le_trans H8B.out hc8.size
             · have q0b : (a1 == -a0) = false := by simpa using q0
               have HGD : Hid (goodC (setL [] C) = false) := Lib.hid (by rw [HSE.out]; unfold goodC; simp [q0, p0])
               go_region
               generalize w6.drew = w7 at H1B H2B H3B H7B H8B ⊢
               go_wp2
               go_roundg (n - (k2 + 1))
               case measure => omega
               case rel => exact ⟨k2 + 1, ps, by omega, by omega, by go_num, Lib.hid (by have := HPL.out; omega), H1B, H2B, H3B, HR4, Lib.hid (by rw [H5B.out, HGD.out, if_neg (by simp), List.append_nil]), H6B, H7B, H8B⟩
         · have h1i : ¬ (1 : Int) < (nk : Int) := by omega
           have h1b : decide ((1 : Int) < (nk : Int)) = false := decide_eq_false h1i
           have h1c : nk ≤ 1 := by omega
           have HGD : Hid (goodC (setL [] C) = false) := Lib.hid (by unfold goodC; rw [← HLEN.out]; simp [h1])
           go_region
           generalize w6.drew = w7 at H1B H2B H3B H7B H8B ⊢
           go_wp2
           go_roundg (n - (k2 + 1))
           case measure => omega
           case rel => exact ⟨k2 + 1, ps, by omega, by omega, by go_num, Lib.hid (by have := HPL.out; omega), H1B, H2B, H3B, HR4, Lib.hid (by rw [H5B.out, HGD.out, if_neg (by simp), List.append_nil]), H6B, H7B, H8B⟩
       · obtain rfl : k2 = n := by omega
         obtain ⟨ov, rfl⟩ : ∃ ov : Value, ov = u7 := ⟨_, rfl⟩
         have hall : ∀ p ∈ ps, OwnI w5 base p.1 p.2 ∧ All64 p.2 ∧ p.2 ≠ [] := fun p hp => by
          obtain ⟨j, h, h', hj, he⟩ := HR6.out p hp
          have hm : p.2 ∈ ps.map Prod.snd := List.mem_map.2 ⟨p, hp, rfl⟩
          rw [HR5.out] at hm
          have hg := (List.mem_filter.1 hm).2
          obtain ⟨C, hC, hCe⟩ := List.mem_map.1 (List.mem_filter.1 hm).1
          refine ⟨by rw [he]; exact (HR2.out j h h').1 hj, fun x hx => ?_, fun h0 => ?_⟩
          · rw [← hCe, mem_setL] at hx
            rcases hx with hx | hx
            · cases hx
            · exact (HCF.out C (List.mem_of_mem_take hC)).2.2.1 x hx
          · rw [h0] at hg; simp [goodC] at hg
         obtain ⟨qs0, hqs⟩ := lift_sub ps hall
         have hq1 : (qs0.map fun p => p.1.1) = ps.map Prod.fst := by rw [← hqs, List.map_map]; rfl
         have hq2 : (qs0.map fun p => p.1.2) = ps.map Prod.snd := by rw [← hqs, List.map_map]; rfl
         have hql : qs0.length = ps.length := by rw [← hqs, List.length_map]
         have HSO := Lib.hid (sortHL w5 base w4.heap.size qs0 ov (by rw [hql, hq1]; exact HR3.out) (by have := HPL.out; omega) (fun h => HR4.out (by rw [← hqs, h]; rfl)))
         have HQ2 := Lib.hid hq2
         clear hall hqs hq1 hq2 hql
         go_wp2_with (go_at_call 52; refine HSO.out.mono ?_; rintro e w6 ⟨qs, rfl, ho, hgr, hpe, hso⟩; have HO6 := Lib.hid ho; have HG6 := Lib.hid hgr; have HPE := Lib.hid hpe; have HSS := Lib.hid hso; clear ho hgr hpe hso)
         go_ret
         have hgc := grown_chg HG6.out
         refine ⟨_, qs.map (fun p => p.1.2), rfl, ?_, ?_, fun h => (by rw [HMM.out] at h; cases h), fun _ => ⟨?_, ?_⟩⟩
         · have h1 : w6.ownsRow w4.heap.size 24 1 ov (qs.map fun p => p.1.1).length (qs.map fun p => p.1.1) := by rw [List.length_map]; exact HO6.out
           obtain ⟨A', c', e1, l1, l2, l3⟩ := own_row h1
           refine ⟨A', c', _, e1, l1, l2, l3, by simp, fun j hj hj' => ?_⟩
           simp only [List.getElem_map]
           have hj2 : j < qs.length := by simpa using hj
           exact OwnI.reads (hgc.own (qs[j]).2.1 (fun b hb hs => own_neb (qs[j]).2.1 HR3.out (by decide) hb hs.symm))
         · have h1 := HC.out.toExt HE3.out (fun i hi => Nat.le_trans hbw hi)
           have h2 := HR7.out.toExt h1 (fun i hi => Nat.le_trans hbw hi)
           exact hgc.toExt h2 (fun i hi => by have := (own_typed HR3.out hi.symm).1; omega)
         · refine (HPE.out.map _).trans ?_
           rw [HQ2.out, HR5.out, HN.out, HV2.out, List.take_length]
           unfold clsOf
           rw [← HTT.out]
         · rw [List.pairwise_map]; exact HSS.out
end Go.Proofs.YtjecjaihficcdaaGreat
