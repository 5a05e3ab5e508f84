/- Walks and plain laws that this claim uses. -/
import Derived.Test.YtjecjaihficcdaaGreatTxD
import Derived.Test.YtjecjaihficcdaaGreatTxA
import Derived.Test.YtjecjaihficcdaaGreatTxF
import Derived.Test.YtjecjaihficcdaaGreatTxC
import Derived.IntWalk
import Derived.Deep.Cut
import Derived.Deep.CutRange
import Derived.ArgAppend
import Derived.Test.YtjecjaihficcdaaGreatTxE
import Derived.Test.YtjecjaihficcdaaGreatTxB
namespace Go.Proofs.YtjecjaihficcdaaGreat
open Go.RowKit
def kvI (n : Int) : Value := Value.int .i64 n
theorem fam_kvI : KeyFam Tryz.prog 3 kvI := fam_int Tryz.underlying3
def rowAt (ks : List (Int × Value)) (n : Int) : Value := (lkp ks n).getD (.slice none 0 0)
structure GM (e : TypeId) (w : World) (base g : Nat) (ks : List (Int × Value)) (rows : Int → List Value) : Prop where
 map : MapK kvI w g ks
 own : ∀ n, w.ownsRow base e 1 (rowAt ks n) (rows n).length (rows n)
 apart : ∀ n m b, n ≠ m → (rowAt ks n).ownBlock = some b → (rowAt ks m).ownBlock ≠ some b
 dom : ∀ n, (lkp ks n).isSome = true ↔ rows n ≠ []
 gb : base ≤ g
theorem row_ne_map {e : TypeId} {w : World} {base g n : Nat} {v : Value} {xs : List Value} {ks : List (Int × Value)} (h : w.ownsRow base e 1 v n xs) (hm : MapK kvI w g ks) : ∀ k, v.ownBlock = some k → ¬ k = g := by
 intro k hk e
 subst e
 obtain ⟨-, -, cur, h1⟩ := own_typed h hk
 obtain ⟨es, clock, h2, -⟩ := hm
 rw [h1] at h2
 cases h2
theorem GM.new (e : TypeId) (w : World) (base : Nat) (hb : base ≤ w.heap.size) : GM e (w.alloc (.map #[] 0)) base w.heap.size [] (fun _ => []) :=
 ⟨MapK.new w, fun _ => World.ownsRow_nil _ _ _ 1, fun _ _ _ _ h => by simp [rowAt, lkp, Value.ownBlock] at h, fun n => by simp [lkp], hb⟩
theorem GM.ext {e : TypeId} {w w' : World} {base g : Nat} {ks : List (Int × Value)} {rows : Int → List Value} (h : GM e w base g ks rows) (k : Ext w w') : GM e w' base g ks rows :=
 ⟨h.map.ext k, fun n => own_ext (h.own n) k, h.apart, h.dom, h.gb⟩
theorem rowAt_put (ks : List (Int × Value)) (n m : Int) (v : Value) : rowAt (kput ks n v) m = if m = n then v else rowAt ks m := by
 unfold rowAt
 rw [lkp_kput]
 split <;> rfl
theorem GM.put {e : TypeId} {w w1 w2 : World} {base g g' cap L : Nat} {ks : List (Int × Value)} {rows : Int → List Value} (h : GM e w base g ks rows) (n : Int) (u : Value) (hL : (rows n).length = L)
 (hown : w1.ownsRow base e 1 (.slice (some ⟨g', 0, none⟩) (L + 1) cap) (L + 1) (rows n ++ [u])) (hc : Chg (fun i => some i = (rowAt ks n).ownBlock) w w1) (hat : (rowAt ks n).ownBlock = some g' ∨ w.heap.size ≤ g')
 (hm : MapK kvI w2 g (kput ks n (.slice (some ⟨g', 0, none⟩) (L + 1) cap))) (hu : Chg (fun i => i = g) w1 w2) :
 GM e w2 base g (kput ks n (.slice (some ⟨g', 0, none⟩) (L + 1) cap)) (fset rows n (rows n ++ [u])) ∧ Chg (fun i => base ≤ i) w w2 := by
 have hg1 : MapK kvI w1 g ks := h.map.keep hc (fun e1 => row_ne_map (h.own n) h.map _ e1.symm rfl)
 have hown2 := hu.own hown (fun k hk => row_ne_map hown hg1 k hk)
 refine ⟨⟨hm, fun m => ?_, fun m m' b hne hb hb' => ?_, fun m => ?_, h.gb⟩, ?_⟩
 · rw [rowAt_put]
   by_cases hmn : m = n
   · subst hmn
     rw [if_pos rfl, fset_same]
     simpa [hL] using hown2
   · rw [if_neg hmn, fset_ne _ _ hmn]
     have h1 := hc.own (h.own m) (fun k hk e1 => h.apart m n k hmn hk e1.symm)
     exact hu.own h1 (fun k hk => row_ne_map (h.own m) h.map k hk)
 · rw [rowAt_put] at hb hb'
   by_cases h1 : m = n
   · subst h1
     rw [if_pos rfl] at hb
     rw [if_neg (fun e => hne e.symm)] at hb'
     injection hb with hb
     have hb2 : g' = b := hb
     subst hb2
     rcases hat with h2 | h2
     · exact h.apart m m' _ hne h2 hb'
     · have := (own_typed (h.own m') hb').2.1; omega
   · rw [if_neg h1] at hb
     by_cases h3 : m' = n
     · subst h3
       rw [if_pos rfl] at hb'
       injection hb' with hb'
       have hb2 : g' = b := hb'
       subst hb2
       rcases hat with h2 | h2
       · exact h.apart m' m _ (fun e => hne e.symm) h2 hb
       · have := (own_typed (h.own m) hb).2.1; omega
     · rw [if_neg h3] at hb'
       exact h.apart m m' b hne hb hb'
 · rw [lkp_kput]
   by_cases hmn : m = n
   · subst hmn
     rw [if_pos rfl, fset_same]; simp
   · rw [if_neg hmn, fset_ne _ _ hmn]
     exact h.dom m
 · exact (hc.mono fun i hi => (own_typed (h.own n) hi.symm).1).trans (hu.mono fun i hi => by rw [hi]; exact h.gb)
def impR (f : List (List Int)) (k : Nat) (y : Int) : List Value := (nbL (f.take k) y).map (Value.int .i64)
theorem nbL_succ (f : List (List Int)) (k : Nat) (hk : k < f.length) (y : Int) : nbL (f.take (k + 1)) y = nbL (f.take k) y ++ nbC y f[k] := by
 unfold nbL
 rw [List.take_succ_eq_append_getElem hk, List.flatMap_append]; simp
theorem nbC_len (y : Int) (c : List Int) : (nbC y c).length ≤ 2 := by
 unfold nbC
 split
 · rw [List.length_append]; split <;> split <;> simp
 · simp
theorem nbL_len (f : List (List Int)) (y : Int) : (nbL f y).length ≤ 2 * f.length := by
 unfold nbL
 induction f with
 | nil => simp
 | cons c f ih => rw [List.flatMap_cons, List.length_append, List.length_cons]; have := nbC_len y c; omega
theorem impR_two (f : List (List Int)) (k : Nat) (hk : k < f.length) (a b : Int) (hab : f[k] = [a, b]) :
 fset (fset (impR f k) (-a) (impR f k (-a) ++ [.int .i64 b])) (-b) (fset (impR f k) (-a) (impR f k (-a) ++ [.int .i64 b]) (-b) ++ [.int .i64 a]) = impR f (k + 1) := by
 funext y
 unfold impR
 rw [nbL_succ f k hk, hab, List.map_append]
 have e : (nbC y [a, b]) = (if -a = y then [b] else []) ++ (if -b = y then [a] else []) := rfl
 rw [e, List.map_append]
 by_cases h1 : y = -b
 · subst h1
   rw [fset_same, if_pos rfl]
   by_cases h2 : -b = -a
   · rw [h2, fset_same, if_pos rfl]; simp
   · rw [fset_ne _ _ h2, if_neg (fun e => h2 e.symm)]; simp
 · have n1 : ¬ -b = y := fun e => h1 e.symm
   rw [fset_ne _ _ h1, if_neg n1]
   by_cases h2 : y = -a
   · subst h2; rw [fset_same, if_pos rfl]; simp
   · have n2 : ¬ -a = y := fun e => h2 e.symm
     rw [fset_ne _ _ h2, if_neg n2]; simp
theorem impR_none (f : List (List Int)) (k : Nat) (hk : k < f.length) (h : f[k].length ≠ 2) : impR f k = impR f (k + 1) := by
 funext y
 unfold impR
 rw [nbL_succ f k hk]
 have : nbC y f[k] = [] := by
  unfold nbC
  split
  · rename_i e; rw [e] at h; exact absurd rfl h
  · rfl
 rw [this, List.append_nil]
theorem zeroValue_sl (w : World) : (zeroValue 24).run Tryz.prog w = .ok (.slice none 0 0) w := by kernel_rfl
theorem GM.lookup {w : World} {base g : Nat} {ks : List (Int × Value)} {rows : Int → List Value} (h : GM 3 w base g ks rows) (n : Int) :
 (Instr.lookup 67 (.map (some g)) (.int .i64 n) false).run Tryz.prog w = .ok (rowAt ks n) w := h.map.lookup fam_kvI Tryz.underlying67 (zeroValue_sl w) n
def PostImp (w : World) (f : List (List Int)) (e : Ending) (w' : World) : Prop := ∃ g ks, e = .returned (.map (some g)) ∧ GM 3 w' w.heap.size g ks (impR f f.length) ∧ Ext w w'
set_option maxRecDepth 100000 in
set_option maxHeartbeats 4000000 in
theorem implications_any (f : List (List Int)) (u : Value) (w : World) (h64 : All64L f) (kr : RLL w u f) (hm : mayCnfB f = true) : Calls Tryz.prog 39 #[u] w (PostImp w f) := by
 obtain ⟨A, c, vs, rfl, h1, h2, h3, h4, h5⟩ := kr
 have H4 := Lib.hid h4
 have H5 := Lib.hid h5
 have H3 := Lib.hid h3
 have HM := Lib.hid hm
 have hlen := mayCnfB_len hm
 obtain ⟨j0, hj, hy, hy1, hy2⟩ := info_parts info_int
 have HJ := Lib.hid hj
 have HY := Lib.hid hy
 have HY1 := Lib.hid hy1
 have HY2 := Lib.hid hy2
 have hmm := @run_makeMap Tryz.prog
 clear h4 h5 h3 hm hj hy hy1 hy2
 have hG0 := GM.new 3 w w.heap.size (Nat.le_refl _)
 have HG0 := Lib.hid hG0
 have HE0 := Lib.hid (Ext.alloc w (.map #[] 0))
 clear hG0
 go_enter Tryz.func39, Tryz.ntmps39
 go_wp2_with fail
 go_loopg [9] vs.length (fun gn i wr => ∃ k : Nat, k ≤ vs.length ∧ gn + k = vs.length ∧ i = .int .i64 k ∧ Hid (∃ ks, GM 3 wr w.heap.size w.heap.size ks (impR f k)) ∧ Hid (Ext w wr))
 case atStart => exact ⟨0, Nat.zero_le _, by omega, rfl, Lib.hid ⟨[], HG0.out⟩, HE0⟩
 case round =>
  obtain ⟨k, hk, hgk, rfl, HG, HE⟩ := hrel
  obtain ⟨w1, rfl⟩ : ∃ w1 : World, w1 = wr := ⟨_, rfl⟩
  by_cases hlt : k < vs.length
  · have hkf : k < f.length := by have := H4.out; omega
    obtain ⟨ad, rfl, hck⟩ := (H3.out.ext HE.out) k hlt
    obtain ⟨B, cb, hbe, b1, b2, b3⟩ := (H5.out k hlt hkf)
    have HROW := Lib.hid b3
    rw [hbe] at hck
    obtain ⟨L, hL⟩ : ∃ L, L = f[k].length := ⟨_, rfl⟩
    rw [← hL] at b1 b2 hck
    have HL := Lib.hid hL
    clear hbe b3 hL
    by_cases h2 : L = 2
    · have hb : ((L : Int) == 2) = true := by subst h2; rfl
      obtain ⟨p, q, hpq⟩ := two_of (HL.out.symm.trans h2)
      subst h2
      have hasc := ((mayB_iff _).1 (mayCnfB_get HM.out k hkf)).2
      rw [hpq] at hasc
      have hp := varOf_eq (n := p) (by have := hasc p (by simp); omega)
      have hq := varOf_eq (n := q) (by have := hasc q (by simp); omega)
      have hpr := varOf_range p
      have hqr := varOf_range q
      have p1 : -65536 ≤ p := by omega
      have p2 : p ≤ 65536 := by omega
      have q1 : -65536 ≤ q := by omega
      have q2 : q ≤ 65536 := by omega
      have hr := HROW.out
      rw [hpq] at hr
      obtain ⟨bd, rfl, r0⟩ := hr 0 (by simp)
      obtain ⟨bd', e', r1⟩ := hr 1 (by simp)
      injection e' with e'
      subst e'
      simp only [List.map_cons, List.map_nil, List.getElem_cons_zero, List.getElem_cons_succ] at r0 r1
      rw [show bd.add 0 = bd by simp [Addr.add]] at r0
      rw [show bd.add 1 = ⟨bd.block, bd.off + 1, none⟩ by simp [Addr.add]] at r1
      have R0 := Lib.hid r0
      have R1 := Lib.hid r1
      have HTWO := Lib.hid (impR_two f k hkf p q hpq)
      obtain ⟨rw0, hR0⟩ : ∃ rw0, rw0 = impR f k := ⟨_, rfl⟩
      have hl0 : ∀ y, (rw0 y).length ≤ 2 * k := fun y => by rw [hR0]; unfold impR; rw [List.length_map]; have := nbL_len (f.take k) y; rw [List.length_take] at this; omega
      have HL0 := Lib.hid hl0
      obtain ⟨ks0, hg0⟩ := HG.out
      rw [← hR0] at hg0 HTWO
      have HG0 := Lib.hid hg0
      have HE0' := HE
      obtain ⟨w20, rfl⟩ : ∃ w20 : World, w20 = w1 := ⟨_, rfl⟩
      have hmg := HE.out.size
      clear hr hpq hasc hp hq hpr hqr hR0 hl0 hg0 HG hmm r0 r1 HE0'
      have hk2 : k ≤ 20000 := by have := H4.out; omega
      obtain ⟨c0, c1, M, hM⟩ : ∃ c0 : w20.cell? bd = some (.int .i64 p), ∃ c1 : w20.cell? ⟨bd.block, bd.off + 1, none⟩ = some (.int .i64 q), ∃ M, M = (rw0 (-p)).length := ⟨HE.out.cell R0.out, HE.out.cell R1.out, _, rfl⟩
      have hrl := own_row (HG0.out.own (-p))
      rw [← hM] at hrl
      obtain ⟨A1, C1, hv1, -⟩ := hrl
      have hlk : ∀ w', Ext w20 w' → (Instr.lookup 67 (.map (some w.heap.size)) (.int .i64 (-p)) false).run Tryz.prog w' = .ok (.slice A1 M C1) w' := fun w' he => by
       have := (HG0.out.ext he).lookup (-p)
       rwa [hv1] at this
      have hl1 := hlk _ (Ext.drew w20)
      have hl2 := hlk _ ((Ext.alloc w20 (.cells #[.int .i64 q] 3)).trans (Ext.drew _))
      have hl3 := hlk _ ((Ext.drew w20).trans (Ext.alloc _ (.cells #[.int .i64 q] 3)))
      have c0b : (w20.alloc (.cells #[.int .i64 q] 3)).cell? bd = some (.int .i64 p) := (Ext.alloc w20 _).cell c0
      have c1b : (w20.alloc (.cells #[.int .i64 q] 3)).cell? ⟨bd.block, bd.off + 1, none⟩ = some (.int .i64 q) := (Ext.alloc w20 _).cell c1
      have hMl : M ≤ 2 * k := by rw [hM]; exact HL0.out _
      have hsz := HE.out.size
      have HV1 := Lib.hid hv1
      have HMM := Lib.hid hM
      clear hlk hv1 hM
      go_upto_region 6 with fail
      have hwr : IntKind.i64.wrap ((-p)) = (-p) := IntWalk.i64_in _ (by omega)
      go_cut [16] from 16 to 31 (fun s wy => Hid (∃ ks, GM 3 wy w.heap.size w.heap.size ks (fset rw0 (-p) (rw0 (-p) ++ [.int .i64 q]))) ∧ Hid (Ext w wy))
      case first =>
       go_region_held3 (fun w' => w'.cell? bd = some (.int .i64 p) ∧ w'.cell? ⟨bd.block, bd.off + 1, none⟩ = some (.int .i64 q)) (first | exact ⟨c0, c1⟩ | exact ⟨c0b, c1b⟩ | exact ⟨cp3, c43⟩ | exact ⟨cpu, c4u⟩ | go_keep) (first | (
        refine step_append_lies _ rfl (.tmp 26) (.tmp 30) 24 rfl w.heap.size 3 j0 (.int .i64 0) 1 8 Tryz.underlying24 HJ.out HY.out HY1.out HY2.out rfl (by decide) (.slice A1 M C1) M (rw0 (-p)) rfl ?c1 ⟨w20.heap.size, 0, none⟩ 1 1 [.int .i64 q] rfl rfl ?c2 (by simp [Value.oneCell']) (by omega) (by unfold maxLen; omega) (by omega) (by simp; omega) (w20.heap.size + 1) (by simp) ?_
        case c1 => exact own_ext (by have := HG0.out.own (-p); rw [HV1.out, ← HMM.out] at this; exact this) ((Ext.alloc w20 _).trans (Ext.drew _))
        case c2 => exact one_cell w20 _ _
        intro g cap w1 hown hgrow hat hlt
        have hGR := (((Ext.alloc w20 _).trans (Ext.drew _)).chg _).trans (grown_chg hgrow)
        have hGR2 : Chg (fun i => some i = (rowAt ks0 (-p)).ownBlock) w20 w1 := by rw [HV1.out]; exact hGR
        have hat2 : (rowAt ks0 (-p)).ownBlock = some g ∨ w20.heap.size ≤ g := by rw [HV1.out]; exact hat.imp id (fun e => by omega)
        have hEw1 : Ext w w1 := hGR2.toExt HE.out (fun i hi => (own_typed (HG0.out.own (-p)) hi.symm).1)
        have cp3 := hEw1.cell R0.out
        have c43 := hEw1.cell R1.out
        have hmk : MapK kvI w1 w.heap.size ks0 := HG0.out.map.keep hGR2 (fun e1 => row_ne_map (HG0.out.own (-p)) HG0.out.map _ e1.symm rfl)
        obtain ⟨wu, hrun, hmu, hcu, -⟩ := hmk.update (P := Tryz.prog) fam_kvI Tryz.underlying67 (-p) (.slice (some ⟨g, 0, none⟩) (M + 1) cap)
        unfold kvI at hrun
        have hEwu : Ext w wu := hcu.toExt hEw1 (fun i hi => by omega)
        have cpu := hEwu.cell R0.out
        have c4u := hEwu.cell R1.out
        have hput := HG0.out.put (-p) (.int .i64 q) HMM.out.symm hown hGR2 hat2 hmu hcu
        have HPUT : Hid (∃ ks, GM 3 wu w.heap.size w.heap.size ks (fset rw0 (-p) (rw0 (-p) ++ [.int .i64 q]))) := Lib.hid ⟨_, hput.1⟩
        have HEU := Lib.hid hEwu
        clear hown hgrow hat hlt hmu hcu hGR hGR2 hat2 hEw1 hmk hEwu hput))
       all_goals
        (go_wp2; go_meet; exact ⟨HPUT, HEU⟩)
      case rest =>
      obtain ⟨HGN, HE6⟩ := hcut
      obtain ⟨w60, rfl⟩ : ∃ w60 : World, w60 = wc := ⟨_, rfl⟩
      obtain ⟨rw1, hrw⟩ : ∃ r, r = fset rw0 (-p) (rw0 (-p) ++ [.int .i64 q]) := ⟨_, rfl⟩
      have HL1 : Hid (∀ y, (rw1 y).length ≤ 2 * k + 1) := Lib.hid (fun y => by
       rw [hrw]
       by_cases hy : y = (-p)
       · subst hy; rw [fset_same, List.length_append]; have := HL0.out (-p); simp; omega
       · rw [fset_ne _ _ hy]; have := HL0.out y; omega)
      obtain ⟨ks1, hg1⟩ := HGN.out
      rw [← hrw] at hg1 HTWO
      have HG1 := Lib.hid hg1
      clear HGN hrw hg1 c0 c1 c0b c1b hl1 hl2 hl3 hwr
      obtain ⟨c0, c1, M, hM⟩ : ∃ c0 : w60.cell? bd = some (.int .i64 p), ∃ c1 : w60.cell? ⟨bd.block, bd.off + 1, none⟩ = some (.int .i64 q), ∃ M, M = (rw1 (-q)).length := ⟨HE6.out.cell R0.out, HE6.out.cell R1.out, _, rfl⟩
      have hrl := own_row (HG1.out.own (-q))
      rw [← hM] at hrl
      obtain ⟨A1, C1, hv1, -⟩ := hrl
      have hlk : ∀ w', Ext w60 w' → (Instr.lookup 67 (.map (some w.heap.size)) (.int .i64 (-q)) false).run Tryz.prog w' = .ok (.slice A1 M C1) w' := fun w' he => by
       have := (HG1.out.ext he).lookup (-q)
       rwa [hv1] at this
      have hl1 := hlk _ (Ext.drew w60)
      have hl2 := hlk _ ((Ext.alloc w60 (.cells #[.int .i64 p] 3)).trans (Ext.drew _))
      have hl3 := hlk _ ((Ext.drew w60).trans (Ext.alloc _ (.cells #[.int .i64 p] 3)))
      have c0b : (w60.alloc (.cells #[.int .i64 p] 3)).cell? bd = some (.int .i64 p) := (Ext.alloc w60 _).cell c0
      have c1b : (w60.alloc (.cells #[.int .i64 p] 3)).cell? ⟨bd.block, bd.off + 1, none⟩ = some (.int .i64 q) := (Ext.alloc w60 _).cell c1
      have hMl : M ≤ 2 * k + 1 := by rw [hM]; exact HL1.out _
      have hsz := HE6.out.size
      have HV1 := Lib.hid hv1
      have HMM := Lib.hid hM
      clear hlk hv1 hM
      go_upto_region 7 with fail
      have hwr : IntKind.i64.wrap ((-q)) = (-q) := IntWalk.i64_in _ (by omega)
      go_region_held3 (fun w' => w'.cell? bd = some (.int .i64 p) ∧ w'.cell? ⟨bd.block, bd.off + 1, none⟩ = some (.int .i64 q)) (first | exact ⟨c0, c1⟩ | exact ⟨c0b, c1b⟩ | exact ⟨cp3, c43⟩ | exact ⟨cpu, c4u⟩ | go_keep) (first | (
       refine step_append_lies _ rfl (.tmp 42) (.tmp 46) 24 rfl w.heap.size 3 j0 (.int .i64 0) 1 8 Tryz.underlying24 HJ.out HY.out HY1.out HY2.out rfl (by decide) (.slice A1 M C1) M (rw1 (-q)) rfl ?c1 ⟨w60.heap.size, 0, none⟩ 1 1 [.int .i64 p] rfl rfl ?c2 (by simp [Value.oneCell']) (by omega) (by unfold maxLen; omega) (by omega) (by simp; omega) (w60.heap.size + 1) (by simp) ?_
       case c1 => exact own_ext (by have := HG1.out.own (-q); rw [HV1.out, ← HMM.out] at this; exact this) ((Ext.alloc w60 _).trans (Ext.drew _))
       case c2 => exact one_cell w60 _ _
       intro g cap w1 hown hgrow hat hlt
       have hGR := (((Ext.alloc w60 _).trans (Ext.drew _)).chg _).trans (grown_chg hgrow)
       have hGR2 : Chg (fun i => some i = (rowAt ks1 (-q)).ownBlock) w60 w1 := by rw [HV1.out]; exact hGR
       have hat2 : (rowAt ks1 (-q)).ownBlock = some g ∨ w60.heap.size ≤ g := by rw [HV1.out]; exact hat.imp id (fun e => by omega)
       have hEw1 : Ext w w1 := hGR2.toExt HE6.out (fun i hi => (own_typed (HG1.out.own (-q)) hi.symm).1)
       have cp3 := hEw1.cell R0.out
       have c43 := hEw1.cell R1.out
       have hmk : MapK kvI w1 w.heap.size ks1 := HG1.out.map.keep hGR2 (fun e1 => row_ne_map (HG1.out.own (-q)) HG1.out.map _ e1.symm rfl)
       obtain ⟨wu, hrun, hmu, hcu, -⟩ := hmk.update (P := Tryz.prog) fam_kvI Tryz.underlying67 (-q) (.slice (some ⟨g, 0, none⟩) (M + 1) cap)
       unfold kvI at hrun
       have hEwu : Ext w wu := hcu.toExt hEw1 (fun i hi => by omega)
       have cpu := hEwu.cell R0.out
       have c4u := hEwu.cell R1.out
       have hput := HG1.out.put (-q) (.int .i64 p) HMM.out.symm hown hGR2 hat2 hmu hcu
       have HPUT : Hid (∃ ks, GM 3 wu w.heap.size w.heap.size ks (fset rw1 (-q) (rw1 (-q) ++ [.int .i64 p]))) := Lib.hid ⟨_, hput.1⟩
       have HEU := Lib.hid hEwu
       clear hown hgrow hat hlt hmu hcu hGR hGR2 hat2 hEw1 hmk hEwu hput))
      all_goals
       have HG2' : Hid (∃ ks, GM 3 wu w.heap.size w.heap.size ks (impR f (k + 1))) := Lib.hid (by rw [← HTWO.out]; exact HPUT.out)
       go_wp2
       go_roundg (vs.length - (k + 1))
       case measure => omega
       case rel => exact ⟨k + 1, by omega, by omega, by go_num, HG2', HEU⟩
    · have hb : ((L : Int) == 2) = false := by simp; omega
      have HG2 : Hid (∃ ks, GM 3 w1 w.heap.size w.heap.size ks (impR f (k + 1))) := Lib.hid (by rw [← impR_none f k hkf (fun e => h2 (HL.out.trans e))]; exact HG.out)
      go_wp2
      go_roundg (vs.length - (k + 1))
      case measure => omega
      case rel => exact ⟨k + 1, by omega, by omega, by go_num, HG2, HE⟩
  · obtain rfl : k = vs.length := by omega
    go_wp2
    go_ret
    obtain ⟨ks, hg⟩ := HG.out
    exact ⟨_, ks, rfl, by rw [H4.out] at hg; exact hg, HE.out⟩
end Go.Proofs.YtjecjaihficcdaaGreat
namespace Go.Proofs.YtjecjaihficcdaaGreat
open Go.RowKit
def qblk : Value → Option Nat
 | .slice (some a) _ _ => some a.block
 | _ => none
def OwnQ (w : World) (base : Nat) (v : Value) (xs : List Int) : Prop :=
 ∃ g off cap, ∃ cur : List Value, v = .slice (some ⟨g, off, none⟩) xs.length cap ∧ base ≤ g ∧ Blk w g 3 cur ∧ xs.length ≤ cap ∧ cap ≤ 9223372036854775807 ∧ off + cap ≤ cur.length ∧ (cur.drop off).take xs.length = xs.map (Value.int .i64)
theorem OwnQ.keep {S : Nat → Prop} {w w' : World} {base : Nat} {v : Value} {xs : List Int} (h : OwnQ w base v xs) (k : Chg S w w') (hn : ∀ b, qblk v = some b → ¬ S b) : OwnQ w' base v xs := by
 obtain ⟨g, off, cap, cur, rfl, h1, h2, r⟩ := h
 exact ⟨g, off, cap, cur, rfl, h1, k.blk h2 (hn g rfl), r⟩
theorem OwnQ.ext {w w' : World} {base : Nat} {v : Value} {xs : List Int} (h : OwnQ w base v xs) (k : Ext w w') : OwnQ w' base v xs := h.keep (k.chg fun _ => False) fun _ _ => id
theorem OwnQ.blk {w : World} {base : Nat} {v : Value} {xs : List Int} (h : OwnQ w base v xs) : ∃ b, qblk v = some b ∧ base ≤ b ∧ b < w.heap.size ∧ ∃ cur : List Value, Blk w b 3 cur := by
 obtain ⟨g, off, cap, cur, rfl, h1, h2, r⟩ := h
 exact ⟨g, rfl, h1, h2.lt, cur, h2⟩
theorem OwnQ.one (w : World) (base : Nat) (x : Int) (hb : base ≤ w.heap.size) : OwnQ (w.alloc (.cells #[.int .i64 x] 3)) base (.slice (some ⟨w.heap.size, 0, none⟩) 1 1) [x] :=
 ⟨w.heap.size, 0, 1, [.int .i64 x], rfl, hb, Blk.new w _ _, by simp, by simp, by simp, by simp⟩
theorem OwnQ.len {w : World} {base : Nat} {A : Option Addr} {n c : Nat} {xs : List Int} (h : OwnQ w base (.slice A n c) xs) : n = xs.length ∧ xs.length ≤ c ∧ c ≤ 9223372036854775807 := by
 obtain ⟨g, off, cap, cur, e, h1, h2, h3, h4, -⟩ := h
 injection e with e1 e2 e3
 exact ⟨e2, by omega, by omega⟩
theorem OwnQ.shape {w : World} {base : Nat} {v : Value} {xs : List Int} (h : OwnQ w base v xs) : ∃ A c, v = .slice A xs.length c := by
 obtain ⟨g, off, cap, cur, e, -⟩ := h
 exact ⟨_, _, e⟩
theorem OwnQ.head {w : World} {base : Nat} {A : Option Addr} {n c : Nat} {x : Int} {xs : List Int} (h : OwnQ w base (.slice A n c) (x :: xs)) : ∃ ad, A = some ad ∧ w.cell? ad = some (.int .i64 x) := by
 obtain ⟨g, off, cap, cur, e, h1, h2, h3, h4, h5, h6⟩ := h
 injection e with e1 e2 e3
 refine ⟨_, e1, ?_⟩
 rw [h2.cell]
 have := congrArg (fun l => l[0]?) h6
 simp at this
 simpa using this
theorem OwnQ.tail {w : World} {base : Nat} {A : Option Addr} {c : Nat} {x : Int} {xs : List Int} (h : OwnQ w base (.slice A (xs.length + 1) c) (x :: xs)) :
 OwnQ w base (.slice (if c = 1 then A else A.map (·.add 1)) xs.length (c - 1)) xs ∧ qblk (.slice (if c = 1 then A else A.map (·.add 1)) xs.length (c - 1)) = qblk (.slice A (xs.length + 1) c) := by
 obtain ⟨g, off, cap, cur, e, h1, h2, h3, h4, h5, h6⟩ := h
 injection e with e1 e2 e3
 subst e1 e3
 simp only [List.length_cons] at h3 h6
 have h7 : (cur.drop (off + 1)).take xs.length = xs.map (Value.int .i64) := by
  have := congrArg List.tail h6
  rw [List.map_cons, List.tail_cons] at this
  rw [← this, ← List.drop_one, List.drop_take, List.drop_drop]
  rfl
 by_cases hc : c = 1
 · have hx : xs = [] := List.length_eq_zero_iff.1 (by omega)
   subst hx
   subst hc
   rw [if_pos rfl]
   exact ⟨⟨g, off, 0, cur, rfl, h1, h2, by simp, by omega, by omega, by simp⟩, rfl⟩
 · rw [if_neg hc]
   have e : (Option.map (·.add 1) (some (⟨g, off, none⟩ : Addr))) = some ⟨g, off + 1, none⟩ := by simp [Addr.add]
   rw [e]
   exact ⟨⟨g, off + 1, c - 1, cur, rfl, h1, h2, by omega, by omega, by omega, h7⟩, rfl⟩
theorem drop_set_take (cur : List Value) (off n : Nat) (u : Value) (h : off + n < cur.length) : ((cur.set (off + n) u).drop off).take (n + 1) = (cur.drop off).take n ++ [u] := by
 rw [List.drop_set, if_neg (by omega), show off + n - off = n by omega]
 have h1 : n < ((cur.drop off).set n u).length := by simp; omega
 rw [List.take_succ_eq_append_getElem h1, List.take_set_of_le (Nat.le_refl _)]
 simp
theorem OwnQ.app_run {w : World} {base : Nat} {v : Value} {xs : List Int} (h : OwnQ w base v xs) (ty : TypeId) (y : Int) (ad : Addr) (hc : w.cell? ad = some (.int .i64 y)) (hl : xs.length ≤ 10000000) (hb : base ≤ w.heap.size) :
 ∃ v' w', (Builtin.append_ #[24, 24] ty #[v, .slice (some ad) 1 1]).run Tryz.prog w = .ok v' w' ∧ OwnQ w' base v' (xs ++ [y]) ∧ Chg (fun i => qblk v = some i) w w' ∧ (qblk v' = qblk v ∨ ∃ b, qblk v' = some b ∧ w.heap.size ≤ b) := by
 obtain ⟨i0, hi, hz0, hz1, hz2⟩ := info_parts info_int
 obtain ⟨g, off, cap, cur, rfl, h1, h2, h3, h4, h5, h6⟩ := h
 have hnews : ∀ j u, [Value.int .i64 y][j]? = some u → w.cell? (ad.add j) = some u := fun j u hj => by
  match j with
  | 0 => simp at hj; subst hj; rw [show ad.add 0 = ad by simp [Addr.add]]; exact hc
  | j + 1 => simp at hj
 by_cases hr : xs.length + 1 ≤ cap
 · have hrun := run_append_room_cells (P := Tryz.prog) w 24 ty 3 i0 Tryz.underlying24 hi g off xs.length cap ad 1 1 [.int .i64 y] (by rw [hz1]; rfl) hnews (by simp [Value.oneCell']) hr
    (fun j hj => by
     obtain rfl : j = 0 := by simpa using hj
     rw [hz1, Nat.mul_one, Nat.add_zero, h2.cell, List.getElem?_eq_getElem (by omega)]; rfl)
    (fun j hj => h2.free _)
   rw [hz1, Nat.mul_one] at hrun
   refine ⟨_, _, hrun, ⟨g, off, cap, cur.set (off + xs.length) (.int .i64 y), by simp, h1, h2.set _ _, by simp; omega, h4, by rw [List.length_set]; exact h5, ?_⟩, (Chg.set w g _ _).mono fun i hi => by rw [hi]; rfl, .inl rfl⟩
   rw [List.length_append, List.length_singleton, drop_set_take _ _ _ _ (by omega), h6]; simp
 · obtain ⟨v', w', hrun, ho, hg⟩ := run_append_arg_grows (P := Tryz.prog) w 24 ty 3 i0 (.int .i64 0) 1 8 Tryz.underlying24 hi hz0 hz1 hz2 rfl (by decide) ⟨g, off, none⟩ xs.length cap (xs.map (Value.int .i64)) (by simp)
    (fun j u hj => by
     have hjl : j < xs.length := by have := (List.getElem?_eq_some_iff.1 hj).1; simpa using this
     rw [Addr.add_lit, h2.cell]
     have := congrArg (fun l => l[j]?) h6
     simp only [List.getElem?_take, if_pos hjl, List.getElem?_drop] at this
     rw [this, hj])
    ad 1 1 [.int .i64 y] rfl hnews (by omega) (by unfold maxLen; omega) (by omega)
   obtain ⟨-, ⟨rfl, h0⟩ | ⟨g', cap', cur', rfl, hb', hg', hn', hm', hs', ht'⟩⟩ := ho
   · omega
   · refine ⟨_, _, hrun, ⟨g', 0, cap', cur'.toList, by simp, by omega, by unfold Blk; simpa using hg', by simpa using hn', by unfold maxLen at hm'; omega, by simp at hs' ⊢; omega, ?_⟩, (grown_chg hg).mono (fun i hi => (by cases hi)), .inr ⟨g', rfl, hb'⟩⟩
     rw [List.drop_zero, List.length_append, List.length_singleton]
     rw [Nat.mul_one] at ht'
     rw [ht']; simp
theorem appQ {ops : Array Oper} {rest : List Oper} {o : Oper} {a : Act} {Q : Exit → Act → World → Prop} {w : World} (hgd : o.guard = none) (s x : Operand)
 (ho : o.op = .call { callee := .builtin .append, args := #[s, x], argTypes := #[24, 24] })
 {base : Nat} {v : Value} {xs : List Int} {y : Int} (hs : a.eval s = v) (hx : a.eval x = .slice (some ⟨w.heap.size, 0, none⟩) 1 1) (hown : OwnQ w base v xs) (hl : xs.length ≤ 10000000) (hbase : base ≤ w.heap.size)
 (h : ∀ v' w', OwnQ w' base v' (xs ++ [y]) → Chg (fun i => qblk v = some i) w w' → (qblk v' = qblk v ∨ ∃ b, qblk v' = some b ∧ w.heap.size ≤ b) → wpList Tryz.prog ops Q rest (a.put o.dst v') w') : wpList Tryz.prog ops Q (o :: rest) a (w.alloc (.cells #[.int .i64 y] 3)) := by
 refine wpList_plain hgd fun K hK => ?_
 obtain ⟨v', w', hrun, h1, h2, h3⟩ := (hown.ext (Ext.alloc w (.cells #[.int .i64 y] 3))).app_run o.type y ⟨w.heap.size, 0, none⟩ (Var1.new w 3 (.int .i64 y)).cell hl (by simp; omega)
 unfold Oper.wp
 simp [execOp, ho, resolve, invoke, builtin, hs, hx, hrun, Result.andThen]
 exact hK _ _ (h v' w' h1 (((Ext.alloc w _).chg _).trans h2) (h3.imp id fun ⟨b, hb, hl⟩ => ⟨b, hb, by simp at hl; omega⟩))
end Go.Proofs.YtjecjaihficcdaaGreat
namespace Go.Proofs.YtjecjaihficcdaaGreat
open Go.RowKit
attribute [local go_sem] Oper.semAt_some
structure GR (w : World) (g : Nat) (ks : List (Int × Value)) (f : List (List Int)) : Prop where
 map : MapK kvI w g ks
 row : ∀ n, RI w (rowAt ks n) (nbL f n)
 dom : ∀ n, n ∈ ks.map Prod.fst ↔ -n ∈ lits2 f
def GB (g : Nat) (ks : List (Int × Value)) (k : Nat) : Prop := k = g ∨ ∃ n A L c, rowAt ks n = .slice A L c ∧ RowB A L k
theorem GR.ext {w w' : World} {g : Nat} {ks : List (Int × Value)} {f : List (List Int)} (h : GR w g ks f) (e : Ext w w') : GR w' g ks f := ⟨h.map.ext e, fun n => (h.row n).ext e, h.dom⟩
theorem GR.chg {S : Nat → Prop} {w w' : World} {g : Nat} {ks : List (Int × Value)} {f : List (List Int)} (h : GR w g ks f) (e : Chg S w w') (hn : ∀ k, GB g ks k → ¬ S k) : GR w' g ks f := by
 refine ⟨h.map.keep e (hn g (.inl rfl)), fun n => ?_, h.dom⟩
 obtain ⟨A, c, h1, h2, h3, h4⟩ := h.row n
 exact ⟨A, c, h1, h2, h3, h4.chg e fun k hk => hn k (.inr ⟨n, A, _, c, h1, by rw [List.length_map] at hk; exact hk⟩)⟩
theorem GR.lt {w : World} {g : Nat} {ks : List (Int × Value)} {f : List (List Int)} (h : GR w g ks f) {k : Nat} (hk : GB g ks k) : k < w.heap.size := by
 rcases hk with rfl | ⟨n, A, L, c, e, hr⟩
 · exact h.map.lt
 · obtain ⟨A', c', h1, h2, h3, h4⟩ := h.row n
   rw [e] at h1
   injection h1 with e1 e2 e3
   subst e1 e2
   exact RowB.lt h4 (by rw [List.length_map]; exact hr)
theorem lits2_nb (f : List (List Int)) (n : Int) : -n ∈ lits2 f ↔ nbL f n ≠ [] := by
 constructor
 · intro h
   unfold lits2 at h
   obtain ⟨c, hc, hm⟩ := List.mem_flatMap.1 h
   by_cases h2 : c.length = 2
   · rw [if_pos h2] at hm
     obtain ⟨a, b, rfl⟩ := two_of h2
     have : nbC n [a, b] ≠ [] := by
      have e : nbC n [a, b] = (if -a = n then [b] else []) ++ (if -b = n then [a] else []) := rfl
      rw [e]
      simp only [List.mem_cons, List.not_mem_nil, or_false] at hm
      rcases hm with h3 | h3
      · rw [if_pos (show -a = n by omega)]; simp
      · rw [if_pos (show -b = n by omega)]; simp
     intro e
     unfold nbL at e
     rw [List.flatMap_eq_nil_iff] at e
     exact this (e _ hc)
   · rw [if_neg h2] at hm; cases hm
 · intro h
   obtain ⟨z, hz⟩ := List.exists_mem_of_ne_nil _ h
   exact (nbL_mem hz).2
theorem GM.reads {w : World} {base g : Nat} {ks : List (Int × Value)} {f : List (List Int)} (h : GM 3 w base g ks (impR f f.length)) : GR w g ks f := by
 refine ⟨h.map, fun n => ?_, fun n => ?_⟩
 · have h1 := h.own n
   unfold impR at h1
   rw [List.take_length, List.length_map] at h1
   exact OwnI.reads h1
 · have h1 := h.dom n
   rw [lits2_nb, ← show impR f f.length n ≠ [] ↔ nbL f n ≠ [] by unfold impR; rw [List.take_length]; simp, ← h1]
   cases hq : lkp ks n with
   | none => simp only [lkp_none.1 hq]; simp
   | some v => simp only [Option.isSome_some, iff_true]; exact List.mem_map.2 ⟨_, lkp_mem hq, rfl⟩
theorem GR.lookup {w : World} {g : Nat} {ks : List (Int × Value)} {f : List (List Int)} (h : GR w g ks f) (n : Int) :
 (Instr.lookup 67 (.map (some g)) (.int .i64 n) false).run Tryz.prog w = .ok (rowAt ks n) w := h.map.lookup fam_kvI Tryz.underlying67 (zeroValue_sl w) n
theorem bfs_pre (nb : Int → List Int) : ∀ n i l, l <+: bfs nb n i l
 | 0, _, l => List.prefix_refl l
 | n + 1, i, l => by
   unfold bfs
   split
   · obtain ⟨r, hr⟩ := addAll_pre (nb l[i]) l
     exact (hr ▸ List.prefix_append l r).trans (bfs_pre nb n (i + 1) _)
   · exact List.prefix_refl l
theorem slice_1q (A : Option Addr) (l c : Nat) : ∀ W : World, (Instr.slice 24 (.slice A (l + 1) c) (some (.int .i64 1)) none none).run Tryz.prog W = .ok (.slice (if c = 1 then A else A.map (·.add 1)) l (c - 1)) W := by
 intro W
 have h := slice_from (P := Tryz.prog) Tryz.underlying24 info_int A (l + 1) c 1 (by omega) W
 simpa using h
theorem zeroValue_b (w : World) : (zeroValue 4).run Tryz.prog w = .ok (.bool false) w := by kernel_rfl
theorem q_ne_map {w : World} {base g : Nat} {v : Value} {xs : List Int} {ks : List (Int × Value)} (h : OwnQ w base v xs) (hm : MapK kvI w g ks) : ¬ qblk v = some g := fun hb => by
 obtain ⟨b, h1, -, -, cur, h4⟩ := h.blk
 rw [h1] at hb; injection hb with hb; subst hb
 obtain ⟨es, clock, h5, -⟩ := hm
 unfold Blk at h4
 rw [h4] at h5; cases h5
def metK (l : List Int) : List (Int × Value) := l.map fun x => (x, .bool true)
theorem lkp_metK (l : List Int) (y : Int) : lkp (metK l) y = if y ∈ l then some (.bool true) else none := by
 induction l with
 | nil => rfl
 | cons x l ih =>
   unfold metK lkp at *
   rw [List.map_cons, List.find?_cons]
   by_cases h : y = x
   · simp [h]
   · simp only [h, decide_false, List.mem_cons, false_or]
     exact ih
theorem kput_metK {l : List Int} {y : Int} (h : y ∉ l) : kput (metK l) y (.bool true) = metK (l ++ [y]) := by
 rw [kput_new]
 · simp [metK]
 · simpa [metK] using h
def msz (w : World) (g : Nat) : Nat := match w.heap[g]? with | some (.map es _) => es.size | _ => 0
theorem MapK.msz {w : World} {g : Nat} {ks : List (Int × Value)} (h : MapK kvI w g ks) : msz w g = ks.length := by
 obtain ⟨es, clock, hg, hl⟩ := h.size
 unfold Go.Proofs.YtjecjaihficcdaaGreat.msz
 rw [hg]; exact hl
def qlen : Value → Nat
 | .slice _ n _ => n
 | _ => 0
theorem addAll_app (l a b : List Int) : addAll l (a ++ b) = addAll (addAll l a) b := by unfold addAll; rw [List.foldl_append]
theorem addAll_take_len (l ys : List Int) (m : Nat) : (addAll l (ys.take m)).length ≤ (addAll l ys).length := by
 conv => rhs; rw [← List.take_append_drop m ys, addAll_app]
 exact addAll_len _ _
structure RS (J : List Int → (Nat → Prop) → World → Prop) (B b3 b2 g : Nat) (ks : List (Int × Value)) (f : List (List Int)) (x : Int) (told l q : List Int) (T : Nat → Prop) (v : Value) (w : World) : Prop where
 j : J told T w
 tb : ∀ k, T k → B ≤ k
 tm : T B
 tq : ∀ b, qblk v = some b → T b
 q : OwnQ w B v q
 met : MapK kvI w B (metK l)
 cx : w.cell? ⟨b3, 0, none⟩ = some (.int .i64 x)
 cg : w.cell? ⟨b2, 0, none⟩ = some (.map (some g))
 gr : GR w g ks f
 lt : B ≤ w.heap.size
 tl : ∀ k, T k → k < w.heap.size
section
variable {J : List Int → (Nat → Prop) → World → Prop} {B b3 b2 g : Nat} {ks : List (Int × Value)} {f : List (List Int)} {x : Int} {told l q : List Int} {T : Nat → Prop} {v : Value} {w w' : World}
theorem RS.round (h : RS J B b3 b2 g ks f x told l q T v w) {told' : List Int} (hj : J told' T w') (hc : Chg (fun k => ¬ ((k = b3 ∨ k = b2 ∨ GB g ks k) ∨ T k)) w w') : RS J B b3 b2 g ks f x told' l q T v w' :=
 ⟨hj, h.tb, h.tm, h.tq, h.q.keep hc (fun b hb hn => hn (.inr (h.tq b hb))), h.met.keep hc (fun hn => hn (.inr h.tm)), hc.cell h.cx (fun hn => hn (.inl (.inl rfl))), hc.cell h.cg (fun hn => hn (.inl (.inr (.inl rfl)))),
  h.gr.chg hc (fun _ hk hn => hn (.inl (.inr (.inr hk)))), Nat.le_trans h.lt hc.size, fun k hk => Nat.lt_of_lt_of_le (h.tl k hk) hc.size⟩
theorem RS.pop {A : Option Addr} {c : Nat} {y : Int} {r : List Int} (h : RS J B b3 b2 g ks f x told l (y :: r) T (.slice A (r.length + 1) c) w) : RS J B b3 b2 g ks f x told l r T (.slice (if c = 1 then A else A.map (·.add 1)) r.length (c - 1)) w :=
 ⟨h.j, h.tb, h.tm, fun b hb => h.tq b (by rw [h.q.tail.2] at hb; exact hb), h.q.tail.1, h.met, h.cx, h.cg, h.gr, h.lt, h.tl⟩
theorem RS.push (h : RS J B b3 b2 g ks f x told l q T v w) (hJ : Abide J) (hB : ∀ k, (k = b3 ∨ k = b2 ∨ GB g ks k) → k < B) {y : Int} {v' : Value} {w1 : World} (hq : OwnQ w1 B v' (q ++ [y])) (hc : Chg (fun i => qblk v = some i) w w1) (hv : qblk v' = qblk v ∨ ∃ b, qblk v' = some b ∧ w.heap.size ≤ b)
 (hm : MapK kvI w' B (metK (l ++ [y]))) (hu : Chg (fun k => k = B) w1 w') : ∃ T', RS J B b3 b2 g ks f x told (l ++ [y]) (q ++ [y]) T' v' w' := by
 have hcT : Chg T w w' := (hc.mono fun i hi => h.tq i hi).trans (hu.mono fun i hi => by rw [hi]; exact h.tm)
 have hBw := h.lt
 have hRT : ∀ k, (k = b3 ∨ k = b2 ∨ GB g ks k) → ¬ T k := fun k hk ht => by have := hB k hk; have := h.tb k ht; omega
 have hTl : ∀ k, (T k ∨ qblk v' = some k) → k < w'.heap.size := fun k hk => by
  rcases hk with hk | hk
  · exact Nat.lt_of_lt_of_le (h.tl k hk) hcT.size
  · obtain ⟨b, hb, -, hl, -⟩ := hq.blk
    rw [hb] at hk; injection hk with hk; subst hk
    exact Nat.lt_of_lt_of_le hl hu.size
 refine ⟨fun k => T k ∨ qblk v' = some k, hJ told T _ w w' h.j hcT (fun i hi => .inl hi) (fun i hi => ?_) hTl, fun k hk => ?_, .inl h.tm, fun b hb => .inr hb, ?_, hm, hcT.cell h.cx (hRT _ (.inl rfl)), hcT.cell h.cg (hRT _ (.inr (.inl rfl))), h.gr.chg hcT (fun k hk => hRT k (.inr (.inr hk))), Nat.le_trans h.lt hcT.size, hTl⟩
 · rcases hi with hi | hi
   · exact .inl hi
   · rcases hv with hv | ⟨b, hb, hl⟩
     · exact .inl (h.tq i (by rw [← hv]; exact hi))
     · rw [hb] at hi; injection hi with hi; subst hi; exact .inr hl
 · rcases hk with hk | hk
   · exact h.tb k hk
   · obtain ⟨b, hb, hl, -⟩ := hq.blk
     rw [hb] at hk; injection hk with hk; subst hk; exact hl
 · refine hq.keep hu (fun b hb e => ?_)
   exact q_ne_map hq (h.met.keep hc (q_ne_map h.q h.met)) (by rw [hb, e])
end
set_option maxRecDepth 100000 in
set_option maxHeartbeats 4000000 in
theorem reached_iter (f : List (List Int)) (g b3 b2 : Nat) (ks : List (Int × Value)) (x : Int) (w : World) (hf : f.length ≤ 20000) (hx : w.cell? ⟨b3, 0, none⟩ = some (.int .i64 x)) (hgb : w.cell? ⟨b2, 0, none⟩ = some (.map (some g))) (hg : GR w g ks f) :
 Iter Tryz.prog 92 #[.pointer (some ⟨b3, 0, none⟩), .pointer (some ⟨b2, 0, none⟩)] (fun y : Int => #[.int .i64 y]) (reachL f x) (fun k => k = b3 ∨ k = b2 ∨ GB g ks k) w := by
 intro l J Jx W hW hJa _ hY h0
 have hB0 : ∀ k, (k = b3 ∨ k = b2 ∨ GB g ks k) → k < w.heap.size := fun k hk => by
  rcases hk with rfl | rfl | hk
  · exact World.block_lt_of_cell? w _ hx
  · exact World.block_lt_of_cell? w _ hgb
  · exact hg.lt hk
 have hx1 := hW.cell hx (fun h => h (.inl rfl))
 have hg1 := hW.cell hgb (fun h => h (.inr (.inl rfl)))
 have hgr1 := hg.chg hW (fun k hk h => h (.inr (.inr hk)))
 have HB := Lib.hid (fun k hk => Nat.lt_of_lt_of_le (hB0 k hk) hW.size)
 have hb3 : b3 < W.heap.size := World.block_lt_of_cell? W _ hx1
 have hb2 : b2 < W.heap.size := World.block_lt_of_cell? W _ hg1
 obtain ⟨w1, hup, hm1, hc1, hs1⟩ := (MapK.new W).update (P := Tryz.prog) fam_kvI Tryz.underlying78 x (.bool true)
 have hE1 : Ext W w1 := hc1.toExt (Ext.alloc W _) (fun i hi => by omega)
 unfold kvI at hup
 have hx2 := hE1.cell hx1
 have hsw : w1.heap.size = W.heap.size + 1 := by rw [hs1]; simp
 have hE2 : Ext W (w1.alloc (.cells #[.int .i64 x] 3)) := hE1.trans (Ext.alloc _ _)
 have HS0 : Hid (RS J W.heap.size b3 b2 g ks f x [] [x] [x] (fun k => k = W.heap.size ∨ k = w1.heap.size) (.slice (some ⟨w1.heap.size, 0, none⟩) 1 1) (w1.alloc (.cells #[.int .i64 x] 3))) := Lib.hid
  ⟨hJa [] (fun _ => False) _ W _ h0 (hE2.chg _) (fun _ h => h.elim) (fun i hi => .inr (by omega)) (fun i hi => by simp only [World.size_alloc]; omega), fun k hk => by omega, .inl rfl, fun b hb => .inr (by injection hb with hb; exact hb.symm), OwnQ.one w1 _ x (by omega), hm1.ext (Ext.alloc _ _), hE2.cell hx1, hE2.cell hg1, hgr1.ext hE2, hE2.size, fun k hk => by simp only [World.size_alloc]; omega⟩
 have HY := Lib.hid hY
 have HJ := Lib.hid hJa
 have HGR1 := Lib.hid hgr1
 have HSW := Lib.hid hsw
 have hmm := @run_makeMap Tryz.prog
 clear hY hx hgb hg hW hJa h0 hB0 hgr1 hm1 hc1 hs1 hE1 hE2 hsw hg1
 refine callsIn_of_wp Tryz.func92 rfl trivial ?_ rfl
 simp only [Tryz.ntmps92, List.size_toArray, List.length_cons, List.length_nil, Nat.reduceAdd, Nat.reduceSub, Array.replicate_succ, Array.replicate_zero, List.push_toArray, List.append_toArray, List.nil_append, List.cons_append]
 gi_wp2
 gi_loopw [5] (fun v wr => ∃ (i n : Nat) (l' : List Int) (T : Nat → Prop) (A : Option Addr) (L c : Nat), v = .slice A L c ∧ n + i = 2 * f.length + 2 ∧ Hid (i ≤ l'.length ∧ bfs (nbL f) n i l' = reachL f x ∧ L = (l'.drop i).length ∧ RS J W.heap.size b3 b2 g ks f x (l'.take i) l' (l'.drop i) T v wr))
  (fun v wr => 2 * f.length + 2 - (msz wr W.heap.size - qlen v))
 case atStart => exact ⟨0, 2 * f.length + 2, [x], _, _, 1, 1, rfl, rfl, Lib.hid ⟨by simp, rfl, rfl, HS0.out⟩⟩
 case round =>
  obtain ⟨i, n, l', T, A, L, c, rfl, hni, HS⟩ := hrel
  obtain ⟨w2, rfl⟩ : ∃ w2 : World, w2 = wr := ⟨_, rfl⟩
  by_cases hlt : i < l'.length
  · obtain ⟨y, hy⟩ : ∃ y, y = l'[i] := ⟨_, rfl⟩
    obtain ⟨r, hr⟩ : ∃ r, r = l'.drop (i + 1) := ⟨_, rfl⟩
    have hdr : l'.drop i = y :: r := by rw [List.drop_eq_getElem_cons hlt, hy, hr]
    obtain ⟨n', hn'⟩ : ∃ n', n = n' + 1 := by
     cases n with
     | zero =>
       exfalso
       have h1 := HS.out.2.1
       have h2 := reachL_len f x
       rw [← h1] at h2
       have h3 : l'.length ≤ 2 * f.length + 1 := h2
       omega
     | succ n => exact ⟨n, rfl⟩
    subst hn'
    have hbf := HS.out.2.1
    unfold bfs at hbf
    rw [dif_pos hlt, ← hy] at hbf
    have hL : L = r.length + 1 := by rw [HS.out.2.2.1, hdr]; rfl
    have hrs := HS.out.2.2.2
    rw [hdr, hL] at hrs
    have hpop := hrs.pop
    have hpre : l'.take i ++ [y] = l'.take (i + 1) := by rw [List.take_succ_eq_append_getElem hlt, hy]
    obtain ⟨fn, tmps, assign, body, hyy, hR⟩ := HY.out (l'.take i) y T w2 hrs.j (by
     rw [hpre]
     refine (List.take_prefix _ _).trans ?_
     have := bfs_pre (nbL f) (n' + 1) i l'
     rwa [HS.out.2.1] at this)
    obtain ⟨ad, rfl, hcell⟩ := hrs.q.head
    have hlen := hrs.q.len
    obtain ⟨TA, hTA⟩ : ∃ TA, (if c = 1 then some ad else Option.map (fun x => x.add 1) (some ad)) = TA := ⟨_, rfl⟩
    have hsl : ∀ W : World, (Instr.slice 24 (.slice (some ad) (r.length + 1) c) (some (.int .i64 1)) none none).run Tryz.prog W = .ok (.slice TA r.length (c - 1)) W := fun W => by rw [← hTA]; exact slice_1q (some ad) r.length c W
    rw [hTA] at hpop
    have HMS2 := Lib.hid HS.out.2.2.2.met.msz
    have HR2 := Lib.hid hR
    have HPOP := Lib.hid hpop
    have HBF := Lib.hid hbf
    have HPRE := Lib.hid hpre
    have HYE := Lib.hid hy
    have HRE := Lib.hid hr
    have hLL := Lib.hid hL
    have hc1 : r.length + 1 ≤ c := by have := hlen.2.1; simpa using this
    have hc2 : c ≤ 9223372036854775807 := hlen.2.2
    subst hL
    clear hR hpop hbf hpre hy hr hrs hdr HS hlen hTA
    gi_wp2
    refine ⟨rfl, HR2.out.mono ?_⟩
    rintro e W3 (⟨rfl, hJ3, hk3⟩ | ⟨rfl, hJx3⟩)
    · have HRS := Lib.hid (HPOP.out.round hJ3 hk3)
      clear hJ3 hk3 hcell hyy hsl
      obtain ⟨RA, rc, hre, hr1, hr2, hr3⟩ := HRS.out.gr.row y
      have hlk := HRS.out.gr.lookup y
      rw [hre] at hlk
      have cg3 := HRS.out.cg
      obtain ⟨M, hM⟩ : ∃ M, M = (nbL f y).length := ⟨_, rfl⟩
      rw [← hM] at hlk hr1 hr2
      have HMM := Lib.hid hM
      have HROW := Lib.hid hr3
      have HRW0 : Hid (Row W RA ((nbL f y).map (Value.int .i64))) := Lib.hid (by
       obtain ⟨A', c', e1, -, -, e4⟩ := HGR1.out.row y
       rw [hre] at e1
       injection e1 with e1 e2 e3
       subst e1
       exact e4)
      clear hre hr3 hM
      gi_wp2
      refine wpIn_wide.2 ?_
      go_loopg [5, 30] M (fun gn v j wr => ∃ (m : Nat) (T2 : Nat → Prop) (A2 : Option Addr) (L2 c2 : Nat), m ≤ M ∧ gn + m = M ∧ j = .int .i64 m ∧ v = .slice A2 L2 c2 ∧
       Hid (RS J W.heap.size b3 b2 g ks f x (l'.take i ++ [y]) (addAll l' ((nbL f y).take m)) ((addAll l' ((nbL f y).take m)).drop (i + 1)) T2 v wr) ∧ Hid (Row wr RA ((nbL f y).map (Value.int .i64))))
      case atStart => exact ⟨0, T, _, _, _, Nat.zero_le _, by omega, rfl, rfl, Lib.hid (by rw [List.take_zero, show addAll l' [] = l' from rfl, ← HRE.out]; exact HRS.out), HROW⟩
      case round =>
       obtain ⟨m, T2, A2, L2, c2, hm, hgm, rfl, rfl, HR4, HRW⟩ := hrel
       obtain ⟨w4, rfl⟩ : ∃ w4 : World, w4 = wr := ⟨_, rfl⟩
       by_cases hml : m < M
       · have hmf : m < (nbL f y).length := by rw [← HMM.out]; exact hml
         obtain ⟨bd, rfl, hz⟩ := HRW.out.int m hmf
         obtain ⟨l4, hl4⟩ : ∃ l4, l4 = addAll l' ((nbL f y).take m) := ⟨_, rfl⟩
         have hnext : addAll l' ((nbL f y).take (m + 1)) = addN l4 (nbL f y)[m] := by rw [List.take_succ_eq_append_getElem hmf, addAll_snoc, ← hl4]
         have hi4 : i + 1 ≤ l4.length := by rw [hl4]; have := addAll_len l' ((nbL f y).take m); omega
         have hl4b : l4.length ≤ 2 * f.length + 1 := by
          have h1 := addAll_take_len l' (nbL f y) m
          have h2 := (bfs_pre (nbL f) n' (i + 1) (addAll l' (nbL f y))).length_le
          rw [HBF.out] at h2
          have := reachL_len f x
          rw [hl4]; omega
         rw [← hl4] at HR4
         generalize (nbL f y)[m] = z at hz hnext
         have hlk2 := HR4.out.met.lookup (P := Tryz.prog) fam_kvI Tryz.underlying78 (zeroValue_b w4) z
         rw [lkp_metK] at hlk2
         unfold kvI at hlk2
         have HNX := Lib.hid hnext
         have HI4 := Lib.hid hi4
         clear hnext hl4 hi4
         by_cases hzl : z ∈ l4
         · rw [if_pos hzl] at hlk2
           have hlk3 : (Instr.lookup 78 (.map (some W.heap.size)) (.int .i64 z) false).run Tryz.prog w4 = .ok (.bool true) w4 := hlk2
           have HN4 : Hid (addAll l' ((nbL f y).take (m + 1)) = l4) := Lib.hid (by rw [HNX.out]; unfold addN; rw [if_pos hzl])
           clear hlk2 hzl
           go_wp2
           go_roundg (M - (m + 1))
           case measure => omega
           case rel => exact ⟨m + 1, T2, A2, L2, c2, by omega, by omega, by go_num, rfl, by rw [HN4.out]; exact HR4, HRW⟩
         · rw [if_neg hzl] at hlk2
           have hlk3 : (Instr.lookup 78 (.map (some W.heap.size)) (.int .i64 z) false).run Tryz.prog w4 = .ok (.bool false) w4 := hlk2
           have HN4 : Hid (addAll l' ((nbL f y).take (m + 1)) = l4 ++ [z]) := Lib.hid (by rw [HNX.out]; unfold addN; rw [if_neg hzl])
           have HZL := Lib.hid hzl
           have hql : (l4.drop (i + 1)).length ≤ 10000000 := by rw [List.length_drop]; omega
           have HQL := Lib.hid hql
           clear hlk2 hzl hql
           go_wp2_with (at_builtin
                        refine appQ rfl (.tmp 40) (.tmp 42) rfl (base := W.heap.size) (v := .slice A2 L2 c2) (xs := l4.drop (i + 1)) (y := z) rfl rfl HR4.out.q HQL.out HR4.out.lt ?_
                        intro v' w5 hq hc hv
                        obtain ⟨A5, c5, rfl⟩ := hq.shape
                        obtain ⟨w6, hup6, hm6, hu6, -⟩ := (HR4.out.met.keep hc (q_ne_map HR4.out.q HR4.out.met)).update (P := Tryz.prog) fam_kvI Tryz.underlying78 z (.bool true)
                        unfold kvI at hup6
                        rw [kput_metK HZL.out] at hm6
                        have HP := Lib.hid (HR4.out.push HJ.out HB.out hq hc hv hm6 hu6)
                        have HC46 := Lib.hid ((hc.mono fun i hi => HR4.out.tb i (HR4.out.tq i hi)).trans (hu6.mono fun i hi => (by rw [hi]; exact Nat.le_refl _ : W.heap.size ≤ i)))
                        clear hq hc hv hm6 hu6)
           obtain ⟨T6, hp6⟩ := HP.out
           rw [show (l4.drop (i + 1) ++ [z]).length = l4.length - (i + 1) + 1 by simp] at hp6
           go_roundg (M - (m + 1))
           case measure => omega
           case rel => exact ⟨m + 1, T6, A5, _, c5, by omega, by omega, by go_num, rfl, by rw [HN4.out, List.drop_append_of_le_length HI4.out]; exact Lib.hid hp6, Lib.hid (HRW.out.chg HC46.out (fun k hk h => by have := RowB.lt HRW0.out hk; omega))⟩
       · obtain rfl : m = M := by omega
         have hfull : addAll l' ((nbL f y).take m) = addAll l' (nbL f y) := by rw [HMM.out, List.take_length]
         rw [hfull] at HR4
         obtain ⟨l4, hl4⟩ : ∃ l4, l4 = addAll l' (nbL f y) := ⟨_, rfl⟩
         rw [← hl4] at HR4
         have hl1 : i + 1 ≤ l4.length := by rw [hl4]; have := addAll_len l' (nbL f y); omega
         have htk : l4.take (i + 1) = l'.take i ++ [y] := by
          rw [HPRE.out, hl4]
          obtain ⟨s, hs⟩ := addAll_pre (nbL f y) l'
          rw [hs, List.take_append_of_le_length (by omega)]
         have HNEW : Hid (i + 1 ≤ l4.length ∧ bfs (nbL f) n' (i + 1) l4 = reachL f x ∧ L2 = (l4.drop (i + 1)).length ∧ RS J W.heap.size b3 b2 g ks f x (l4.take (i + 1)) l4 (l4.drop (i + 1)) T2 (.slice A2 L2 c2) w4) := Lib.hid
          ⟨hl1, by rw [hl4]; exact HBF.out, HR4.out.q.len.1, by rw [htk]; exact HR4.out⟩
         have hms := HR4.out.met.msz
         have hL2 := HR4.out.q.len.1
         have HMS := Lib.hid hms
         have HL2 := Lib.hid hL2
         clear hfull hl4 htk hms hL2 hl1
         go_wp2
         go_roundw
         case rel => exact ⟨i + 1, n', l4, T2, A2, L2, c2, rfl, by omega, HNEW⟩
         case measure =>
          have e1 := HMS.out
          have e2 := HMS2.out
          have e3 := HL2.out
          have e4 := congrArg List.length HRE.out
          have e5 : l'.length ≤ 2 * f.length + 1 := by
           have h1 := addAll_len l' (nbL f y)
           have h2 := (bfs_pre (nbL f) n' (i + 1) (addAll l' (nbL f y))).length_le
           rw [HBF.out] at h2
           have := reachL_len f x
           omega
          have e6 := HNEW.out.1
          simp only [metK, List.length_map, List.length_drop] at e1 e2 e3 e4
          rw [e1, e2]
          simp only [qlen]
          omega
    · gi_wp2
      refine bodyPost_ret (results_none rfl _ _ _) rfl ?_
      exact ⟨⟨_, rfl⟩, .inr ⟨l'.take i ++ [y], _, by rw [HPRE.out]; exact (List.take_prefix _ _).trans (by have := bfs_pre (nbL f) n' (i + 1) (addAll l' (nbL f y)); rw [HBF.out] at this; obtain ⟨s, hs⟩ := addAll_pre (nbL f y) l'; exact (hs ▸ List.prefix_append l' s).trans this), hJx3⟩⟩
  · have hi : i = l'.length := by have := HS.out.1; omega
    subst hi
    have hbf : l' = reachL f x := by
     rw [← HS.out.2.1]
     cases n with
     | zero => rfl
     | succ n => unfold bfs; rw [dif_neg (by omega)]
    have hL : L = 0 := by rw [HS.out.2.2.1]; simp
    subst hL
    have HJF : Hid (J (reachL f x) T w2) := Lib.hid (by have := HS.out.2.2.2.j; rw [List.take_length] at this; rw [← hbf]; exact this)
    clear hbf
    gi_wp2
    go_end0
    exact ⟨⟨_, rfl⟩, .inl ⟨_, HJF.out⟩⟩
end Go.Proofs.YtjecjaihficcdaaGreat
namespace Go.Proofs.YtjecjaihficcdaaGreat
open Go.RowKit
attribute [local go_sem] Oper.semAt_some
theorem reached_any (g : Nat) (x : Int) (w : World) : Calls Tryz.prog 40 #[.map (some g), .int .i64 x] w fun e w' => ∃ b3 b2, e = .returned (.func (.func 92) #[] #[.pointer (some ⟨b3, 0, none⟩), .pointer (some ⟨b2, 0, none⟩)]) ∧ Ext w w' ∧ w'.cell? ⟨b3, 0, none⟩ = some (.int .i64 x) ∧ w'.cell? ⟨b2, 0, none⟩ = some (.map (some g)) ∧ w.heap.size ≤ b3 ∧ w.heap.size ≤ b2 := by
 have e1 := Ext.alloc w (.cells #[.map (some g)] 67)
 have e2 := Ext.alloc (w.alloc (.cells #[.map (some g)] 67)) (.cells #[.int .i64 x] 3)
 have c1 := (Var1.new (w.alloc (.cells #[.map (some g)] 67)) 3 (.int .i64 x)).cell
 have c2 := ((Var1.new w 67 (.map (some g))).ext e2).cell
 rw [World.size_alloc] at c1
 have E1 := Lib.hid (e1.trans e2)
 have C1 := Lib.hid c1
 have C2 := Lib.hid c2
 clear e1 e2 c1 c2
 go_enter Tryz.func40, Tryz.ntmps40
 go_wp2
 go_ret
 exact ⟨_, _, rfl, E1.out, C1.out, C2.out, by omega, by omega⟩
theorem fv_reached1 : Fv Tryz.prog 92 := ⟨_, Tryz.func92, by kernel_rfl, by kernel_rfl⟩
set_option maxRecDepth 100000 in
set_option maxHeartbeats 2000000 in
theorem reaches_any (f : List (List Int)) (g : Nat) (ks : List (Int × Value)) (x y : Int) (w : World) (hf : f.length ≤ 20000) (hg : GR w g ks f) :
 Calls Tryz.prog 48 #[.map (some g), .int .i64 x, .int .i64 y] w fun e w' => e = .returned (.bool (decide (y ∈ reachL f x))) ∧ Ext w w' := by
 have HG := Lib.hid hg
 have HV := Lib.hid (Var1.new w 3 (.int .i64 y))
 have HR := Lib.hid (Var1.new (w.alloc (.cells #[.int .i64 y] 3)) 4 (.bool false))
 rw [World.size_alloc] at HR
 have HE := Lib.hid ((Ext.alloc w (.cells #[.int .i64 y] 3)).trans (Ext.alloc _ (.cells #[.bool false] 4)))
 have HE' := Lib.hid (Ext.alloc (w.alloc (.cells #[.int .i64 y] 3)) (.cells #[.bool false] 4))
 clear hg
 refine calls_marks Tryz.func48 rfl ?_
 simp only [Tryz.ntmps48, List.size_toArray, List.length_cons, List.length_nil, Nat.reduceAdd, Nat.reduceSub, Array.replicate_succ, Array.replicate_zero, List.push_toArray, List.append_toArray, List.nil_append, List.cons_append]
 go_wp2_with (go_at_call 40; refine (reached_any _ _ _).mono ?_; rintro e w2 ⟨b3, b2, rfl, hE, h3, h2, hb3, hb2⟩; have HB3 : w.heap.size + 2 ≤ b3 := (by simpa using hb3); have HB2 : w.heap.size + 2 ≤ b2 := (by simpa using hb2); have HE2 := Lib.hid hE; have H3 := Lib.hid h3; have H2 := Lib.hid h2; clear hE h3 h2 hb3 hb2)
 have hz2 : w.heap.size + 2 ≤ w2.heap.size := by have := HE2.out.size; simpa using this
 have HW2 := Lib.hid (HE.out.trans HE2.out)
 have HV2 := Lib.hid ((HV.out.ext HE'.out).ext HE2.out)
 have HR2 := Lib.hid (HR.out.ext HE2.out)
 have hrk : ∀ k, (k = b3 ∨ k = b2 ∨ GB g ks k) → k < w2.heap.size := fun k hk => by
  rcases hk with rfl | rfl | hk
  · exact World.block_lt_of_cell? w2 _ H3.out
  · exact World.block_lt_of_cell? w2 _ H2.out
  · exact (HG.out.ext HW2.out).lt hk
 have HRK := Lib.hid hrk
 clear hrk
 refine wp_range (reached_iter f g b3 b2 ks x w2 hf H3.out H2.out (HG.out.ext HW2.out)) rfl fv_reached1 HRK.out (fun _ => rfl)
  (fun pre T W => y ∉ pre ∧ (∀ i, T i → w2.heap.size ≤ i) ∧ Chg T w2 W)
  (fun c pre T W => c = .ret ∧ y ∈ pre ∧ (∀ i, T i → w2.heap.size ≤ i) ∧ Chg (fun i => T i ∨ i = w.heap.size + 1) w2 W ∧ Var1 W (w.heap.size + 1) 4 (.bool true)) ?hI ?hIx ⟨by simp, fun _ h => h.elim, Chg.refl _ _⟩
  (fun z => ⟨#[.map (some g), .int .i64 x, .int .i64 y, undef, undef, .pointer (some ⟨w.heap.size, 0, none⟩), .pointer (some ⟨w.heap.size + 1, 0, none⟩), .int .i64 z, .map (some g), .int .i64 x,
   .func (.func 92) #[] #[.pointer (some ⟨b3, 0, none⟩), .pointer (some ⟨b2, 0, none⟩)], .int .i64 z, undef, undef, undef], []⟩) ?assign ?body ?done ?stop
 case hI =>
  rintro s T T' A C ⟨h1, hT, hc⟩ hch h2 h3 _
  have := hc.size
  exact ⟨h1, fun i hi => (h3 i hi).elim (hT i) (fun h => by omega), (hc.mono h2).trans (hch.mono h2)⟩
 case hIx =>
  rintro c s T T' A C ⟨h0, h1, hT, hc, hv⟩ hch h2 h3 _
  have := hc.size
  exact ⟨h0, h1, fun i hi => (h3 i hi).elim (hT i) (fun h => by omega), (hc.mono fun i hi => hi.imp (h2 i) id).trans (hch.mono fun i hi => .inl (h2 i hi)), (hch.block _ hv.lt (fun h => by have := hT _ h; omega)).trans hv⟩
 case assign =>
  intro l z W K hK
  gi_wp2
  exact hK
 case body =>
  rintro l pre z T W ⟨hno, hT, hc⟩ hpre hTw hWs
  have hcy : W.cell? ⟨w.heap.size, 0, none⟩ = some (.int .i64 y) := hc.cell HV2.out.cell (fun h => by have := hT _ h; simp at this; omega)
  have hvr : Var1 W (w.heap.size + 1) 4 (.bool false) := (hc.block _ HR2.out.lt (fun h => by have := hT _ h; omega)).trans HR2.out
  have hcr := hvr.cell
  have hfr := hvr.free
  have HVR := Lib.hid hvr
  have HC := Lib.hid hc
  have HT := Lib.hid hT
  have HNO := Lib.hid hno
  clear hvr hc hT hno hpre hTw hWs
  by_cases hzy : z = y
  · have hb : (z == y) = true := by simpa using hzy
    gi_wp2
    exact ⟨(Chg.set W _ _ _).mono fun i hi h => by
     subst hi
     rcases h with h | h
     · rcases h with h | h | h
       · omega
       · omega
       · have := HG.out.lt h; omega
     · have := HT.out _ h; omega, rfl, by simp [hzy], HT.out, (HC.out.mono fun _ h => .inl h).trans ((Chg.set W _ _ _).mono fun _ h => .inr h), HVR.out.set _⟩
  · have hb : (z == y) = false := by simpa using hzy
    gi_wp2
    exact ⟨Chg.refl _ _, by simp only [List.mem_append, List.mem_singleton, not_or]; exact ⟨HNO.out, fun e => hzy e.symm⟩, HT.out, HC.out⟩
 case done =>
  rintro D T W hD hTD ⟨hno, hT, hc⟩ hK
  have hvr : Var1 W (w.heap.size + 1) 4 (.bool false) := (hc.block _ HR2.out.lt (fun h => by have := hT _ h; omega)).trans HR2.out
  have hcr := hvr.cell
  have hfr := hvr.free
  have HVR := Lib.hid hvr
  have hE : Ext w W := hc.toExt HW2.out (fun i hi => by have := hT i hi; omega)
  have HEW := Lib.hid hE
  have HK := Lib.hid hK
  have HNO := Lib.hid hno
  clear hvr hE hK hc hT hno hTD
  go_wp2
  have hKF : (W.setCell ⟨w.heap.size + 1, 0, none⟩ (.bool false)).heap[D]? = some (.deferred (some [])) := ((Chg.set W (w.heap.size + 1) 0 (.bool false)).block D (Array.getElem?_eq_some_iff.1 HK.out).1 (fun e => by omega)).trans HK.out
  have hcell := ((putObj_chg (W.setCell ⟨w.heap.size + 1, 0, none⟩ (.bool false)) D (.deferred none)).block _ (HVR.out.set (.bool false)).lt (fun e => by omega)).trans (HVR.out.set (.bool false))
  have hcell2 : Var1 _ _ _ _ := hcell
  have b0 := hcell2.cell
  refine ret_markc (v := .bool false) rfl hKF (by simp [results, Tryz.results48, go_sem, b0]) ?_
  exact ⟨by rw [decide_eq_false HNO.out], ((putObj_chg _ D (.deferred none)).toExt ((Chg.set W (w.heap.size + 1) 0 (.bool false)).toExt HEW.out (fun i e => by omega)) (fun i e => by omega))⟩
 case stop =>
  rintro D c pre T W hD hTD hpre ⟨rfl, hy, hT, hc, hv⟩ hK
  have hE : Ext w W := hc.toExt HW2.out (fun i hi => hi.elim (fun h => by have := hT i h; omega) (fun h => by omega))
  have hcell2 : Var1 (W.putObj D (.deferred none)) (w.heap.size + 1) 4 (.bool true) := ((putObj_chg W D (.deferred none)).block _ hv.lt (fun e => by omega)).trans hv
  have b0 := hcell2.cell
  have HB0 := Lib.hid b0
  have HEW := Lib.hid hE
  have HK := Lib.hid hK
  have HY := Lib.hid hy
  clear hE hcell2 b0 hK hT hc hv hTD hy
  go_wp2
  have b0 := HB0.out
  refine ret_markc (v := .bool true) rfl HK.out (by simp [results, Tryz.results48, go_sem, b0]) ?_
  exact ⟨by rw [decide_eq_true (hpre.subset HY.out)], (putObj_chg W D (.deferred none)).toExt HEW.out (fun i e => by omega)⟩
end Go.Proofs.YtjecjaihficcdaaGreat
namespace Go.Proofs.YtjecjaihficcdaaGreat
open Go.RowKit
theorem collect_any (xs : List Int) (gf : FuncId) (lb : Array Value) (Rk : Nat → Prop) (w : World) (hit : Iter Tryz.prog gf lb (fun y : Int => #[.int .i64 y]) xs Rk w) (hf : Fv Tryz.prog gf) (hRk : ∀ k, Rk k → k < w.heap.size) (hl : xs.length ≤ 1000000) :
 Calls Tryz.prog 91 #[.func (.func gf) #[] lb] w fun e w' => ∃ v, e = .returned v ∧ OwnI w' w.heap.size v xs ∧ Ext w w' := by
 have HA := Lib.hid (appendSeq_any xs gf lb Rk w hit hf hRk hl)
 clear hit hRk
 go_enter Tryz.func91, Tryz.ntmps91
 go_wp2_with (go_at_call 130; refine HA.out.mono ?_; rintro e w' ⟨v, rfl, ho, hE⟩; have HO := Lib.hid ho; have HE := Lib.hid hE; clear ho hE)
 go_ret
 exact ⟨_, rfl, HO.out, HE.out⟩
theorem sortedFunc_any (xs : List Int) (gf : FuncId) (lb : Array Value) (Rk : Nat → Prop) (w : World) (hit : Iter Tryz.prog gf lb (fun y : Int => #[.int .i64 y]) xs Rk w) (hf : Fv Tryz.prog gf) (hRk : ∀ k, Rk k → k < w.heap.size) (hl : xs.length ≤ 1000000)
 (hn : xs.Nodup) (hv : ∀ x ∈ xs, varOf x ≠ 0) :
 Calls Tryz.prog 38 #[.func (.func gf) #[] lb, .func (.func 41) #[] #[]] w fun e w' => ∃ v, e = .returned v ∧ OwnI w' w.heap.size v (setL [] xs) ∧ Ext w w' := by
 have HA := Lib.hid (collect_any xs gf lb Rk w hit hf hRk hl)
 have h64 : All64 xs := fun x hx => by have := varOf_eq (hv x hx); have := varOf_range x; unfold I64; omega
 have H64 := Lib.hid h64
 have HN := Lib.hid hn
 have HV := Lib.hid hv
 clear hit hRk hn hv h64
 go_enter Tryz.func38, Tryz.ntmps38
 go_wp2_with (first
  | (go_at_call 91; refine HA.out.mono ?_; rintro e w1 ⟨v, rfl, ho, hE⟩; have HO := Lib.hid ho; have HE := Lib.hid hE; clear ho hE)
  | (go_at_call 51; refine (SortE_own xs v _ _ HO.out (by omega) H64.out).mono ?_; rintro e w2 ⟨ys, rfl, ho, hg, hp, hs⟩; have HO2 : Hid (OwnI w2 w.heap.size v (setL [] xs)) := Lib.hid (sortE_set hp hs HN.out HV.out ▸ ho); have HE2 := Lib.hid (grow_ext HE.out HO.out hg); clear ho hg hp hs))
 go_ret
 exact ⟨_, rfl, HO2.out, HE2.out⟩
theorem mayCnf_var {f : List (List Int)} (hm : mayCnfB f = true) : ∀ c ∈ f, ∀ x ∈ c, varOf x ≠ 0 := fun c hc x hx => by
 obtain ⟨k, hk, rfl⟩ := List.getElem_of_mem hc
 have := ((mayB_iff _).1 (mayCnfB_get hm k hk)).2 x hx
 omega
theorem lits2_var {f : List (List Int)} (hm : mayCnfB f = true) : ∀ x ∈ lits2 f, varOf x ≠ 0 := fun x hx => by
 unfold lits2 at hx
 obtain ⟨c, hc, hm'⟩ := List.mem_flatMap.1 hx
 split at hm'
 · exact mayCnf_var hm c hc x hm'
 · cases hm'
theorem reachL_var {f : List (List Int)} (hm : mayCnfB f = true) {lit : Int} (hv : varOf lit ≠ 0) : ∀ x ∈ reachL f lit, varOf x ≠ 0 := fun x hx => by
 rcases (reachL_spec f lit).2.1 x hx with rfl | h
 · exact hv
 · exact lits2_var hm x h
set_option maxHeartbeats 1000000 in
theorem Reaches_any (f : List (List Int)) (lit : Int) (u : Value) (w : World) (hlit : I64 lit) (h64 : All64L f) (kr : RLL w u f) (ht : f.length ≤ 20000 → total f ≤ 9223372036854775807) :
 Calls Tryz.prog 12 #[u, .int .i64 lit] w fun e w' => ∃ v, e = .returned v ∧ OwnI w' w.heap.size v (ReachV f lit) ∧ Ext w w' := by
 have HM := Lib.hid (fun w' (h : Ext w w') => mayCnf_any u f w' (RLL.ext' kr h) h64 ht)
 have HV := Lib.hid (fun w' => var_any lit hlit w')
 have HKR := Lib.hid kr
 obtain ⟨A, c, vs, rfl, k1, k2, -⟩ := kr
 obtain ⟨v, hv⟩ : ∃ v, v = varOf lit := ⟨_, rfl⟩
 unfold ReachV
 rw [← hv] at HV ⊢
 have HVE := Lib.hid hv
 clear hv
 by_cases h0 : v = 0
 · rw [if_pos (.inl h0)]
   have hb : (v == 0) = true := by simpa using h0
   clear h0
   go_enter Tryz.func12, Tryz.ntmps12
   go_wp2_with (go_at_call 36; refine (HV.out _).mono ?_; rintro e w' ⟨rfl, rfl⟩)
   go_ret
   exact ⟨_, rfl, OwnI.nil _ _, Ext.refl _⟩
 · have hb : (v == 0) = false := by simpa using h0
   cases hm : mayCnfB f
   · rw [if_pos (.inr rfl)]
     rw [hm] at HM
     clear hm h0
     go_enter Tryz.func12, Tryz.ntmps12
     go_wp2_with (first
      | (go_at_call 36; refine (HV.out _).mono ?_; rintro e w' ⟨rfl, rfl⟩)
      | (go_at_call 37; refine (HM.out _ (Ext.refl _)).mono ?_; rintro e w1 ⟨rfl, hE⟩; have HE := Lib.hid hE; clear hE))
     go_ret
     exact ⟨_, rfl, OwnI.nil _ _, HE.out⟩
   · rw [if_neg (by simp [h0])]
     rw [hm] at HM
     have HMM := Lib.hid hm
     have H0 := Lib.hid h0
     clear hm h0
     go_enter Tryz.func12, Tryz.ntmps12
     go_wp2_with (first
      | (go_at_call 36; refine (HV.out _).mono ?_; rintro e w' ⟨rfl, rfl⟩)
      | (go_at_call 37; refine (HM.out _ (Ext.refl _)).mono ?_; rintro e w1 ⟨rfl, hE⟩; have HE := Lib.hid hE; clear hE)
      | (go_at_call 39; refine (implications_any f _ _ h64 (RLL.ext' HKR.out HE.out) HMM.out).mono ?_; rintro e w2 ⟨g, ks, rfl, hg, hE⟩; have HG := Lib.hid (GM.reads hg); have HE2 := Lib.hid (HE.out.trans hE); clear hg hE)
      | (go_at_call 40; refine (reached_any _ _ _).mono ?_; rintro e w3 ⟨b3, b2, rfl, hE, h3, h2, -, -⟩; have HE3 := Lib.hid (HE2.out.trans hE); have HG3 := Lib.hid (HG.out.ext hE); have H3 := Lib.hid h3; have H2 := Lib.hid h2; clear hE h3 h2)
      | (go_at_call 38
         refine (sortedFunc_any (reachL f lit) _ _ _ _ (reached_iter f g b3 b2 ks lit _ (mayCnfB_len HMM.out) H3.out H2.out HG3.out) fv_reached1 (fun k hk => (by
          rcases hk with rfl | rfl | hk
          · exact World.block_lt_of_cell? _ _ H3.out
          · exact World.block_lt_of_cell? _ _ H2.out
          · exact HG3.out.lt hk)) (by have := reachL_len f lit; have := mayCnfB_len HMM.out; omega) (reachL_spec f lit).1 (reachL_var HMM.out (by rw [← HVE.out]; exact H0.out))).mono ?_
         rintro e w4 ⟨v4, rfl, ho, hE⟩
         have HO := Lib.hid (own_lower ho HE3.out.size)
         have HE4 := Lib.hid (HE3.out.trans hE)
         clear ho hE))
     go_ret
     exact ⟨_, rfl, HO.out, HE4.out⟩
end Go.Proofs.YtjecjaihficcdaaGreat
namespace Go.Proofs.YtjecjaihficcdaaGreat
open Go.RowKit Go.ChangeMaps
section
variable {κ : Type} {P : Program} {kv : κ → Value} {g r : Nat} {ks told : List (κ × Value)} {w : World}
def MR (kv : κ → Value) (w : World) (g r : Nat) (ks told : List (κ × Value)) : Prop :=
 ∃ (es : Array MapEntry) (clock since : Nat) (c0 : Nat) (tl : List MapEntry), w.heap[g]? = some (.map es clock) ∧ MapKept.Stamped es clock ∧ es.toList.map (fun e => (e.key, e.val)) = ks.map (fun p => (kv p.1, p.2)) ∧
  w.heap[r]? = some (.mapIter (some g) since (tl.map (·.born)).toArray c0) ∧ (∀ x ∈ es.toList, x.born < since) ∧ (since ≤ c0 ∧ since ≤ clock) ∧ (∀ e ∈ tl, e ∈ es.toList) ∧ (tl.map (·.born)).Nodup ∧ tl.map (fun e => (e.key, e.val)) = told.map fun p => (kv p.1, p.2)
theorem MapK.range (h : MapK kv w g ks) {T K E : TypeId} (hT : P.underlying T = some (.map K E)) :
 ∃ w', (Instr.range T (.map (some g))).run P w = .ok (.pointer (some ⟨w.heap.size, 0, none⟩)) w' ∧ MR kv w' g w.heap.size ks [] ∧ Ext w w' ∧ w'.heap.size = w.heap.size + 1 := by
 obtain ⟨es, clock, hg, hs, hm⟩ := h
 refine ⟨w.alloc (.mapIter (some g) clock #[] clock), run_range_map w T K E g es clock hT hg, ⟨es, clock, clock, clock, [], ?_, hs, hm, heap_alloc_new w _, hs.1, ⟨Nat.le_refl _, Nat.le_refl _⟩, by simp, by simp, rfl⟩, Ext.alloc w _, by simp⟩
 · exact (Ext.alloc w _).block g (Array.getElem?_eq_some_iff.1 hg).1 |>.trans hg
theorem nodup_lenN : ∀ (l u : List Nat), l.Nodup → (∀ x ∈ l, x ∈ u) → l.length ≤ u.length
 | [], _, _, _ => by simp
 | x :: l, u, hn, hs => by
   rw [List.nodup_cons] at hn
   have hx := hs x (by simp)
   have h1 := nodup_lenN l (u.erase x) hn.2 (fun y hy => (List.mem_erase_of_ne (fun e => hn.1 (by rw [← e]; exact hy))).2 (hs y (by simp [hy])))
   rw [List.length_erase_of_mem hx] at h1
   have := List.length_pos_of_mem hx
   simp only [List.length_cons]
   omega
theorem MR.len (h : MR kv w g r ks told) : told.length ≤ ks.length := by
 obtain ⟨es, clock, since, c0, tl, -, -, hm, -, -, -, h1, h2, h3⟩ := h
 have e1 := congrArg List.length h3
 have e2 := congrArg List.length hm
 simp only [List.length_map] at e1 e2
 have := nodup_lenN (tl.map (·.born)) (es.toList.map (·.born)) h2 (fun b hb => by
  obtain ⟨e, he, rfl⟩ := List.mem_map.1 hb
  exact List.mem_map.2 ⟨e, h1 e he, rfl⟩)
 simp only [List.length_map] at this
 omega
theorem MR.keep {S : Nat → Prop} {w' : World} (h : MR kv w g r ks told) (k : Chg S w w') (hg : ¬ S g) (hr : ¬ S r) : MR kv w' g r ks told := by
 obtain ⟨es, clock, since, c0, tl, h1, h2, h3, h4, h5⟩ := h
 exact ⟨es, clock, since, c0, tl, (k.block g (Array.getElem?_eq_some_iff.1 h1).1 hg).trans h1, h2, h3, (k.block r (Array.getElem?_eq_some_iff.1 h4).1 hr).trans h4, h5⟩
theorem MR.lt (h : MR kv w g r ks told) : r < w.heap.size := by
 obtain ⟨es, clock, since, c0, tl, h1, h2, h3, h4, h5⟩ := h
 exact (Array.getElem?_eq_some_iff.1 h4).1
theorem setBlock_chg (w : World) (r : Nat) (o : Obj) : Chg (fun k => k = r) w (setBlock w r o) :=
 ⟨rfl, rfl, rfl, by simp [setBlock], fun k _ hn => by simp only [setBlock]; rw [Array.getElem?_setIfInBounds_ne (fun e => hn e.symm)]⟩
theorem MR.next (h : MR kv w g r ks told) (hgr : g ≠ r) (ty : TypeId) :
 ((∀ p ∈ ks, ∃ q ∈ told, kv q.1 = kv p.1 ∧ q.2 = p.2) ∧ (Instr.next (.pointer (some ⟨r, 0, none⟩)) false ty).run P w = .ok (.tuple #[.bool false]) w) ∨
 ∃ p ∈ ks, ∃ w', (Instr.next (.pointer (some ⟨r, 0, none⟩)) false ty).run P w = .ok (.tuple #[.bool true, kv p.1, p.2]) w' ∧ (Instr.entry (.pointer (some ⟨r, 0, none⟩))).run P w' = .ok (.tuple #[kv p.1, p.2]) w' ∧ MR kv w' g r ks (told ++ [p]) ∧ Chg (fun k => k = r) w w' := by
 obtain ⟨es, clock, since, c0, tl, hg, hs, hm, hr, hb, hsc, h1, h2, h3⟩ := h
 have find : ∀ e ∈ es.toList, ∃ p ∈ ks, e.key = kv p.1 ∧ e.val = p.2 := fun e he => by
  obtain ⟨j, hj, rfl⟩ := List.getElem_of_mem he
  have hlen := congrArg List.length hm
  simp only [List.length_map] at hlen
  have := congrArg (fun l => l[j]?) hm
  simp only [List.getElem?_map, List.getElem?_eq_getElem hj, List.getElem?_eq_getElem (show j < ks.length by omega), Option.map_some] at this
  injection this with this
  exact ⟨ks[j], List.getElem_mem _, congrArg Prod.fst this, congrArg Prod.snd this⟩
 rcases run_next_at (P := P) w ty r g since c0 _ es clock hr hg hb hsc.1 with ⟨h0, hrun⟩ | ⟨e, he, w1, hw1, hrun⟩
 · refine .inl ⟨fun p hp => ?_, hrun⟩
   obtain ⟨j, hj, rfl⟩ := List.getElem_of_mem hp
   have hlen := congrArg List.length hm
   simp only [List.length_map] at hlen
   have hje : j < es.toList.length := by omega
   have hkv := congrArg (fun l => l[j]?) hm
   simp only [List.getElem?_map, List.getElem?_eq_getElem hj, List.getElem?_eq_getElem hje, Option.map_some] at hkv
   injection hkv with hkv
   have hin : es.toList[j].born ∈ tl.map (·.born) := by
    by_cases hc : es.toList[j].born ∈ tl.map (·.born)
    · exact hc
    · exfalso
      have : es.toList[j] ∈ (leftOf es (tl.map (·.born)).toArray).toList := by
       unfold leftOf
       simp only [Array.toList_filter, List.mem_filter]
       refine ⟨List.getElem_mem hje, ?_⟩
       simpa using hc
      have h9 := List.length_pos_of_mem this
      simp at h9
      omega
   obtain ⟨e', he', heb⟩ := List.mem_map.1 hin
   have hee : e' = es.toList[j] := by
    have hn := hs.2.1
    obtain ⟨i, hi, rfl⟩ := List.getElem_of_mem (h1 e' he')
    have : i = j := by
     have h5 : (es.toList.map (·.born))[i]? = (es.toList.map (·.born))[j]? := by
      simp only [List.getElem?_map, List.getElem?_eq_getElem hi, List.getElem?_eq_getElem hje, Option.map_some, heb]
     exact (List.getElem?_inj (by simpa using hi) hn).1 h5
    subst this; rfl
   have hm3 : (e'.key, e'.val) ∈ told.map fun p => (kv p.1, p.2) := by rw [← h3]; exact List.mem_map.2 ⟨e', he', rfl⟩
   obtain ⟨q, hq, hqe⟩ := List.mem_map.1 hm3
   rw [hee] at hqe
   have e1 := congrArg Prod.fst hqe
   have e2 := congrArg Prod.snd hqe
   have e3 := congrArg Prod.fst hkv
   have e4 := congrArg Prod.snd hkv
   exact ⟨q, hq, e1.trans e3, e2.trans e4⟩
 · unfold leftOf at he
   simp only [Array.toList_filter, List.mem_filter] at he
   obtain ⟨hein, hnew⟩ := he
   obtain ⟨p, hp, hk1, hk2⟩ := find e hein
   have hE1 : Ext w w1 := by rcases hw1 with rfl | rfl; exact Ext.refl _; exact Ext.drew w
   have hr1 : w1.heap[r]? = some (.mapIter (some g) since (tl.map (·.born)).toArray c0) := (hE1.block r (Array.getElem?_eq_some_iff.1 hr).1).trans hr
   have hg1 : w1.heap[g]? = some (.map es clock) := (hE1.block g (Array.getElem?_eq_some_iff.1 hg).1).trans hg
   have hrl := (Array.getElem?_eq_some_iff.1 hr1).1
   have hr2 : (setBlock w1 r (.mapIter (some g) since ((tl.map (·.born)).toArray.push e.born) clock)).heap[r]? = some (.mapIter (some g) since ((tl.map (·.born)).toArray.push e.born) clock) := by
    simp [setBlock, hrl]
   have hg2 : (setBlock w1 r (.mapIter (some g) since ((tl.map (·.born)).toArray.push e.born) clock)).heap[g]? = some (.map es clock) :=
    ((setBlock_chg w1 r _).block g (Array.getElem?_eq_some_iff.1 hg1).1 hgr).trans hg1
   have hent := run_entry_at (P := P) _ r g since _ es clock e hr2 hg2 hein hs.2.1
   have hpush : (tl.map (·.born)).toArray.push e.born = ((tl ++ [e]).map (·.born)).toArray := by simp
   refine .inr ⟨p, hp, _, by rw [← hk1, ← hk2]; exact hrun, by rw [← hk1, ← hk2]; exact hent, ⟨es, clock, since, clock, tl ++ [e], hg2, hs, hm, by rw [hr2, hpush], hb, ?_, ?_, ?_, ?_⟩, (hE1.chg _).trans (setBlock_chg w1 r _)⟩
   · exact ⟨hsc.2, hsc.2⟩
   · intro e' he'
     rcases List.mem_append.1 he' with h | h
     · exact h1 e' h
     · simp at h; subst h; exact hein
   · rw [List.map_append, List.nodup_append]
     refine ⟨h2, by simp, fun a ha b hb2 hab => ?_⟩
     simp at hb2
     subst hb2
     subst hab
     simp at hnew
     obtain ⟨x, hx, hxe⟩ := List.mem_map.1 ha
     exact hnew x hx hxe
   · rw [List.map_append, h3, List.map_append, List.map_singleton, List.map_singleton, hk1, hk2]
end
end Go.Proofs.YtjecjaihficcdaaGreat
namespace Go.Proofs.YtjecjaihficcdaaGreat
open Go.RowKit
def keyL (told : List (Int × Value)) : List Int := told.flatMap fun p => [p.1, -p.1]
theorem keyL_len (told : List (Int × Value)) : (keyL told).length = 2 * told.length := by
 unfold keyL
 induction told with
 | nil => rfl
 | cons p t ih => rw [List.flatMap_cons, List.length_append, ih, List.length_cons]; simp; omega
theorem keyL_snoc (told : List (Int × Value)) (p : Int × Value) : keyL (told ++ [p]) = keyL told ++ [p.1, -p.1] := by unfold keyL; rw [List.flatMap_append]; simp
theorem ri2 (w : World) (x y : Int) : RI (w.alloc (.cells #[.int .i64 x, .int .i64 y] 3)) (.slice (some ⟨w.heap.size, 0, none⟩) 2 2) [x, y] := lit0 w [x, y] (by simp)
theorem mem_keyL (told : List (Int × Value)) (x : Int) : x ∈ keyL told ↔ ∃ p ∈ told, x = p.1 ∨ x = -p.1 := by
 unfold keyL
 simp only [List.mem_flatMap, List.mem_cons, List.not_mem_nil, or_false]
theorem keyL_var {f : List (List Int)} {ks told : List (Int × Value)} (hm : mayCnfB f = true) (hd : ∀ n, n ∈ ks.map Prod.fst ↔ -n ∈ lits2 f) (hs : ∀ p ∈ told, p ∈ ks) : ∀ x ∈ keyL told, varOf x ≠ 0 := fun x hx => by
 obtain ⟨p, hp, h⟩ := (mem_keyL told x).1 hx
 have h1 := lits2_var hm _ ((hd p.1).1 (List.mem_map.2 ⟨p, hs p hp, rfl⟩))
 rw [varOf_neg] at h1
 rcases h with rfl | rfl
 · exact h1
 · rw [varOf_neg]; exact h1
theorem keyL_set {f : List (List Int)} {ks told : List (Int × Value)} (hd : ∀ n, n ∈ ks.map Prod.fst ↔ -n ∈ lits2 f) (hs : ∀ p ∈ told, p ∈ ks) (ha : ∀ p ∈ ks, ∃ q ∈ told, q.1 = p.1) : setL [] (keyL told) = graphLits f := by
 refine sorted_ext blt_asym (setL_sorted _ List.Pairwise.nil) (setL_sorted _ List.Pairwise.nil) fun x => ?_
 rw [mem_graphLits, mem_setL, mem_keyL]
 constructor
 · rintro (h | ⟨p, hp, rfl | rfl⟩)
   · cases h
   · exact .inr ((hd _).1 (List.mem_map.2 ⟨p, hs p hp, rfl⟩))
   · exact .inl ((hd _).1 (List.mem_map.2 ⟨p, hs p hp, rfl⟩))
 · rintro (h | h)
   · obtain ⟨p, hp, he⟩ := List.mem_map.1 ((hd (-x)).2 (by simpa using h))
     obtain ⟨q, hq, hqe⟩ := ha p hp
     exact .inr ⟨q, hq, .inr (by omega)⟩
   · obtain ⟨p, hp, he⟩ := List.mem_map.1 ((hd x).2 h)
     obtain ⟨q, hq, hqe⟩ := ha p hp
     exact .inr ⟨q, hq, .inl (by omega)⟩
set_option maxRecDepth 100000 in
set_option maxHeartbeats 2000000 in
theorem literals_any (f : List (List Int)) (g : Nat) (ks : List (Int × Value)) (w : World) (hg : GR w g ks f) (hm : mayCnfB f = true) (hkl : ks.length ≤ 100000) :
 Calls Tryz.prog 46 #[.map (some g)] w fun e w' => ∃ v, e = .returned v ∧ OwnI w' w.heap.size v (graphLits f) ∧ Ext w w' := by
 obtain ⟨w1, hrun, hmr, hE, hsz⟩ := hg.map.range (P := Tryz.prog) Tryz.underlying67
 have hgl : g < w.heap.size := hg.map.lt
 have HMR := Lib.hid hmr
 have HE := Lib.hid hE
 have HG := Lib.hid hg
 have HM := Lib.hid hm
 have hz1 : w.heap.size + 1 ≤ w1.heap.size := by omega
 clear hmr hE hg hm hsz
 go_enter Tryz.func46, Tryz.ntmps46
 go_wp2
 go_loopg [3] ks.length (fun gn v wr => ∃ told, gn + told.length = ks.length ∧ Hid (MR kvI wr g w.heap.size ks told ∧ OwnI wr (w.heap.size + 1) v (keyL told) ∧ Ext w wr ∧ (∀ p ∈ told, p ∈ ks) ∧ w.heap.size + 1 ≤ wr.heap.size))
 case atStart => exact ⟨[], rfl, Lib.hid ⟨HMR.out, OwnI.nil _ _, HE.out, by simp, hz1⟩⟩
 case round =>
  obtain ⟨told, hgn, HS⟩ := hrel
  obtain ⟨w2, rfl⟩ : ∃ w2 : World, w2 = wr := ⟨_, rfl⟩
  rcases HS.out.1.next (P := Tryz.prog) (by omega) 0 with ⟨hall, hnext⟩ | ⟨p, hp, w3, hnext, hent, hmr3, hc3⟩
  · have hall' : ∀ p ∈ ks, ∃ q ∈ told, q.1 = p.1 := fun p hp => by
     obtain ⟨q, hq, h1, -⟩ := hall p hp
     unfold kvI at h1
     injection h1 with _ h1
     exact ⟨q, hq, h1⟩
    have hvar := keyL_var HM.out HG.out.dom HS.out.2.2.2.1
    have h64 : All64 (keyL told) := fun x hx => by have := varOf_eq (hvar x hx); have := varOf_range x; unfold I64; omega
    have hlen : (keyL told).length ≤ 1000000 := by rw [keyL_len]; have := HS.out.1.len; omega
    have HST := Lib.hid (keyL_set HG.out.dom HS.out.2.2.2.1 hall')
    have HVAR := Lib.hid hvar
    have H64 := Lib.hid h64
    have HO := Lib.hid HS.out.2.1
    have HE2 := Lib.hid HS.out.2.2.1
    have HLEN := Lib.hid hlen
    clear hall hall' hvar h64 HS hgn hrun hlen
    go_wp2_with (first
     | (go_at_call 51; refine (SortE_own (keyL told) _ _ _ HO.out (by have := HLEN.out; omega) H64.out).mono ?_; rintro e w4 ⟨ys, rfl, ho, hgr, hp, hs⟩; have HO2 := Lib.hid ho; have HE4 := Lib.hid (HE2.out.grown hgr (fun k hk => by have := (own_typed HO.out hk).1; omega)); have HC := Lib.hid (sortE_compact hp hs HVAR.out); have HYL : Hid (ys.length ≤ 1000000) := Lib.hid (by rw [hp.length_eq]; exact HLEN.out); clear ho hgr hp hs)
     | (go_at_call 74; refine (Compact_own ys _ _ _ HO2.out (by have := HYL.out; omega)).mono ?_; rintro e w5 ⟨v5, rfl, ho, hgr, -⟩; rw [HC.out, HST.out] at ho; have HO5 := Lib.hid ho; have HE5 := Lib.hid (HE4.out.grown hgr (fun k hk => by have := (own_typed HO2.out hk).1; omega)); clear ho hgr))
    go_ret
    exact ⟨_, rfl, own_lower HO5.out (by omega), HE5.out⟩
  · have hpk : varOf p.1 ≠ 0 := by
     have h1 := lits2_var HM.out _ ((HG.out.dom p.1).1 (List.mem_map.2 ⟨p, hp, rfl⟩))
     rwa [varOf_neg] at h1
    have hpv := varOf_eq hpk
    have hpr := varOf_range p.1
    have hO3 : OwnI w3 (w.heap.size + 1) u3 (keyL told) := hc3.own HS.out.2.1 (fun b hb e => by have := (own_typed HS.out.2.1 hb).1; omega)
    have hE3 : Ext w w3 := hc3.toExt HS.out.2.2.1 (fun i hi => by omega)
    have hs3 : w.heap.size + 1 ≤ w3.heap.size := Nat.le_trans HS.out.2.2.2.2 hc3.size
    have hlen := hmr3.len
    rw [List.length_append, List.length_singleton] at hlen
    have HP := Lib.hid hp
    obtain ⟨k, hk⟩ : ∃ k, k = p.1 := ⟨_, rfl⟩
    rw [← hk] at hpv hpr hpk
    unfold kvI at hnext hent
    rw [← hk] at hnext hent
    have hk1 : -65536 ≤ k := by omega
    have hk2 : k ≤ 65536 := by omega
    have HKE := Lib.hid hk
    have HO3 := Lib.hid hO3
    have HE3 := Lib.hid hE3
    have HMR3 := Lib.hid hmr3
    have hkl2 : (keyL told).length ≤ 200000 := by rw [keyL_len]; omega
    have HKL2 := Lib.hid hkl2
    obtain ⟨pv, hpv2⟩ : ∃ pv, pv = p.2 := ⟨_, rfl⟩
    rw [← hpv2] at hnext hent
    clear hp hpk hpv hpr hO3 hE3 hmr3 hc3 hk hkl2 hpv2 hrun
    go_wp2_with (at_builtin
                 refine app_I rfl (.tmp 11) (.tmp 15) rfl (base := w.heap.size + 1) (xs := keyL told) (ys := [k, -k]) rfl rfl (own_ext HO3.out (Ext.alloc _ _)) (ri2 w3 k (-k)) (by have := HKL2.out; simp; omega) (by simp; omega) ?_
                 intro v' w4 hown hgr
                 have HO4 := Lib.hid hown
                 have hne : ∀ b, some b = u3.ownBlock → ¬ b = w.heap.size := fun b hb e => by have := (own_typed HO3.out hb.symm).1; omega
                 have hgc := grown_chg hgr
                 have HMR4 := Lib.hid ((HMR3.out.keep ((Ext.alloc w3 (.cells #[.int .i64 k, .int .i64 (-k)] 3)).chg (fun _ => False)) id id).keep hgc (fun h => by have := (own_typed HO3.out h.symm).1; omega) (fun h => hne _ h rfl))
                 have HE4 := Lib.hid ((HE3.out.trans (Ext.alloc w3 (.cells #[.int .i64 k, .int .i64 (-k)] 3))).grown hgr (fun b hb => by have := (own_typed HO3.out hb).1; omega))
                 have hs4 : w.heap.size + 1 ≤ w4.heap.size := (by have := hgr.size; simp at this; omega)
                 clear hown hgr hne hgc)
    go_roundg (ks.length - (told.length + 1))
    case measure => omega
    case rel => exact ⟨told ++ [p], by rw [List.length_append, List.length_singleton]; omega, Lib.hid ⟨HMR4.out, by rw [keyL_snoc, ← HKE.out]; exact HO4.out, HE4.out, fun q hq => by
     rcases List.mem_append.1 hq with h | h
     · exact HS.out.2.2.2.1 q h
     · simp at h; subst h; exact HP.out, hs4⟩⟩
end Go.Proofs.YtjecjaihficcdaaGreat
namespace Go.Proofs.YtjecjaihficcdaaGreat
open Go.RowKit
theorem fv_failed1 : Fv Tryz.prog 47 := ⟨_, Tryz.func47, by kernel_rfl, by kernel_rfl⟩
set_option maxHeartbeats 400000 in
theorem failed1_fn (f : List (List Int)) (g b : Nat) (ks : List (Int × Value)) (x : Int) (w : World) (hf : f.length ≤ 20000) (hg : GR w g ks f) (hb : w.cell? ⟨b, 0, none⟩ = some (.map (some g))) (h1 : -65536 ≤ x) (h2 : x ≤ 65536) :
 Calls Tryz.prog 47 #[.int .i64 x, .pointer (some ⟨b, 0, none⟩)] w fun e w' => e = .returned (.bool (!decide (-x ∈ reachL f x))) ∧ Ext w w' := by
 have HR := Lib.hid (reaches_any f g ks x (-x) w hf hg)
 obtain ⟨r, hr⟩ : ∃ r, r = decide (-x ∈ reachL f x) := ⟨_, rfl⟩
 rw [← hr] at HR ⊢
 clear hr hg
 go_enter Tryz.func47, Tryz.ntmps47
 go_wp2_with (go_at_call 48; refine HR.out.mono ?_; rintro e w' ⟨rfl, hE⟩; have HE := Lib.hid hE; clear hE)
 cases r
 all_goals
  go_ret
  exact ⟨rfl, HE.out⟩
theorem keys_len {f : List (List Int)} {g : Nat} {ks : List (Int × Value)} {w : World} (hg : GR w g ks f) : ks.length ≤ 2 * f.length := by
 have h1 := MapK.nodup hg.map
 have h2 := nodup_len (ks.map Prod.fst) ((lits2 f).map fun x => -x) h1 (fun x hx => List.mem_map.2 ⟨-x, (hg.dom x).1 hx, by omega⟩)
 rw [List.length_map, List.length_map] at h2
 have := lits2_len f
 omega
set_option maxHeartbeats 1000000 in
theorem Failed_any (f : List (List Int)) (u : Value) (w : World) (h64 : All64L f) (kr : RLL w u f) (ht : f.length ≤ 20000 → total f ≤ 9223372036854775807) :
 Calls Tryz.prog 14 #[u] w fun e w' => ∃ v, e = .returned v ∧ OwnI w' w.heap.size v (FailV f) ∧ Ext w w' := by
 have HM := Lib.hid (fun w' (h : Ext w w') => mayCnf_any u f w' (RLL.ext' kr h) h64 ht)
 have HKR := Lib.hid kr
 obtain ⟨A, c, vs, rfl, k1, k2, -⟩ := kr
 unfold FailV
 cases hm : mayCnfB f
 · rw [if_pos rfl]
   rw [hm] at HM
   clear hm
   go_enter Tryz.func14, Tryz.ntmps14
   go_wp2_with (go_at_call 37; refine (HM.out _ (Ext.refl _)).mono ?_; rintro e w1 ⟨rfl, hE⟩; have HE := Lib.hid hE; clear hE)
   go_ret
   exact ⟨_, rfl, OwnI.nil _ _, HE.out⟩
 · rw [if_neg (by simp)]
   rw [hm] at HM
   have HMM := Lib.hid hm
   obtain ⟨R, hR⟩ : ∃ R, R = (graphLits f).filter fun x => decide (-x ∈ reachL f x) := ⟨_, rfl⟩
   rw [← hR]
   have HRR := Lib.hid hR
   clear hm hR
   go_enter Tryz.func14, Tryz.ntmps14
   go_wp2_with (first
    | (go_at_call 37; refine (HM.out _ (Ext.refl _)).mono ?_; rintro e w1 ⟨rfl, hE⟩; have HE := Lib.hid hE; clear hE)
    | (go_at_call 39; refine (implications_any f _ _ h64 (RLL.ext' HKR.out HE.out) HMM.out).mono ?_; rintro e w2 ⟨g, ks, rfl, hg, hE⟩; have HG := Lib.hid (GM.reads hg); have HE2 := Lib.hid (HE.out.trans hE); clear hg hE)
    | (go_at_call 46
       refine (literals_any f g ks _ (HG.out.ext (Ext.alloc w2 _)) HMM.out (by have := keys_len HG.out; have := mayCnfB_len HMM.out; omega)).mono ?_
       rintro e w3 ⟨v3, rfl, ho, hE⟩
       have HO := Lib.hid ho
       have HE3 := Lib.hid (HE2.out.trans ((Ext.alloc w2 _).trans hE))
       have HG3 := Lib.hid (HG.out.ext ((Ext.alloc w2 _).trans hE))
       have HB3 := Lib.hid ((Var1.new w2 67 (.map (some g))).ext hE)
       clear ho hE)
    | (go_at_call 45
       refine (deleteI 47 #[.pointer (some ⟨w2.heap.size, 0, none⟩)] fv_failed1 _ v3 (graphLits f) (fun x => !decide (-x ∈ reachL f x)) _ HO.out (fun x hx w' hw' => (by
        have hgr := grown_chg hw'
        have hown : ∀ b, some b = v3.ownBlock → w2.heap.size + 1 ≤ b := fun b hb => by have := (own_typed HO.out hb.symm).1; simpa using this
        have hg' := HG3.out.chg hgr (fun k hk h => by have := HG.out.lt hk; have := hown k h; omega)
        have hb' := hgr.cell HB3.out.cell (fun h => by have := hown _ h; simp at this; omega)
        have hv : varOf x ≠ 0 := by
         rcases (mem_graphLits f x).1 hx with h | h
         · exact lits2_var HMM.out x h
         · have := lits2_var HMM.out _ h; rwa [varOf_neg] at this
        have := varOf_eq hv
        have := varOf_range x
        exact failed1_fn f g w2.heap.size ks x w' (mayCnfB_len HMM.out) hg' hb' (by omega) (by omega)))).mono ?_
       rintro e w4 ⟨v4, rfl, ho, hgr⟩
       have HO4 := Lib.hid ho
       have HE4 := Lib.hid (HE3.out.grown hgr (fun k hk => (by have := (own_typed HO.out hk).1; simp at this; have := HE2.out.size; omega)))
       clear ho hgr))
   go_ret
   refine ⟨_, rfl, ?_, HE4.out⟩
   have := HO4.out
   simp only [Bool.not_not] at this
   rw [← HRR.out, List.length_map] at this
   exact own_lower this (by have := HE2.out.size; simp; omega)
end Go.Proofs.YtjecjaihficcdaaGreat
namespace Go.Proofs.YtjecjaihficcdaaGreat
open Go.RowKit
section
variable {κ : Type} [DecidableEq κ] {P : Program} {T K E : TypeId} {kv : κ → Value} {w : World} {g : Nat} {ks : List (κ × Value)}
theorem findIdx_born (es : List MapEntry) (e : MapEntry) (hn : (es.map (·.born)).Nodup) (j : Nat) (hj : j < es.length) (he : es[j] = e) : es.findIdx? (fun x => (x.born : Int) == (e.born : Int)) = some j := by
 rw [List.findIdx?_eq_some_iff_getElem]
 refine ⟨hj, by simp [he], fun i hi => ?_⟩
 simp only [beq_iff_eq]
 intro hb
 have h1 : (es.map (·.born))[i]? = (es.map (·.born))[j]? := by
  simp only [List.getElem?_map, List.getElem?_eq_getElem hj, List.getElem?_eq_getElem (show i < es.length by omega), Option.map_some, he]
  congr 1; omega
 have := (List.getElem?_inj (by simp; omega) hn).1 h1
 omega
theorem arr_findIdx (xs : Array MapEntry) (p : MapEntry → Bool) : xs.findIdx? p = xs.toList.findIdx? p := by obtain ⟨l⟩ := xs; simp
theorem MapK.entry_new (h : MapK kv w g ks) (F : KeyFam P K kv) (hT : P.underlying T = some (.map K E)) {z : Value} (hz : (zeroValue E).run P w = .ok z w) (n : κ) (hno : lkp ks n = none) :
 ∃ st w1, (Instr.mapEntry T (.map (some g)) (kv n)).run P w = .ok (.tuple #[z, .int .i64 st]) w1 ∧ MapK kv w1 g (ks ++ [(n, z)]) ∧ Chg (fun k => k = g) w w1 ∧
  ∀ w2 v, w2.heap[g]? = w1.heap[g]? → ∃ w3, (Instr.entryStore T (.map (some g)) (.int .i64 st) v).run P w2 = .ok () w3 ∧ MapK kv w3 g (kput ks n v) ∧ Chg (fun k => k = g) w2 w3 := by
 obtain ⟨es, clock, hg, hs, hm⟩ := h
 have hf := F.find ks es.toList n w hm
 have hc := F.chk false n w
 have hidx : idxK ks n 0 = none := by
  have := idxK_val ks n 0
  rw [hno] at this
  simpa using this
 rw [hidx] at hf
 have hno' := idxK_none hidx
 have hkeys : ∀ x ∈ es.toList, x.key ≠ kv n := fun x hx e => by
  have : (x.key, x.val) ∈ ks.map fun p => (kv p.1, p.2) := by rw [← hm]; exact List.mem_map.2 ⟨x, hx, rfl⟩
  obtain ⟨p, hp, hpe⟩ := List.mem_map.1 this
  have h1 : kv p.1 = kv n := (congrArg Prod.fst hpe).trans e
  exact hno' (by rw [← F.inj _ _ h1]; exact List.mem_map.2 ⟨p, hp, rfl⟩)
 have hst := MapKept.stamped_push (val := z) hs hkeys
 have hg1 := setObjW_at (o' := .map (es.push { key := kv n, val := z, born := clock }) (clock + 1)) hg
 refine ⟨(clock : Int), setObjW w g (.map (es.push { key := kv n, val := z, born := clock }) (clock + 1)), ?_, ⟨_, _, hg1, hst, ?_⟩, setObjW_chg w g _, fun w2 v hw2 => ?_⟩
 · simp [Instr.mapEntry, run_underlying hT, MapKept.run_getObj_map hg, hc, hf, hz, Result.andThen, MapKept.run_setObj_map _ hg, setObjW, goInt]
 · rw [Array.toList_push, List.map_append, hm]; simp
 · have hg2 := hw2.trans hg1
   have hfi : (es.push { key := kv n, val := z, born := clock }).findIdx? (fun e => (e.born : Int) == (clock : Int)) = some es.size := by
    rw [arr_findIdx]
    have hb : (es.push { key := kv n, val := z, born := clock }).toList.length = es.size + 1 := by simp
    have := findIdx_born (es.push { key := kv n, val := z, born := clock }).toList { key := kv n, val := z, born := clock } hst.2.1 es.size (by omega) (by simp)
    exact this
   refine ⟨setObjW w2 g (.map ((es.push { key := kv n, val := z, born := clock }).modify es.size fun e => { e with val := v }) (clock + 1)), ?_, ⟨_, _, setObjW_at hg2, MapKept.stamped_modify hst _ _ (fun _ _ => rfl) (fun _ _ _ => rfl), ?_⟩, setObjW_chg w2 g _⟩
   · simp [Instr.entryStore, MapKept.run_getObj_map hg2, asInt, asIntOf, hfi, Result.andThen, MapKept.run_setObj_map _ hg2, setObjW]
   · have hes : ((es.push { key := kv n, val := z, born := clock }).modify es.size fun e => { e with val := v }).toList = es.toList ++ [{ key := kv n, val := v, born := clock }] := by
      rw [Array.toList_modify, modify_set _ _ _ (by simp)]
      simp
     rw [hes, List.map_append, hm, kput_new hno']; simp
omit [DecidableEq κ] in
theorem MapK.len (h : MapK kv w g ks) (hT : P.underlying T = some (.map K E)) (ty : TypeId) : (Builtin.len_ #[T] ty #[.map (some g)]).run P w = .ok (.int .i64 (ks.length : Int)) w := by
 obtain ⟨es, clock, hg, hl⟩ := h.size
 simp [Builtin.len_, run_underlying hT, MapKept.run_getObj_map hg, Result.andThen, Builtin.lenOf, goInt, hl]
end
end Go.Proofs.YtjecjaihficcdaaGreat
