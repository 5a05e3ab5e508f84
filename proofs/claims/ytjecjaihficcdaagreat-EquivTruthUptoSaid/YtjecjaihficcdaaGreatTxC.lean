/- Walks and plain laws that this claim uses. -/
import Derived.Test.YtjecjaihficcdaaGreatTxPEquivNextx1
import Derived.Test.YtjecjaihficcdaaGreatTxPEquivNextx2
import Derived.Test.YtjecjaihficcdaaGreatTxPEquivNextx3
import Derived.Test.YtjecjaihficcdaaGreatTxPEquivNextx4
import Derived.Test.YtjecjaihficcdaaGreatTxPEquivNextx5
import Derived.Test.YtjecjaihficcdaaGreatTxPEquivNextx6
import Derived.Test.YtjecjaihficcdaaGreatTxPEquivNextx7
import Derived.Test.YtjecjaihficcdaaGreatTxPEquivNextx8
import Derived.Test.YtjecjaihficcdaaGreatTxPEquivNextx9
import Derived.Test.YtjecjaihficcdaaGreatTxB
import Derived.Test.YtjecjaihficcdaaGreatTxA
import Derived.Deep.CutRange
import Derived.Deep.LoopGhost
import Derived.Deep.Cut
import Derived.BigQuiet
namespace Go.Proofs.YtjecjaihficcdaaGreat.PEquivNext
open Go.RowKit Go.Proofs.YtjecjaihficcdaaGreatW.PrintWords
theorem prises_l0 (xs : List Int) (hb : xs.length ≤ 9223372036854775807) : ∀ n i, i + n = xs.length → (i = 0 ∨ 0 ≤ xs.getD (i - 1) 0) → Evn (fun k => prefix_rises.l0 k xs xs (xs.length : Int) (i : Int)) (risesFrom (if i = 0 then 0 else xs.getD (i - 1) 0) (xs.drop i)) := by
 intro n
 induction n with
 | zero =>
   intro i hi _
   exact Evn.succ (g' := fun _ => some true) (fun k => by rw [prefix_rises.l0, if_neg (by omega)]) ((Evn.ret _).to (by rw [List.drop_eq_nil_of_le (by omega)]; rfl))
 | succ n ih =>
   intro i hi hp
   have hil : i < xs.length := by omega
   refine Evn.succ (fun k => by rw [prefix_rises.l0]) (Evn.pos (by omega) (Evn.pos (by omega) (Evn.pos (by omega) ?_)))
   rw [rd_nat xs i hil, wrap64_nat (by omega), List.drop_eq_getElem_cons hil, risesFrom]
   have hnext := ih (i + 1) (by omega)
   rw [show i + 1 - 1 = i by omega, show xs.getD i 0 = xs[i] by simp [hil], if_neg (by omega)] at hnext
   have hp0 : 0 ≤ (if i = 0 then (0 : Int) else xs.getD (i - 1) 0) := by
    split
    · omega
    · exact hp.resolve_left (by assumption)
   by_cases c1 : xs[i] < 1
   · exact Evn.pos c1 ((Evn.ret _).to (by rw [decide_eq_false (by omega)]; rfl))
   · refine Evn.neg c1 ?_
     by_cases c2 : xs[i] > 65536
     · exact Evn.pos c2 ((Evn.ret _).to (by rw [decide_eq_false (show ¬ xs[i] ≤ 65536 by omega), Bool.and_false]; rfl))
     · refine Evn.neg c2 ?_
       rw [decide_eq_true (show xs[i] ≤ 65536 by omega), Bool.and_true]
       by_cases h0 : i = 0
       · subst h0
         refine Evn.neg (by omega) ((hnext (.inr (by omega))).to ?_)
         rw [if_pos rfl, decide_eq_true (by omega), Bool.true_and]
       · have hi1 : i - 1 < xs.length := by omega
         have e1 : wrap64 ((i : Int) - 1) = ((i - 1 : Nat) : Int) := by rw [wrap64_id (by omega) (by omega)]; omega
         refine Evn.pos (by omega) ?_
         rw [e1, rd_nat xs (i - 1) hi1, if_neg h0, show xs.getD (i - 1) 0 = xs[i - 1] by simp [hi1]]
         refine Evn.pos (by omega) (Evn.pos (by omega) ?_)
         by_cases c3 : xs[i - 1] ≥ xs[i]
         · exact Evn.pos c3 ((Evn.ret _).to (by rw [decide_eq_false (by omega), Bool.false_and]))
         · exact Evn.neg c3 ((hnext (.inr (by omega))).to (by rw [decide_eq_true (by omega), Bool.true_and]))
theorem prises_f (xs : List Int) (hb : xs.length ≤ 9223372036854775807) : Evn (fun k => prefix_rises.f k xs) (risesB xs) := by
 unfold prefix_rises.f risesB
 exact (prises_l0 xs hb xs.length 0 (by omega) (.inl rfl)).to (by rw [if_pos rfl]; rfl)
end Go.Proofs.YtjecjaihficcdaaGreat.PEquivNext
namespace Go.Proofs.YtjecjaihficcdaaGreat
open Go.RowKit
theorem rises_any (xs : List Int) (v : Value) (w : World) (hr : RI w v xs) : Calls Tryz.prog 103 #[v] w fun e w' => e = .returned (.bool (risesB xs)) ∧ Ext w w' := by
 have hb := hr.max
 obtain ⟨A, c, rfl, h1, h2⟩ := hr.kd
 obtain ⟨K, hK⟩ := PEquivNext.prises_f xs hb
 refine (PEquivNext.prefix_rises.calls K A c xs _ w h2 h1 (hK K (Nat.le_refl _))).mono ?_
 rintro e w' ⟨rfl, h⟩
 exact ⟨rfl, drawn_ext h⟩
end Go.Proofs.YtjecjaihficcdaaGreat
namespace Go.Proofs.YtjecjaihficcdaaGreat
open Go.RowKit
def memM (s : List Int) (v : Int) : Option Value := if v ∈ s then some (.bool true) else none
theorem memM_snoc (s : List Int) (v : Int) : mset (memM s) v (.bool true) = memM (s ++ [v]) := by
 funext k
 unfold mset memM
 by_cases h : k = v
 · subst h; simp
 · simp [h]
theorem memM_some (s : List Int) (v : Int) : (memM s v).isSome = decide (v ∈ s) := by
 unfold memM
 by_cases h : v ∈ s <;> simp [h]
structure MS (w wr : World) (b0 g1 g2 b3 : Nat) (vu vx vc : Value) (s1 s2 : List Int) : Prop where
 ext : Ext w wr
 box : Blk wr b0 27 [vu, vx, vc]
 ub : Blk wr b3 78 [.map (some g1)]
 m1 : MapAt wr g1 (memM s1)
 m2 : MapAt wr g2 (memM s2)
 lo : w.heap.size ≤ b0 ∧ b0 < g1 ∧ g1 < g2 ∧ g2 < b3
section
variable {w wr : World} {b0 g1 g2 b3 : Nat} {vu vx vc : Value} {s1 s2 : List Int}
theorem MS.ext' {wr' : World} (h : MS w wr b0 g1 g2 b3 vu vx vc s1 s2) (k : Ext wr wr') : MS w wr' b0 g1 g2 b3 vu vx vc s1 s2 :=
 ⟨h.ext.trans k, (k.chg (fun _ => False)).blk h.box id, (k.chg (fun _ => False)).blk h.ub id, h.m1.ext k, h.m2.ext k, h.lo⟩
theorem MS.chg {S : Nat → Prop} {wr' : World} (h : MS w wr b0 g1 g2 b3 vu vx vc s1 s2) (k : Chg S wr wr') (hS : ∀ i, S i → b3 < i) : MS w wr' b0 g1 g2 b3 vu vx vc s1 s2 := by
 have hl := h.lo
 have hn : ∀ i, i ≤ b3 → ¬ S i := fun i hi hs => by have := hS i hs; omega
 exact ⟨k.toExt h.ext fun i hi => by have := hS i hi; omega, k.blk h.box (hn _ (by omega)), k.blk h.ub (hn _ (by omega)), h.m1.keep k (hn _ (by omega)), h.m2.keep k (hn _ (by omega)), h.lo⟩
theorem MS.put1 (h : MS w wr b0 g1 g2 b3 vu vx vc s1 s2) (v : Int) :
 ∃ w', (Instr.mapUpdate 78 (.map (some g1)) (.int .i64 v) (.bool true)).run Tryz.prog wr = .ok () w' ∧ MS w w' b0 g1 g2 b3 vu vx vc (s1 ++ [v]) s2 := by
 obtain ⟨w', hrun, hm, hc⟩ := h.m1.update (P := Tryz.prog) Tryz.underlying78 Tryz.underlying3 v (.bool true)
 have hl := h.lo
 exact ⟨w', hrun, hc.toExt h.ext (fun k hk => by omega), hc.blk h.box (by omega), hc.blk h.ub (by omega), memM_snoc s1 v ▸ hm, h.m2.keep hc (by omega), h.lo⟩
theorem MS.put2 (h : MS w wr b0 g1 g2 b3 vu vx vc s1 s2) (v : Int) :
 ∃ w', (Instr.mapUpdate 78 (.map (some g2)) (.int .i64 v) (.bool true)).run Tryz.prog wr = .ok () w' ∧ MS w w' b0 g1 g2 b3 vu vx vc s1 (s2 ++ [v]) ∧ Chg (fun i => i = g2) wr w' := by
 obtain ⟨w', hrun, hm, hc⟩ := h.m2.update (P := Tryz.prog) Tryz.underlying78 Tryz.underlying3 v (.bool true)
 have hl := h.lo
 exact ⟨w', hrun, ⟨hc.toExt h.ext (fun k hk => by omega), hc.blk h.box (by omega), hc.blk h.ub (by omega), h.m1.keep hc (by omega), memM_snoc s2 v ▸ hm, h.lo⟩, hc⟩
end
set_option maxHeartbeats 1000000 in
theorem mayd1_fn (v : Int) (g b : Nat) (s : List Int) (w : World) (hb : w.cell? ⟨b, 0, none⟩ = some (.map (some g))) (hm : MapAt w g (memM s)) :
 Calls Tryz.prog 104 #[.int .i64 v, .pointer (some ⟨b, 0, none⟩)] w fun e w' => e = .returned (.bool (!decide (v ∈ s))) ∧ w' = w := by
 have hlk := hm.lookup (P := Tryz.prog) Tryz.underlying78 Tryz.underlying3 (zeroValue_bool w) v
 by_cases h : v ∈ s
 · have e : memM s v = some (.bool true) := by unfold memM; rw [if_pos h]
   rw [e] at hlk
   rw [decide_eq_true h]
   clear e
   go_enter Tryz.func104, Tryz.ntmps104
   go_wp2
   go_ret
   exact ⟨rfl, rfl⟩
 · have e : memM s v = none := by unfold memM; rw [if_neg h]
   rw [e] at hlk
   rw [decide_eq_false h]
   clear e
   go_enter Tryz.func104, Tryz.ntmps104
   go_wp2
   go_ret
   exact ⟨rfl, rfl⟩
theorem fv_mayd1 : Fv Tryz.prog 104 := ⟨_, Tryz.func104, by kernel_rfl, by kernel_rfl⟩
theorem cont1 (OA : Option Addr) (oc : Nat) (xs : List Int) (g b : Nat) (s : List Int) (w : World) (hr : RI w (.slice OA xs.length oc) xs) (hb : w.cell? ⟨b, 0, none⟩ = some (.map (some g))) (hm : MapAt w g (memM s)) :
 Calls Tryz.prog 34 #[.slice OA xs.length oc, .func (.func 104) #[] #[.pointer (some ⟨b, 0, none⟩)]] w fun e w' => e = .returned (.bool (xs.any fun v => !decide (v ∈ s))) ∧ w' = w := by
 have hrow := hr.row
 have hl : (xs.map (Value.int .i64)).length = xs.length := List.length_map ..
 have h := containsFuncI 104 #[.pointer (some ⟨b, 0, none⟩)] fv_mayd1 OA oc (xs.map (Value.int .i64)) (by rw [hl]; exact hrow.2.2.1) (fun j => !decide (xs.getD j 0 ∈ s)) (fun _ w' => w' = w) w
  (fun _ w' h => h ▸ hrow.2.2.2)
  (fun k hk w' h => by
   subst h
   rw [List.getElem_map]
   refine (mayd1_fn _ g b s _ hb hm).mono ?_
   rintro e w'' ⟨rfl, rfl⟩
   rw [hl] at hk
   exact ⟨by rw [show xs.getD k 0 = xs[k] by simp [hk]], rfl⟩) rfl
 rw [hl] at h
 refine h.mono ?_
 rintro e w' ⟨r, rfl, hs⟩
 have hw : w' = w := by
  rcases hs with ⟨k, _, _, _, _, h⟩ | ⟨_, _, h⟩ <;> exact h
 have hi : IdxOf (fun j => !decide (xs.getD j 0 ∈ s)) xs.length r := by
  rcases hs with ⟨k, h1, h2, h3, h4, h⟩ | ⟨h1, h2, h⟩
  · exact .inl ⟨k, h1, h2, h3, h4⟩
  · exact .inr ⟨h1, h2⟩
 exact ⟨by rw [idx_cont hi, range_any_get xs fun v => !decide (v ∈ s)], hw⟩
def RX (w : World) (v : Value) (X : List (Int × List Int)) : Prop :=
 ∃ A c, ∃ ons : List Value, v = .slice A X.length c ∧ X.length ≤ c ∧ X.length ≤ 9223372036854775807 ∧ ons.length = X.length ∧
  ∀ j (h : j < X.length) (h' : j < ons.length), ∃ ad, A = some ad ∧ w.cell? (ad.add (j * 2)) = some (.int .i64 X[j].1) ∧ w.cell? ⟨(ad.add (j * 2)).block, (ad.add (j * 2)).off + 1, none⟩ = some ons[j] ∧ RI w ons[j] X[j].2
def okX (U : List Int) (x : Int × List Int) : Bool := !decide (x.1 ∈ U) && risesB x.2 && x.2.all fun v => decide (v ∈ U)
def restD (d : DqV) : Bool := risesB d.univ && (risesB d.vars && (decide (d.univ.length + d.exist.length ≤ 1024) && (mayCnfB d.clauses && d.clauses.all fun c => c.all fun x => decide (varOf x ∈ d.univ ++ d.vars))))
theorem mayD_eq (d : DqV) : mayD d = (d.exist.all (okX d.univ) && restD d) := by
 unfold mayD restD okX
 simp only [Bool.and_assoc]
theorem any_not (U xs : List Int) : (xs.any fun v => !decide (v ∈ U)) = !(xs.all fun v => decide (v ∈ U)) := by
 induction xs with
 | nil => rfl
 | cons x xs ih => rw [List.any_cons, List.all_cons, ih]; cases decide (x ∈ U) <;> rfl
theorem wrap_mid {x : Int} (h0 : -9223372036854775808 ≤ x) (h1 : x ≤ 9223372036854775807) : IntKind.i64.wrap x = x := by
 simp [IntKind.wrap, IntKind.signed, IntKind.bits]; omega
theorem fv_rises : Fv Tryz.prog 103 := ⟨_, Tryz.func103, by kernel_rfl, by kernel_rfl⟩
theorem fv_hasb : Fv Tryz.prog 106 := ⟨_, Tryz.func106, by kernel_rfl, by kernel_rfl⟩
theorem fv_cnf : Fv Tryz.prog 105 := ⟨_, Tryz.func105, by kernel_rfl, by kernel_rfl⟩
set_option maxRecDepth 100000 in
set_option maxHeartbeats 4000000 in
theorem MayD_any (d : DqV) (vu vx vc : Value) (w : World) (x64 : ∀ x ∈ d.exist, I64 x.1 ∧ All64 x.2) (c64 : All64L d.clauses) (hu : RI w vu d.univ) (hx : RX w vx d.exist) (hc : RLL w vc d.clauses) (ht : d.clauses.length ≤ 20000 → total d.clauses ≤ 9223372036854775807) (hxl : d.exist.length ≤ 1000000) (hul : d.univ.length ≤ 1000000) :
 Calls Tryz.prog 54 #[.agg #[vu, vx, vc]] w fun e w' => e = .returned (.bool (mayD d)) ∧ Ext w w' := by
 have HU := Lib.hid hu
 have HX := Lib.hid hx
 have HC := Lib.hid hc
 obtain ⟨UA, uc, rfl, u1, u2, -⟩ := hu
 obtain ⟨XA, xc, ons, rfl, x1, x2, x3, x4⟩ := hx
 have X4 := Lib.hid x4
 clear x4 hc
 obtain ⟨Rz, hRz⟩ : ∃ Rz, Rz = mayD d := ⟨_, rfl⟩
 have HR : Hid (Rz = ((d.exist.drop 0).all (okX d.univ) && restD d)) := Lib.hid (by rw [hRz, mayD_eq, List.drop_zero])
 rw [← hRz]
 clear hRz
 have hmm := @run_makeMap Tryz.prog
 go_enter Tryz.func54, Tryz.ntmps54
 go_upto_region 2 with fail
 obtain ⟨b0, hb0⟩ : ∃ b0, b0 = w.heap.size := ⟨_, rfl⟩
 have hms : MS w ((((w.alloc (.cells #[.slice UA d.univ.length uc, .slice XA d.exist.length xc, vc] 27)).alloc (.map #[] 0)).alloc (.map #[] 0)).alloc (.cells #[.map (some (w.heap.size + 1))] 78)) b0 (b0 + 1) (b0 + 1 + 1) (b0 + 1 + 1 + 1) (.slice UA d.univ.length uc) (.slice XA d.exist.length xc) vc [] [] := by
  subst hb0
  have h1 := Blk.new w 27 [.slice UA d.univ.length uc, .slice XA d.exist.length xc, vc]
  have h2 := MapAt.new (w.alloc (.cells #[.slice UA d.univ.length uc, .slice XA d.exist.length xc, vc] 27))
  have h3 := MapAt.new ((w.alloc (.cells #[.slice UA d.univ.length uc, .slice XA d.exist.length xc, vc] 27)).alloc (.map #[] 0))
  have h4 := Blk.new (((w.alloc (.cells #[.slice UA d.univ.length uc, .slice XA d.exist.length xc, vc] 27)).alloc (.map #[] 0)).alloc (.map #[] 0)) 78 [.map (some (w.heap.size + 1))]
  simp only [World.size_alloc] at h2 h3 h4
  have e0 : (fun _ => none : Int → Option Value) = memM [] := by funext k; rfl
  rw [e0] at h2 h3
  have k1 := (((Ext.alloc w (.cells #[.slice UA d.univ.length uc, .slice XA d.exist.length xc, vc] 27)).trans (Ext.alloc _ (.map #[] 0))).trans (Ext.alloc _ (.map #[] 0))).trans (Ext.alloc _ (.cells #[.map (some (w.heap.size + 1))] 78))
  have kk : ∀ w' o, Ext w' (w'.alloc o) := fun w' o => Ext.alloc w' o
  refine ⟨k1, ?_, h4, ?_, ?_, by omega⟩
  · exact ((((kk _ (.map #[] 0)).trans (kk _ (.map #[] 0))).trans (kk _ (.cells #[.map (some (w.heap.size + 1))] 78))).chg (fun _ => False)).blk h1 id
  · exact h2.ext ((kk _ (.map #[] 0)).trans (kk _ (.cells #[.map (some (w.heap.size + 1))] 78)))
  · exact h3.ext (kk _ (.cells #[.map (some (w.heap.size + 1))] 78))
 have HMS := Lib.hid hms
 rw [← hb0]
 rw [← hb0] at HMS
 generalize ((((w.alloc (.cells #[.slice UA d.univ.length uc, .slice XA d.exist.length xc, vc] 27)).alloc (.map #[] 0)).alloc (.map #[] 0)).alloc (.cells #[.map (some (b0 + 1))] 78)) = w1 at HMS ⊢
 clear hms hmm hb0
 generalize b0 + 1 = g1 at HMS ⊢
 generalize g1 + 1 = g2 at HMS ⊢
 generalize g2 + 1 = b3 at HMS ⊢
 have cb0 : w1.cell? ⟨b0, 0, none⟩ = some (.slice UA d.univ.length uc) := HMS.out.box.cell 0
 go_wp2
 clear cb0
 go_loopg [17] d.univ.length (fun gn i wr => ∃ k : Nat, k ≤ d.univ.length ∧ gn + k = d.univ.length ∧ i = .int .i64 k ∧ Hid (MS w wr b0 g1 g2 b3 (.slice UA d.univ.length uc) (.slice XA d.exist.length xc) vc (d.univ.take k) (d.univ.take k)))
 case atStart => exact ⟨0, Nat.zero_le _, by omega, rfl, HMS⟩
 case round =>
  obtain ⟨k, hk, hgk, rfl, HS⟩ := hrel
  obtain ⟨w2, rfl⟩ : ∃ w2 : World, w2 = wr := ⟨_, rfl⟩
  by_cases hlt : k < d.univ.length
  · obtain ⟨ad, rfl, hxk⟩ := (HU.out.ext HS.out.ext).row.2.2.2.int k hlt
    have hts := List.take_succ_eq_append_getElem hlt
    obtain ⟨v, hv⟩ : ∃ v, v = d.univ[k] := ⟨_, rfl⟩
    rw [← hv] at hxk hts
    obtain ⟨w3, hrun1, hm3⟩ := HS.out.put1 v
    obtain ⟨w4, hrun2, hm4, -⟩ := hm3.put2 v
    rw [← hts] at hm4
    have HM4 := Lib.hid hm4
    have cu : w2.cell? ⟨b3, 0, none⟩ = some (.map (some g1)) := HS.out.ub.cell 0
    clear hts hm4 hm3 hv
    go_wp2
    go_roundg (d.univ.length - (k + 1))
    case measure => omega
    case rel => exact ⟨k + 1, by omega, by omega, by go_num, HM4⟩
  · obtain rfl : k = d.univ.length := by omega
    have HS2 : Hid (MS w w2 b0 g1 g2 b3 (.slice UA d.univ.length uc) (.slice XA d.exist.length xc) vc d.univ d.univ) := by have := HS.out; rw [List.take_length] at this; exact Lib.hid this
    have cb1 : w2.cell? (⟨b0, 0, none⟩ : Addr) = some (.slice UA d.univ.length uc) := HS2.out.box.cell 0
    have cb2 : w2.cell? (⟨b0, 1, none⟩ : Addr) = some (.slice XA d.exist.length xc) := HS2.out.box.cell 1
    obtain ⟨B, hB⟩ : ∃ B, B = w2.heap.size := ⟨_, rfl⟩
    have HB : Hid (b3 < B) := Lib.hid (by rw [hB]; exact HS2.out.ub.lt)
    have HWB : Hid (w.heap.size ≤ B) := Lib.hid (by rw [hB]; exact HS2.out.ext.size)
    have HBw : Hid (B ≤ w2.heap.size) := Lib.hid (by omega)
    have HO : Hid (OwnI w2 B (.slice none 0 0) ((d.exist.take 0).map Prod.fst)) := Lib.hid (OwnI.nil w2 B)
    clear hB HS hgk hlt hk
    go_wp2
    clear cb1 cb2
    go_loopg [7, 29] d.exist.length (fun gn u i wr => ∃ k : Nat, k ≤ d.exist.length ∧ gn + k = d.exist.length ∧ i = .int .i64 k ∧ Hid (MS w wr b0 g1 g2 b3 (.slice UA d.univ.length uc) (.slice XA d.exist.length xc) vc d.univ d.univ) ∧ Hid (B ≤ wr.heap.size) ∧ Hid (OwnI wr B u ((d.exist.take k).map Prod.fst)) ∧ Hid (Rz = ((d.exist.drop k).all (okX d.univ) && restD d)))
    case atStart => exact ⟨0, Nat.zero_le _, by omega, rfl, HS2, HBw, HO, HR⟩
    case round =>
     obtain ⟨k, hk, hgk, rfl, HS, HBr, HO, HR⟩ := hrel
     obtain ⟨w3, rfl⟩ : ∃ w3 : World, w3 = wr := ⟨_, rfl⟩
     by_cases hlt : k < d.exist.length
     · obtain ⟨ad, rfl, c1, c2, hr⟩ := X4.out k hlt (by omega)
       have c1' := HS.out.ext.cell c1
       have c2' := HS.out.ext.cell c2
       obtain ⟨V, hV⟩ : ∃ V, V = ons[k] := ⟨_, rfl⟩
       obtain ⟨x, hx⟩ : ∃ x, x = d.exist[k] := ⟨_, rfl⟩
       have hr3 := hr.ext HS.out.ext
       have hmm := HR.out
       have HTS := Lib.hid (List.take_succ_eq_append_getElem hlt)
       have h64x := Lib.hid (x64 _ (List.getElem_mem hlt))
       rw [List.drop_eq_getElem_cons hlt, List.all_cons] at hmm
       rw [← hx] at hmm c1' hr3 HTS h64x
       rw [← hV] at hr3 c2'
       clear c1 c2 hr hV hx
       have HRI := Lib.hid hr3
       obtain ⟨OA, oc, rfl, o1, o2, -⟩ := hr3
       obtain ⟨y, ys⟩ := x
       dsimp only at c1' c2' HRI o1 o2
       have e4 := Ext.alloc w3 (.cells #[.int .i64 y, .slice OA ys.length oc] 61)
       have HS4 := Lib.hid (HS.out.ext' e4)
       have b4 := Blk.new w3 61 [.int .i64 y, .slice OA ys.length oc]
       have HB4 := Lib.hid b4
       have hz := fun w' => zeroValue_bool w'
       have hlk := HS4.out.m2.lookup (P := Tryz.prog) Tryz.underlying78 Tryz.underlying3 (zeroValue_bool _) y
       obtain ⟨w4, hw4⟩ : ∃ w4, w4 = w3.alloc (.cells #[.int .i64 y, .slice OA ys.length oc] 61) := ⟨_, rfl⟩
       by_cases hy : y ∈ d.univ
       · have em : memM d.univ y = some (.bool true) := by unfold memM; rw [if_pos hy]
         rw [em] at hlk
         have HF : Hid (Rz = false) := Lib.hid (by rw [hmm]; unfold okX; rw [decide_eq_true hy]; rfl)
         clear em hmm
         go_wp2
         go_ret
         exact ⟨(congrArg (fun b : Bool => Ending.returned (Value.bool b)) HF.out).symm, HS4.out.ext⟩
       · have em : memM d.univ y = none := by unfold memM; rw [if_neg hy]
         rw [em] at hlk
         have HRS := Lib.hid (rises_any ys _ _ (HRI.out.ext e4))
         clear em
         cases hri : risesB ys
         · rw [hri] at HRS
           have HF : Hid (Rz = false) := Lib.hid (by rw [hmm]; unfold okX; rw [hri, Bool.and_false]; rfl)
           clear hmm
           go_wp2_with (go_at_call 103; refine HRS.out.mono ?_; rintro e w' ⟨rfl, hE⟩; have HE5 := Lib.hid hE; clear hE)
           go_ret
           exact ⟨(congrArg (fun b : Bool => Ending.returned (Value.bool b)) HF.out).symm, HS4.out.ext.trans HE5.out⟩
         · rw [hri] at HRS
           cases hall : ys.all fun v => decide (v ∈ d.univ)
           · have HF : Hid (Rz = false) := Lib.hid (by rw [hmm]; unfold okX; rw [hall, Bool.and_false]; rfl)
             have hany : (ys.any fun v => !decide (v ∈ d.univ)) = true := by rw [any_not, hall]; rfl
             have HANY := Lib.hid hany
             clear hmm
             go_wp2_with (first
              | (go_at_call 103; refine HRS.out.mono ?_; rintro e w5 ⟨rfl, hE⟩; have HE5 := Lib.hid hE; have b5 := (hE.chg (fun _ => False)).blk HB4.out id; have b50 : w5.cell? ⟨w3.heap.size, 0, none⟩ = some (.int .i64 y) := b5.cell 0; have b51 : w5.cell? ⟨w3.heap.size, 1, none⟩ = some (.slice OA ys.length oc) := b5.cell 1; clear hE)
              | (go_at_call 34; refine (cont1 OA oc ys g1 b3 d.univ _ (HRI.out.ext (e4.trans HE5.out)) ((HS4.out.ext' HE5.out).ub.cell 0) (HS4.out.ext' HE5.out).m1).mono ?_; rintro e w6 ⟨rfl, rfl⟩; rw [HANY.out]))
             go_ret
             exact ⟨(congrArg (fun b : Bool => Ending.returned (Value.bool b)) HF.out).symm, HS4.out.ext.trans HE5.out⟩
           · have hany : (ys.any fun v => !decide (v ∈ d.univ)) = false := by rw [any_not, hall]; rfl
             have HANY := Lib.hid hany
             have HR2 : Hid (Rz = ((d.exist.drop (k + 1)).all (okX d.univ) && restD d)) := Lib.hid (by rw [hmm, show okX d.univ (y, ys) = true by unfold okX; rw [hri, hall, decide_eq_false hy]; rfl, Bool.true_and])
             clear hmm
             go_wp2_with (first
              | (go_at_call 103; refine HRS.out.mono ?_; rintro e w5 ⟨rfl, hE⟩; have HE5 := Lib.hid hE; have b5 := (hE.chg (fun _ => False)).blk HB4.out id; have b50 : w5.cell? ⟨w3.heap.size, 0, none⟩ = some (.int .i64 y) := b5.cell 0; have b51 : w5.cell? ⟨w3.heap.size, 1, none⟩ = some (.slice OA ys.length oc) := b5.cell 1; clear hE)
              | (go_at_call 34; refine (cont1 OA oc ys g1 b3 d.univ _ (HRI.out.ext (e4.trans HE5.out)) ((HS4.out.ext' HE5.out).ub.cell 0) (HS4.out.ext' HE5.out).m1).mono ?_; rintro e w6 ⟨rfl, rfl⟩; rw [HANY.out])
              | (refine app_1 (v := u7) rfl (.tmp 49) (.tmp 52) rfl (base := B) (xs := (d.exist.take k).map Prod.fst) (y := y) rfl rfl (own_ext HO.out (e4.trans HE5.out)) (by simp; omega) (Nat.le_trans HBr.out (e4.trans HE5.out).size) ?_
                 intro v' w7 hown hg
                 have HOW := Lib.hid hown
                 have HCW := Lib.hid hg
                 clear hown hg))
             have HS7 := Lib.hid ((HS4.out.ext' HE5.out).chg HCW.out (fun i hi => by have := (own_typed HO.out hi.symm).1; have := HB.out; omega))
             have HB7 : Hid (B ≤ w7.heap.size) := Lib.hid (Nat.le_trans HBr.out (Nat.le_trans (e4.trans HE5.out).size HCW.out.size))
             have HO7 : Hid (OwnI w7 B v' ((d.exist.take (k + 1)).map Prod.fst)) := Lib.hid (by rw [HTS.out, List.map_append]; exact HOW.out)
             go_roundg (d.exist.length - (k + 1))
             case measure => omega
             case rel => exact ⟨k + 1, by omega, by omega, by go_num, HS7, HB7, HO7, HR2⟩
     · obtain rfl : k = d.exist.length := by omega
       have HO2 : Hid (OwnI w3 B u7 d.vars) := by have := HO.out; rw [List.take_length] at this; exact Lib.hid this
       have HR2 : Hid (Rz = restD d) := Lib.hid (by rw [HR.out, List.drop_length]; rfl)
       have hvl : d.vars.length = d.exist.length := by unfold DqV.vars; simp
       have HRV := Lib.hid HO2.out.reads
       obtain ⟨EA, ec, rfl, v1, v2, -⟩ := HO2.out.reads
       have HS3 : Hid (MS w w3 b0 g1 g2 b3 (.slice UA d.univ.length uc) (.slice XA d.exist.length xc) vc d.univ (d.univ ++ d.vars.take 0)) := Lib.hid (by rw [List.take_zero, List.append_nil]; exact HS.out)
       obtain ⟨n, hn⟩ : ∃ n, n = d.vars.length := ⟨_, rfl⟩
       have HN := Lib.hid hn
       rw [← hn] at v1 v2 HRV HO2
       rw [← hn]
       clear hn HS HR HO hgk hlt hk hvl
       go_wp2
       go_loopg [57] n (fun gn i wr => ∃ k : Nat, k ≤ n ∧ gn + k = n ∧ i = .int .i64 k ∧ Hid (MS w wr b0 g1 g2 b3 (.slice UA d.univ.length uc) (.slice XA d.exist.length xc) vc d.univ (d.univ ++ d.vars.take k)) ∧ Hid (B ≤ wr.heap.size) ∧ Hid (OwnI wr B (.slice EA n ec) d.vars))
       case atStart => exact ⟨0, Nat.zero_le _, by omega, rfl, HS3, HBr, HO2⟩
       case round =>
        obtain ⟨k, hk, hgk, rfl, HS, HBr, HO3⟩ := hrel
        have HRV := Lib.hid HO3.out.reads
        obtain ⟨w3, rfl⟩ : ∃ w3 : World, w3 = wr := ⟨_, rfl⟩
        by_cases hlt : k < n
        · have hkv : k < d.vars.length := by have := HN.out; omega
          obtain ⟨ad, rfl, hxk⟩ := HRV.out.row.2.2.2.int k hkv
          have hts := List.take_succ_eq_append_getElem hkv
          obtain ⟨v, hv⟩ : ∃ v, v = d.vars[k] := ⟨_, rfl⟩
          rw [← hv] at hxk hts
          obtain ⟨w4, hrun2, hm4, hc4⟩ := HS.out.put2 v
          rw [List.append_assoc, ← hts] at hm4
          have HM4 := Lib.hid hm4
          have HB4 : Hid (B ≤ w4.heap.size) := Lib.hid (Nat.le_trans HBr.out hc4.size)
          have HO4 : Hid (OwnI w4 B (.slice (some ad) n ec) d.vars) := Lib.hid (hc4.own HO3.out (fun i hi hs => by have := (own_typed HO3.out hi).1; have := HB.out; have := HM4.out.lo; omega))
          clear hts hm4 hc4 hv
          go_wp2
          go_roundg (n - (k + 1))
          case measure => omega
          case rel => exact ⟨k + 1, by omega, by omega, by go_num, HM4, HB4, HO4⟩
        · obtain rfl : k = n := by omega
          have HS9 : Hid (MS w w3 b0 g1 g2 b3 (.slice UA d.univ.length uc) (.slice XA d.exist.length xc) vc d.univ (d.univ ++ d.vars)) := by have := HS.out; rw [HN.out, List.take_length] at this; exact Lib.hid this
          have cb0 : w3.cell? (⟨b0, 0, none⟩ : Addr) = some (.slice UA d.univ.length uc) := HS9.out.box.cell 0
          have cb2 : w3.cell? (⟨b0, 2, none⟩ : Addr) = some vc := HS9.out.box.cell 2
          have hvn : d.vars.length = d.exist.length := by unfold DqV.vars; simp
          have hkn : k ≤ 1000000 := by have := HN.out; omega
          have HRU := Lib.hid (HU.out.ext HS9.out.ext)
          have HRC := Lib.hid (RLL.ext' HC.out HS9.out.ext)
          have hRz := HR2.out
          unfold restD at hRz
          have HR1 := Lib.hid (fun w' => rises_any d.univ (.slice UA d.univ.length uc) w')
          have HR2' := Lib.hid (fun w' => rises_any d.vars (.slice EA k ec) w')
          have hlen : decide ((d.univ.length : Int) + (k : Int) ≤ 1024) = decide (d.univ.length + d.exist.length ≤ 1024) := by have := HN.out; rw [decide_eq_decide]; omega
          cases hr1 : risesB d.univ
          · rw [hr1] at hRz HR1
            obtain rfl : Rz = false := by rw [hRz]; rfl
            clear hRz hlen hvn
            go_upto_region 20 with fail
            refine wp_region_mono (W := w3) rfl (Kd.at [.val (.pointer (some ⟨b0, 0, none⟩)), .val (.slice UA d.univ.length uc), .val (.bool false), .val (.bool false), .val undef, .val undef, .val (.bool false), .val (.bool false), .val undef, .val undef, .val undef, .val undef, .val undef, .val undef, .val undef, .val (.bool false), .val (.bool false), .val undef, .val undef, .val undef, .val undef, .val undef, .val (.bool false), .val (.bool false)]) (Kd.at_mono _) 87 rfl (by decide) (by decide) (by decide) ?_ ?_
            · refine ⟨?_, ?_, ?_, ?_, ?_, ?_, ?_, ?_, ?_, ?_, ?_, ?_, ?_, ?_, ?_, ?_, ?_, ?_, ?_, ?_, ?_, ?_, ?_, ?_, trivial⟩
              · intro a w' hE hK hd
                have hi1 : a.tmps[1]? = some (.pointer (some ⟨b0, 0, none⟩)) := hK.get 1 (by decide)
                exact st_run (wanted_none rfl) (v := .pointer (some ⟨b0, 0, none⟩)) (by unfold execOp; simp [hi1, go_sem]; try kernel_rfl) rfl
              · intro a w' hE hK hd
                obtain ⟨u0, h0, p0⟩ := got (hd ⟨0, .data⟩ (by simp) rfl) rfl rfl
                obtain rfl : u0 = .pointer (some ⟨b0, 0, none⟩) := p0
                exact st_load (wanted_none rfl) rfl (by rfl) h0 (hE.cell cb0) rfl
              · intro a w' hE hK hd
                obtain ⟨u1, h1, p1⟩ := got (hd ⟨1, .data⟩ (by simp) rfl) rfl rfl
                obtain rfl : u1 = .slice UA d.univ.length uc := p1
                exact st_call _ _ _ rfl (wanted_none rfl) rfl fv_rises _ (by simp only [List.map_toArray, List.map_cons, List.map_nil, eval_of h1]) ((HR1.out w' (HRU.out.ext hE)).mono fun e w'' ⟨H1, H2⟩ => ⟨_, H1, H2, rfl⟩)
              · intro a w' hE hK hd
                obtain ⟨u2, h2, p2⟩ := got (hd ⟨2, .data⟩ (by simp) rfl) rfl rfl
                obtain rfl : u2 = .bool false := p2
                exact st_move (wanted_none rfl) rfl h2 rfl
              · intro a w' hE hK hd
                obtain ⟨ug, hg, pg⟩ := got (hd ⟨3, .guard⟩ (by simp) rfl) rfl rfl
                obtain rfl : ug = .bool false := pg
                exact ok_not ((wanted_b rfl rfl rfl hg).trans rfl) rfl
              · intro a w' hE hK hd
                obtain ⟨ug, hg, pg⟩ := got (hd ⟨3, .guard⟩ (by simp) rfl) rfl rfl
                obtain rfl : ug = .bool false := pg
                exact ok_not ((wanted_b rfl rfl rfl hg).trans rfl) rfl
              · intro a w' hE hK hd
                obtain ⟨u3, h3, p3⟩ := got (hd ⟨3, .data⟩ (by simp) rfl) rfl rfl
                obtain rfl : u3 = .bool false := p3
                exact st_pickv (wanted_none rfl) rfl h3 rfl rfl
              · intro a w' hE hK hd
                obtain ⟨u6, h6, p6⟩ := got (hd ⟨6, .data⟩ (by simp) rfl) rfl rfl
                obtain rfl : u6 = .bool false := p6
                exact st_move (wanted_none rfl) rfl h6 rfl
              · intro a w' hE hK hd
                obtain ⟨ug, hg, pg⟩ := got (hd ⟨7, .guard⟩ (by simp) rfl) rfl rfl
                obtain rfl : ug = .bool false := pg
                exact ok_not ((wanted_b rfl rfl rfl hg).trans rfl) rfl
              · intro a w' hE hK hd
                obtain ⟨ug, hg, pg⟩ := got (hd ⟨7, .guard⟩ (by simp) rfl) rfl rfl
                obtain rfl : ug = .bool false := pg
                exact ok_not ((wanted_b rfl rfl rfl hg).trans rfl) rfl
              · intro a w' hE hK hd
                obtain ⟨ug, hg, pg⟩ := got (hd ⟨7, .guard⟩ (by simp) rfl) rfl rfl
                obtain rfl : ug = .bool false := pg
                exact ok_not ((wanted_b rfl rfl rfl hg).trans rfl) rfl
              · intro a w' hE hK hd
                obtain ⟨ug, hg, pg⟩ := got (hd ⟨7, .guard⟩ (by simp) rfl) rfl rfl
                obtain rfl : ug = .bool false := pg
                exact ok_not ((wanted_b rfl rfl rfl hg).trans rfl) rfl
              · intro a w' hE hK hd
                obtain ⟨ug, hg, pg⟩ := got (hd ⟨7, .guard⟩ (by simp) rfl) rfl rfl
                obtain rfl : ug = .bool false := pg
                exact ok_not ((wanted_b rfl rfl rfl hg).trans rfl) rfl
              · intro a w' hE hK hd
                obtain ⟨ug, hg, pg⟩ := got (hd ⟨7, .guard⟩ (by simp) rfl) rfl rfl
                obtain rfl : ug = .bool false := pg
                exact ok_not ((wanted_b rfl rfl rfl hg).trans rfl) rfl
              · intro a w' hE hK hd
                obtain ⟨ug, hg, pg⟩ := got (hd ⟨7, .guard⟩ (by simp) rfl) rfl rfl
                obtain rfl : ug = .bool false := pg
                exact ok_not ((wanted_b rfl rfl rfl hg).trans rfl) rfl
              · intro a w' hE hK hd
                obtain ⟨u7, h7, p7⟩ := got (hd ⟨7, .data⟩ (by simp) rfl) rfl rfl
                obtain rfl : u7 = .bool false := p7
                exact st_pickv (wanted_none rfl) rfl h7 rfl rfl
              · intro a w' hE hK hd
                obtain ⟨u15, h15, p15⟩ := got (hd ⟨15, .data⟩ (by simp) rfl) rfl rfl
                obtain rfl : u15 = .bool false := p15
                exact st_move (wanted_none rfl) rfl h15 rfl
              · intro a w' hE hK hd
                obtain ⟨ug, hg, pg⟩ := got (hd ⟨16, .guard⟩ (by simp) rfl) rfl rfl
                obtain rfl : ug = .bool false := pg
                exact ok_not ((wanted_b rfl rfl rfl hg).trans rfl) rfl
              · intro a w' hE hK hd
                obtain ⟨ug, hg, pg⟩ := got (hd ⟨16, .guard⟩ (by simp) rfl) rfl rfl
                obtain rfl : ug = .bool false := pg
                exact ok_not ((wanted_b rfl rfl rfl hg).trans rfl) rfl
              · intro a w' hE hK hd
                obtain ⟨ug, hg, pg⟩ := got (hd ⟨16, .guard⟩ (by simp) rfl) rfl rfl
                obtain rfl : ug = .bool false := pg
                exact ok_not ((wanted_b rfl rfl rfl hg).trans rfl) rfl
              · intro a w' hE hK hd
                obtain ⟨ug, hg, pg⟩ := got (hd ⟨16, .guard⟩ (by simp) rfl) rfl rfl
                obtain rfl : ug = .bool false := pg
                exact ok_not ((wanted_b rfl rfl rfl hg).trans rfl) rfl
              · intro a w' hE hK hd
                obtain ⟨ug, hg, pg⟩ := got (hd ⟨16, .guard⟩ (by simp) rfl) rfl rfl
                obtain rfl : ug = .bool false := pg
                exact ok_not ((wanted_b rfl rfl rfl hg).trans rfl) rfl
              · intro a w' hE hK hd
                obtain ⟨u16, h16, p16⟩ := got (hd ⟨16, .data⟩ (by simp) rfl) rfl rfl
                obtain rfl : u16 = .bool false := p16
                exact st_pickv (wanted_none rfl) rfl h16 rfl rfl
              · intro a w' hE hK hd
                obtain ⟨u22, h22, p22⟩ := got (hd ⟨22, .data⟩ (by simp) rfl) rfl rfl
                obtain rfl : u22 = .bool false := p22
                exact st_assign (wanted_none rfl) rfl h22 rfl
            · intro a w' hE hK hG
              obtain ⟨u, h23, p23⟩ := got (hG 23 (by decide)) rfl rfl
              obtain rfl : u = .bool false := p23
              rename_i K hKK
              refine hKK a w' (wp_ret ?_)
              exact bodyPost_ret (results_tmp rfl _ _ _) hK.1 ⟨congrArg Ending.returned (by rw [Array.getD_eq_getD_getElem?, h23]; rfl), HS9.out.ext.trans hE⟩
          · rw [hr1, Bool.true_and] at hRz
            rw [hr1] at HR1
            cases hr2 : risesB d.vars
            · rw [hr2] at hRz HR2'
              obtain rfl : Rz = false := by rw [hRz]; rfl
              clear hRz hlen hvn
              go_upto_region 20 with fail
              refine wp_region_mono (W := w3) rfl (Kd.at [.val (.pointer (some ⟨b0, 0, none⟩)), .val (.slice UA d.univ.length uc), .val (.bool true), .val (.bool true), .val (.slice EA k ec), .val (.bool false), .val (.bool false), .val (.bool false), .val undef, .val undef, .val undef, .val undef, .val undef, .val undef, .val undef, .val (.bool false), .val (.bool false), .val undef, .val undef, .val undef, .val undef, .val undef, .val (.bool false), .val (.bool false)]) (Kd.at_mono _) 87 rfl (by decide) (by decide) (by decide) ?_ ?_
              · refine ⟨?_, ?_, ?_, ?_, ?_, ?_, ?_, ?_, ?_, ?_, ?_, ?_, ?_, ?_, ?_, ?_, ?_, ?_, ?_, ?_, ?_, ?_, ?_, ?_, trivial⟩
                · intro a w' hE hK hd
                  have hi1 : a.tmps[1]? = some (.pointer (some ⟨b0, 0, none⟩)) := hK.get 1 (by decide)
                  exact st_run (wanted_none rfl) (v := .pointer (some ⟨b0, 0, none⟩)) (by unfold execOp; simp [hi1, go_sem]; try kernel_rfl) rfl
                · intro a w' hE hK hd
                  obtain ⟨u0, h0, p0⟩ := got (hd ⟨0, .data⟩ (by simp) rfl) rfl rfl
                  obtain rfl : u0 = .pointer (some ⟨b0, 0, none⟩) := p0
                  exact st_load (wanted_none rfl) rfl (by rfl) h0 (hE.cell cb0) rfl
                · intro a w' hE hK hd
                  obtain ⟨u1, h1, p1⟩ := got (hd ⟨1, .data⟩ (by simp) rfl) rfl rfl
                  obtain rfl : u1 = .slice UA d.univ.length uc := p1
                  exact st_call _ _ _ rfl (wanted_none rfl) rfl fv_rises _ (by simp only [List.map_toArray, List.map_cons, List.map_nil, eval_of h1]) ((HR1.out w' (HRU.out.ext hE)).mono fun e w'' ⟨H1, H2⟩ => ⟨_, H1, H2, rfl⟩)
                · intro a w' hE hK hd
                  obtain ⟨u2, h2, p2⟩ := got (hd ⟨2, .data⟩ (by simp) rfl) rfl rfl
                  obtain rfl : u2 = .bool true := p2
                  exact st_move (wanted_none rfl) rfl h2 rfl
                · intro a w' hE hK hd
                  obtain ⟨ug, hg, pg⟩ := got (hd ⟨3, .guard⟩ (by simp) rfl) rfl rfl
                  obtain rfl : ug = .bool true := pg
                  have hi7 : a.tmps[7]? = some (.slice EA k ec) := hK.get 7 (by decide)
                  exact st_move ((wanted_b rfl rfl rfl hg).trans rfl) rfl hi7 rfl
                · intro a w' hE hK hd
                  obtain ⟨ug, hg, pg⟩ := got (hd ⟨3, .guard⟩ (by simp) rfl) rfl rfl
                  obtain rfl : ug = .bool true := pg
                  obtain ⟨u4, h4, p4⟩ := got (hd ⟨4, .data⟩ (by simp) rfl) rfl rfl
                  obtain rfl : u4 = .slice EA k ec := p4
                  exact st_call _ _ _ rfl ((wanted_b rfl rfl rfl hg).trans rfl) rfl fv_rises _ (by simp only [List.map_toArray, List.map_cons, List.map_nil, eval_of h4]) ((HR2'.out w' (HRV.out.ext hE)).mono fun e w'' ⟨H1, H2⟩ => ⟨_, H1, H2, rfl⟩)
                · intro a w' hE hK hd
                  obtain ⟨u3, h3, p3⟩ := got (hd ⟨3, .data⟩ (by simp) rfl) rfl rfl
                  obtain rfl : u3 = .bool true := p3
                  obtain ⟨u5, h5, p5⟩ := got (hd ⟨5, .data⟩ (by simp) rfl) rfl rfl
                  obtain rfl : u5 = .bool false := p5
                  exact st_pickv (wanted_none rfl) rfl h3 (eval_of h5) rfl
                · intro a w' hE hK hd
                  obtain ⟨u6, h6, p6⟩ := got (hd ⟨6, .data⟩ (by simp) rfl) rfl rfl
                  obtain rfl : u6 = .bool false := p6
                  exact st_move (wanted_none rfl) rfl h6 rfl
                · intro a w' hE hK hd
                  obtain ⟨ug, hg, pg⟩ := got (hd ⟨7, .guard⟩ (by simp) rfl) rfl rfl
                  obtain rfl : ug = .bool false := pg
                  exact ok_not ((wanted_b rfl rfl rfl hg).trans rfl) rfl
                · intro a w' hE hK hd
                  obtain ⟨ug, hg, pg⟩ := got (hd ⟨7, .guard⟩ (by simp) rfl) rfl rfl
                  obtain rfl : ug = .bool false := pg
                  exact ok_not ((wanted_b rfl rfl rfl hg).trans rfl) rfl
                · intro a w' hE hK hd
                  obtain ⟨ug, hg, pg⟩ := got (hd ⟨7, .guard⟩ (by simp) rfl) rfl rfl
                  obtain rfl : ug = .bool false := pg
                  exact ok_not ((wanted_b rfl rfl rfl hg).trans rfl) rfl
                · intro a w' hE hK hd
                  obtain ⟨ug, hg, pg⟩ := got (hd ⟨7, .guard⟩ (by simp) rfl) rfl rfl
                  obtain rfl : ug = .bool false := pg
                  exact ok_not ((wanted_b rfl rfl rfl hg).trans rfl) rfl
                · intro a w' hE hK hd
                  obtain ⟨ug, hg, pg⟩ := got (hd ⟨7, .guard⟩ (by simp) rfl) rfl rfl
                  obtain rfl : ug = .bool false := pg
                  exact ok_not ((wanted_b rfl rfl rfl hg).trans rfl) rfl
                · intro a w' hE hK hd
                  obtain ⟨ug, hg, pg⟩ := got (hd ⟨7, .guard⟩ (by simp) rfl) rfl rfl
                  obtain rfl : ug = .bool false := pg
                  exact ok_not ((wanted_b rfl rfl rfl hg).trans rfl) rfl
                · intro a w' hE hK hd
                  obtain ⟨ug, hg, pg⟩ := got (hd ⟨7, .guard⟩ (by simp) rfl) rfl rfl
                  obtain rfl : ug = .bool false := pg
                  exact ok_not ((wanted_b rfl rfl rfl hg).trans rfl) rfl
                · intro a w' hE hK hd
                  obtain ⟨u7, h7, p7⟩ := got (hd ⟨7, .data⟩ (by simp) rfl) rfl rfl
                  obtain rfl : u7 = .bool false := p7
                  exact st_pickv (wanted_none rfl) rfl h7 rfl rfl
                · intro a w' hE hK hd
                  obtain ⟨u15, h15, p15⟩ := got (hd ⟨15, .data⟩ (by simp) rfl) rfl rfl
                  obtain rfl : u15 = .bool false := p15
                  exact st_move (wanted_none rfl) rfl h15 rfl
                · intro a w' hE hK hd
                  obtain ⟨ug, hg, pg⟩ := got (hd ⟨16, .guard⟩ (by simp) rfl) rfl rfl
                  obtain rfl : ug = .bool false := pg
                  exact ok_not ((wanted_b rfl rfl rfl hg).trans rfl) rfl
                · intro a w' hE hK hd
                  obtain ⟨ug, hg, pg⟩ := got (hd ⟨16, .guard⟩ (by simp) rfl) rfl rfl
                  obtain rfl : ug = .bool false := pg
                  exact ok_not ((wanted_b rfl rfl rfl hg).trans rfl) rfl
                · intro a w' hE hK hd
                  obtain ⟨ug, hg, pg⟩ := got (hd ⟨16, .guard⟩ (by simp) rfl) rfl rfl
                  obtain rfl : ug = .bool false := pg
                  exact ok_not ((wanted_b rfl rfl rfl hg).trans rfl) rfl
                · intro a w' hE hK hd
                  obtain ⟨ug, hg, pg⟩ := got (hd ⟨16, .guard⟩ (by simp) rfl) rfl rfl
                  obtain rfl : ug = .bool false := pg
                  exact ok_not ((wanted_b rfl rfl rfl hg).trans rfl) rfl
                · intro a w' hE hK hd
                  obtain ⟨ug, hg, pg⟩ := got (hd ⟨16, .guard⟩ (by simp) rfl) rfl rfl
                  obtain rfl : ug = .bool false := pg
                  exact ok_not ((wanted_b rfl rfl rfl hg).trans rfl) rfl
                · intro a w' hE hK hd
                  obtain ⟨u16, h16, p16⟩ := got (hd ⟨16, .data⟩ (by simp) rfl) rfl rfl
                  obtain rfl : u16 = .bool false := p16
                  exact st_pickv (wanted_none rfl) rfl h16 rfl rfl
                · intro a w' hE hK hd
                  obtain ⟨u22, h22, p22⟩ := got (hd ⟨22, .data⟩ (by simp) rfl) rfl rfl
                  obtain rfl : u22 = .bool false := p22
                  exact st_assign (wanted_none rfl) rfl h22 rfl
              · intro a w' hE hK hG
                obtain ⟨u, h23, p23⟩ := got (hG 23 (by decide)) rfl rfl
                obtain rfl : u = .bool false := p23
                rename_i K hKK
                refine hKK a w' (wp_ret ?_)
                exact bodyPost_ret (results_tmp rfl _ _ _) hK.1 ⟨congrArg Ending.returned (by rw [Array.getD_eq_getD_getElem?, h23]; rfl), HS9.out.ext.trans hE⟩
            · rw [hr2, Bool.true_and] at hRz
              rw [hr2] at HR2'
              by_cases hle : (d.univ.length : Int) + (k : Int) ≤ 1024
              · rw [← hlen, decide_eq_true hle, Bool.true_and] at hRz
                rw [← cnfR_may (fun v => decide (v ∈ d.univ ++ d.vars))] at hRz
                have HCN : Hid (∀ w' v b, Ext w3 w' → v = .func (.func 152) #[] #[.pointer (some ⟨b, 0, none⟩)] → w'.cell? ⟨b, 0, none⟩ = some (.map (some g2)) → Calls Tryz.prog 105 #[vc, v] w' fun e w'' => e = .returned (.bool Rz) ∧ Ext w' w'') := Lib.hid (by
                 rintro w' v b hE rfl hb
                 refine (cnf_any d.clauses vc 152 #[.pointer (some ⟨b, 0, none⟩)] fv_has1 (fun v => decide (v ∈ d.univ ++ d.vars)) w' c64 (RLL.ext' HRC.out hE) ht (fun v _ _ w'' hE2 => (has1_fn v g2 b _ w'' (hE2.cell hb) ((HS9.out.ext' (hE.trans hE2)).m2)).mono ?_)).mono ?_
                 · rintro e w3 ⟨rfl, rfl⟩
                   exact ⟨by rw [memM_some], Ext.refl _⟩
                 · rintro e w3 ⟨rfl, h⟩
                   exact ⟨by rw [hRz], h⟩)
                clear hRz hlen hvn
                go_upto_region 20 with fail
                refine wp_region_mono (W := w3) rfl (Kd.at [.val (.pointer (some ⟨b0, 0, none⟩)), .val (.slice UA d.univ.length uc), .val (.bool true), .val (.bool true), .val (.slice EA k ec), .val (.bool true), .val (.bool true), .val (.bool true), .val (.pointer (some ⟨b0, 0, none⟩)), .val (.slice UA d.univ.length uc), .val (.int .i64 (d.univ.length : Int)), .val (.slice EA k ec), .val (.int .i64 (k : Int)), .val (.int .i64 ((d.univ.length : Int) + (k : Int))), .val (.bool true), .val (.bool true), .val (.bool true), .val (.pointer (some ⟨b0, 2, none⟩)), .val (vc), .val (.map (some g2)), .gen (CloP 152 (.map (some g2))) (cloP_mono _ _), .val (.bool Rz), .val (.bool Rz), .val (.bool Rz)]) (Kd.at_mono _) 87 rfl (by decide) (by decide) (by decide) ?_ ?_
                · refine ⟨?_, ?_, ?_, ?_, ?_, ?_, ?_, ?_, ?_, ?_, ?_, ?_, ?_, ?_, ?_, ?_, ?_, ?_, ?_, ?_, ?_, ?_, ?_, ?_, trivial⟩
                  · intro a w' hE hK hd
                    have hi1 : a.tmps[1]? = some (.pointer (some ⟨b0, 0, none⟩)) := hK.get 1 (by decide)
                    exact st_run (wanted_none rfl) (v := .pointer (some ⟨b0, 0, none⟩)) (by unfold execOp; simp [hi1, go_sem]; try kernel_rfl) rfl
                  · intro a w' hE hK hd
                    obtain ⟨u0, h0, p0⟩ := got (hd ⟨0, .data⟩ (by simp) rfl) rfl rfl
                    obtain rfl : u0 = .pointer (some ⟨b0, 0, none⟩) := p0
                    exact st_load (wanted_none rfl) rfl (by rfl) h0 (hE.cell cb0) rfl
                  · intro a w' hE hK hd
                    obtain ⟨u1, h1, p1⟩ := got (hd ⟨1, .data⟩ (by simp) rfl) rfl rfl
                    obtain rfl : u1 = .slice UA d.univ.length uc := p1
                    exact st_call _ _ _ rfl (wanted_none rfl) rfl fv_rises _ (by simp only [List.map_toArray, List.map_cons, List.map_nil, eval_of h1]) ((HR1.out w' (HRU.out.ext hE)).mono fun e w'' ⟨H1, H2⟩ => ⟨_, H1, H2, rfl⟩)
                  · intro a w' hE hK hd
                    obtain ⟨u2, h2, p2⟩ := got (hd ⟨2, .data⟩ (by simp) rfl) rfl rfl
                    obtain rfl : u2 = .bool true := p2
                    exact st_move (wanted_none rfl) rfl h2 rfl
                  · intro a w' hE hK hd
                    obtain ⟨ug, hg, pg⟩ := got (hd ⟨3, .guard⟩ (by simp) rfl) rfl rfl
                    obtain rfl : ug = .bool true := pg
                    have hi7 : a.tmps[7]? = some (.slice EA k ec) := hK.get 7 (by decide)
                    exact st_move ((wanted_b rfl rfl rfl hg).trans rfl) rfl hi7 rfl
                  · intro a w' hE hK hd
                    obtain ⟨ug, hg, pg⟩ := got (hd ⟨3, .guard⟩ (by simp) rfl) rfl rfl
                    obtain rfl : ug = .bool true := pg
                    obtain ⟨u4, h4, p4⟩ := got (hd ⟨4, .data⟩ (by simp) rfl) rfl rfl
                    obtain rfl : u4 = .slice EA k ec := p4
                    exact st_call _ _ _ rfl ((wanted_b rfl rfl rfl hg).trans rfl) rfl fv_rises _ (by simp only [List.map_toArray, List.map_cons, List.map_nil, eval_of h4]) ((HR2'.out w' (HRV.out.ext hE)).mono fun e w'' ⟨H1, H2⟩ => ⟨_, H1, H2, rfl⟩)
                  · intro a w' hE hK hd
                    obtain ⟨u3, h3, p3⟩ := got (hd ⟨3, .data⟩ (by simp) rfl) rfl rfl
                    obtain rfl : u3 = .bool true := p3
                    obtain ⟨u5, h5, p5⟩ := got (hd ⟨5, .data⟩ (by simp) rfl) rfl rfl
                    obtain rfl : u5 = .bool true := p5
                    exact st_pickv (wanted_none rfl) rfl h3 (eval_of h5) rfl
                  · intro a w' hE hK hd
                    obtain ⟨u6, h6, p6⟩ := got (hd ⟨6, .data⟩ (by simp) rfl) rfl rfl
                    obtain rfl : u6 = .bool true := p6
                    exact st_move (wanted_none rfl) rfl h6 rfl
                  · intro a w' hE hK hd
                    obtain ⟨ug, hg, pg⟩ := got (hd ⟨7, .guard⟩ (by simp) rfl) rfl rfl
                    obtain rfl : ug = .bool true := pg
                    have hi1 : a.tmps[1]? = some (.pointer (some ⟨b0, 0, none⟩)) := hK.get 1 (by decide)
                    exact st_run ((wanted_b rfl rfl rfl hg).trans rfl) (v := .pointer (some ⟨b0, 0, none⟩)) (by unfold execOp; simp [hi1, go_sem]; try kernel_rfl) rfl
                  · intro a w' hE hK hd
                    obtain ⟨ug, hg, pg⟩ := got (hd ⟨7, .guard⟩ (by simp) rfl) rfl rfl
                    obtain rfl : ug = .bool true := pg
                    obtain ⟨u8, h8, p8⟩ := got (hd ⟨8, .data⟩ (by simp) rfl) rfl rfl
                    obtain rfl : u8 = .pointer (some ⟨b0, 0, none⟩) := p8
                    exact st_load ((wanted_b rfl rfl rfl hg).trans rfl) rfl (by rfl) h8 (hE.cell cb0) rfl
                  · intro a w' hE hK hd
                    obtain ⟨ug, hg, pg⟩ := got (hd ⟨7, .guard⟩ (by simp) rfl) rfl rfl
                    obtain rfl : ug = .bool true := pg
                    obtain ⟨u9, h9, p9⟩ := got (hd ⟨9, .data⟩ (by simp) rfl) rfl rfl
                    obtain rfl : u9 = .slice UA d.univ.length uc := p9
                    exact st_run ((wanted_b rfl rfl rfl hg).trans rfl) (v := .int .i64 (d.univ.length : Int)) (by unfold execOp; simp [h9, go_sem, resolve, invoke, builtin]; try kernel_rfl) rfl
                  · intro a w' hE hK hd
                    obtain ⟨ug, hg, pg⟩ := got (hd ⟨7, .guard⟩ (by simp) rfl) rfl rfl
                    obtain rfl : ug = .bool true := pg
                    have hi7 : a.tmps[7]? = some (.slice EA k ec) := hK.get 7 (by decide)
                    exact st_move ((wanted_b rfl rfl rfl hg).trans rfl) rfl hi7 rfl
                  · intro a w' hE hK hd
                    obtain ⟨ug, hg, pg⟩ := got (hd ⟨7, .guard⟩ (by simp) rfl) rfl rfl
                    obtain rfl : ug = .bool true := pg
                    obtain ⟨u11, h11, p11⟩ := got (hd ⟨11, .data⟩ (by simp) rfl) rfl rfl
                    obtain rfl : u11 = .slice EA k ec := p11
                    exact st_run ((wanted_b rfl rfl rfl hg).trans rfl) (v := .int .i64 (k : Int)) (by unfold execOp; simp [h11, go_sem, resolve, invoke, builtin]; try kernel_rfl) rfl
                  · intro a w' hE hK hd
                    obtain ⟨ug, hg, pg⟩ := got (hd ⟨7, .guard⟩ (by simp) rfl) rfl rfl
                    obtain rfl : ug = .bool true := pg
                    obtain ⟨u10, h10, p10⟩ := got (hd ⟨10, .data⟩ (by simp) rfl) rfl rfl
                    obtain rfl : u10 = .int .i64 (d.univ.length : Int) := p10
                    obtain ⟨u12, h12, p12⟩ := got (hd ⟨12, .data⟩ (by simp) rfl) rfl rfl
                    obtain rfl : u12 = .int .i64 (k : Int) := p12
                    exact st_run ((wanted_b rfl rfl rfl hg).trans rfl) (v := .int .i64 ((d.univ.length : Int) + (k : Int))) (by unfold execOp; simp [h10, h12, go_sem]; exact wrap_mid (by omega) (by omega)) rfl
                  · intro a w' hE hK hd
                    obtain ⟨ug, hg, pg⟩ := got (hd ⟨7, .guard⟩ (by simp) rfl) rfl rfl
                    obtain rfl : ug = .bool true := pg
                    obtain ⟨u13, h13, p13⟩ := got (hd ⟨13, .data⟩ (by simp) rfl) rfl rfl
                    obtain rfl : u13 = .int .i64 ((d.univ.length : Int) + (k : Int)) := p13
                    exact st_run ((wanted_b rfl rfl rfl hg).trans rfl) (v := .bool true) (by unfold execOp; simp [h13, go_sem, hle]; try kernel_rfl) rfl
                  · intro a w' hE hK hd
                    obtain ⟨u7, h7, p7⟩ := got (hd ⟨7, .data⟩ (by simp) rfl) rfl rfl
                    obtain rfl : u7 = .bool true := p7
                    obtain ⟨u14, h14, p14⟩ := got (hd ⟨14, .data⟩ (by simp) rfl) rfl rfl
                    obtain rfl : u14 = .bool true := p14
                    exact st_pickv (wanted_none rfl) rfl h7 (eval_of h14) rfl
                  · intro a w' hE hK hd
                    obtain ⟨u15, h15, p15⟩ := got (hd ⟨15, .data⟩ (by simp) rfl) rfl rfl
                    obtain rfl : u15 = .bool true := p15
                    exact st_move (wanted_none rfl) rfl h15 rfl
                  · intro a w' hE hK hd
                    obtain ⟨ug, hg, pg⟩ := got (hd ⟨16, .guard⟩ (by simp) rfl) rfl rfl
                    obtain rfl : ug = .bool true := pg
                    have hi1 : a.tmps[1]? = some (.pointer (some ⟨b0, 0, none⟩)) := hK.get 1 (by decide)
                    exact st_run ((wanted_b rfl rfl rfl hg).trans rfl) (v := .pointer (some ⟨b0, 2, none⟩)) (by unfold execOp; simp [hi1, go_sem]; try kernel_rfl) rfl
                  · intro a w' hE hK hd
                    obtain ⟨ug, hg, pg⟩ := got (hd ⟨16, .guard⟩ (by simp) rfl) rfl rfl
                    obtain rfl : ug = .bool true := pg
                    obtain ⟨u17, h17, p17⟩ := got (hd ⟨17, .data⟩ (by simp) rfl) rfl rfl
                    obtain rfl : u17 = .pointer (some ⟨b0, 2, none⟩) := p17
                    exact st_load ((wanted_b rfl rfl rfl hg).trans rfl) rfl (by rfl) h17 (hE.cell cb2) rfl
                  · intro a w' hE hK hd
                    obtain ⟨ug, hg, pg⟩ := got (hd ⟨16, .guard⟩ (by simp) rfl) rfl rfl
                    obtain rfl : ug = .bool true := pg
                    have hi4 : a.tmps[4]? = some (.map (some g2)) := hK.get 4 (by decide)
                    exact st_move ((wanted_b rfl rfl rfl hg).trans rfl) rfl hi4 rfl
                  · intro a w' hE hK hd
                    obtain ⟨ug, hg, pg⟩ := got (hd ⟨16, .guard⟩ (by simp) rfl) rfl rfl
                    obtain rfl : ug = .bool true := pg
                    obtain ⟨u19, h19, p19⟩ := got (hd ⟨19, .data⟩ (by simp) rfl) rfl rfl
                    obtain rfl : u19 = .map (some g2) := p19
                    exact st_call _ _ _ rfl ((wanted_b rfl rfl rfl hg).trans rfl) rfl fv_hasb _ (by simp only [List.map_toArray, List.map_cons, List.map_nil, eval_of h19]) ((has_any g2 w').mono fun e w'' ⟨b, H1, H2, H3⟩ => ⟨_, H1, H2, ⟨b, rfl, H3⟩⟩)
                  · intro a w' hE hK hd
                    obtain ⟨ug, hg, pg⟩ := got (hd ⟨16, .guard⟩ (by simp) rfl) rfl rfl
                    obtain rfl : ug = .bool true := pg
                    obtain ⟨u18, h18, p18⟩ := got (hd ⟨18, .data⟩ (by simp) rfl) rfl rfl
                    obtain rfl : u18 = vc := p18
                    obtain ⟨u20, h20, p20⟩ := got (hd ⟨20, .data⟩ (by simp) rfl) rfl rfl
                    obtain ⟨b, q20, r20⟩ : CloP 152 (.map (some g2)) w' u20 := p20
                    exact st_call _ _ _ rfl ((wanted_b rfl rfl rfl hg).trans rfl) rfl fv_cnf _ (by simp only [List.map_toArray, List.map_cons, List.map_nil, eval_of h18, eval_of h20]) ((HCN.out w' u20 b hE q20 r20).mono fun e w'' ⟨H1, H2⟩ => ⟨_, H1, H2, rfl⟩)
                  · intro a w' hE hK hd
                    obtain ⟨u16, h16, p16⟩ := got (hd ⟨16, .data⟩ (by simp) rfl) rfl rfl
                    obtain rfl : u16 = .bool true := p16
                    obtain ⟨u21, h21, p21⟩ := got (hd ⟨21, .data⟩ (by simp) rfl) rfl rfl
                    obtain rfl : u21 = .bool Rz := p21
                    exact st_pickv (wanted_none rfl) rfl h16 (eval_of h21) rfl
                  · intro a w' hE hK hd
                    obtain ⟨u22, h22, p22⟩ := got (hd ⟨22, .data⟩ (by simp) rfl) rfl rfl
                    obtain rfl : u22 = .bool Rz := p22
                    exact st_assign (wanted_none rfl) rfl h22 rfl
                · intro a w' hE hK hG
                  obtain ⟨u, h23, p23⟩ := got (hG 23 (by decide)) rfl rfl
                  obtain rfl : u = .bool Rz := p23
                  rename_i K hKK
                  refine hKK a w' (wp_ret ?_)
                  exact bodyPost_ret (results_tmp rfl _ _ _) hK.1 ⟨congrArg Ending.returned (by rw [Array.getD_eq_getD_getElem?, h23]; rfl), HS9.out.ext.trans hE⟩
              · rw [← hlen, decide_eq_false hle] at hRz
                obtain rfl : Rz = false := by rw [hRz]; rfl
                clear hRz hlen hvn
                go_upto_region 20 with fail
                refine wp_region_mono (W := w3) rfl (Kd.at [.val (.pointer (some ⟨b0, 0, none⟩)), .val (.slice UA d.univ.length uc), .val (.bool true), .val (.bool true), .val (.slice EA k ec), .val (.bool true), .val (.bool true), .val (.bool true), .val (.pointer (some ⟨b0, 0, none⟩)), .val (.slice UA d.univ.length uc), .val (.int .i64 (d.univ.length : Int)), .val (.slice EA k ec), .val (.int .i64 (k : Int)), .val (.int .i64 ((d.univ.length : Int) + (k : Int))), .val (.bool false), .val (.bool false), .val (.bool false), .val undef, .val undef, .val undef, .val undef, .val undef, .val (.bool false), .val (.bool false)]) (Kd.at_mono _) 87 rfl (by decide) (by decide) (by decide) ?_ ?_
                · refine ⟨?_, ?_, ?_, ?_, ?_, ?_, ?_, ?_, ?_, ?_, ?_, ?_, ?_, ?_, ?_, ?_, ?_, ?_, ?_, ?_, ?_, ?_, ?_, ?_, trivial⟩
                  · intro a w' hE hK hd
                    have hi1 : a.tmps[1]? = some (.pointer (some ⟨b0, 0, none⟩)) := hK.get 1 (by decide)
                    exact st_run (wanted_none rfl) (v := .pointer (some ⟨b0, 0, none⟩)) (by unfold execOp; simp [hi1, go_sem]; try kernel_rfl) rfl
                  · intro a w' hE hK hd
                    obtain ⟨u0, h0, p0⟩ := got (hd ⟨0, .data⟩ (by simp) rfl) rfl rfl
                    obtain rfl : u0 = .pointer (some ⟨b0, 0, none⟩) := p0
                    exact st_load (wanted_none rfl) rfl (by rfl) h0 (hE.cell cb0) rfl
                  · intro a w' hE hK hd
                    obtain ⟨u1, h1, p1⟩ := got (hd ⟨1, .data⟩ (by simp) rfl) rfl rfl
                    obtain rfl : u1 = .slice UA d.univ.length uc := p1
                    exact st_call _ _ _ rfl (wanted_none rfl) rfl fv_rises _ (by simp only [List.map_toArray, List.map_cons, List.map_nil, eval_of h1]) ((HR1.out w' (HRU.out.ext hE)).mono fun e w'' ⟨H1, H2⟩ => ⟨_, H1, H2, rfl⟩)
                  · intro a w' hE hK hd
                    obtain ⟨u2, h2, p2⟩ := got (hd ⟨2, .data⟩ (by simp) rfl) rfl rfl
                    obtain rfl : u2 = .bool true := p2
                    exact st_move (wanted_none rfl) rfl h2 rfl
                  · intro a w' hE hK hd
                    obtain ⟨ug, hg, pg⟩ := got (hd ⟨3, .guard⟩ (by simp) rfl) rfl rfl
                    obtain rfl : ug = .bool true := pg
                    have hi7 : a.tmps[7]? = some (.slice EA k ec) := hK.get 7 (by decide)
                    exact st_move ((wanted_b rfl rfl rfl hg).trans rfl) rfl hi7 rfl
                  · intro a w' hE hK hd
                    obtain ⟨ug, hg, pg⟩ := got (hd ⟨3, .guard⟩ (by simp) rfl) rfl rfl
                    obtain rfl : ug = .bool true := pg
                    obtain ⟨u4, h4, p4⟩ := got (hd ⟨4, .data⟩ (by simp) rfl) rfl rfl
                    obtain rfl : u4 = .slice EA k ec := p4
                    exact st_call _ _ _ rfl ((wanted_b rfl rfl rfl hg).trans rfl) rfl fv_rises _ (by simp only [List.map_toArray, List.map_cons, List.map_nil, eval_of h4]) ((HR2'.out w' (HRV.out.ext hE)).mono fun e w'' ⟨H1, H2⟩ => ⟨_, H1, H2, rfl⟩)
                  · intro a w' hE hK hd
                    obtain ⟨u3, h3, p3⟩ := got (hd ⟨3, .data⟩ (by simp) rfl) rfl rfl
                    obtain rfl : u3 = .bool true := p3
                    obtain ⟨u5, h5, p5⟩ := got (hd ⟨5, .data⟩ (by simp) rfl) rfl rfl
                    obtain rfl : u5 = .bool true := p5
                    exact st_pickv (wanted_none rfl) rfl h3 (eval_of h5) rfl
                  · intro a w' hE hK hd
                    obtain ⟨u6, h6, p6⟩ := got (hd ⟨6, .data⟩ (by simp) rfl) rfl rfl
                    obtain rfl : u6 = .bool true := p6
                    exact st_move (wanted_none rfl) rfl h6 rfl
                  · intro a w' hE hK hd
                    obtain ⟨ug, hg, pg⟩ := got (hd ⟨7, .guard⟩ (by simp) rfl) rfl rfl
                    obtain rfl : ug = .bool true := pg
                    have hi1 : a.tmps[1]? = some (.pointer (some ⟨b0, 0, none⟩)) := hK.get 1 (by decide)
                    exact st_run ((wanted_b rfl rfl rfl hg).trans rfl) (v := .pointer (some ⟨b0, 0, none⟩)) (by unfold execOp; simp [hi1, go_sem]; try kernel_rfl) rfl
                  · intro a w' hE hK hd
                    obtain ⟨ug, hg, pg⟩ := got (hd ⟨7, .guard⟩ (by simp) rfl) rfl rfl
                    obtain rfl : ug = .bool true := pg
                    obtain ⟨u8, h8, p8⟩ := got (hd ⟨8, .data⟩ (by simp) rfl) rfl rfl
                    obtain rfl : u8 = .pointer (some ⟨b0, 0, none⟩) := p8
                    exact st_load ((wanted_b rfl rfl rfl hg).trans rfl) rfl (by rfl) h8 (hE.cell cb0) rfl
                  · intro a w' hE hK hd
                    obtain ⟨ug, hg, pg⟩ := got (hd ⟨7, .guard⟩ (by simp) rfl) rfl rfl
                    obtain rfl : ug = .bool true := pg
                    obtain ⟨u9, h9, p9⟩ := got (hd ⟨9, .data⟩ (by simp) rfl) rfl rfl
                    obtain rfl : u9 = .slice UA d.univ.length uc := p9
                    exact st_run ((wanted_b rfl rfl rfl hg).trans rfl) (v := .int .i64 (d.univ.length : Int)) (by unfold execOp; simp [h9, go_sem, resolve, invoke, builtin]; try kernel_rfl) rfl
                  · intro a w' hE hK hd
                    obtain ⟨ug, hg, pg⟩ := got (hd ⟨7, .guard⟩ (by simp) rfl) rfl rfl
                    obtain rfl : ug = .bool true := pg
                    have hi7 : a.tmps[7]? = some (.slice EA k ec) := hK.get 7 (by decide)
                    exact st_move ((wanted_b rfl rfl rfl hg).trans rfl) rfl hi7 rfl
                  · intro a w' hE hK hd
                    obtain ⟨ug, hg, pg⟩ := got (hd ⟨7, .guard⟩ (by simp) rfl) rfl rfl
                    obtain rfl : ug = .bool true := pg
                    obtain ⟨u11, h11, p11⟩ := got (hd ⟨11, .data⟩ (by simp) rfl) rfl rfl
                    obtain rfl : u11 = .slice EA k ec := p11
                    exact st_run ((wanted_b rfl rfl rfl hg).trans rfl) (v := .int .i64 (k : Int)) (by unfold execOp; simp [h11, go_sem, resolve, invoke, builtin]; try kernel_rfl) rfl
                  · intro a w' hE hK hd
                    obtain ⟨ug, hg, pg⟩ := got (hd ⟨7, .guard⟩ (by simp) rfl) rfl rfl
                    obtain rfl : ug = .bool true := pg
                    obtain ⟨u10, h10, p10⟩ := got (hd ⟨10, .data⟩ (by simp) rfl) rfl rfl
                    obtain rfl : u10 = .int .i64 (d.univ.length : Int) := p10
                    obtain ⟨u12, h12, p12⟩ := got (hd ⟨12, .data⟩ (by simp) rfl) rfl rfl
                    obtain rfl : u12 = .int .i64 (k : Int) := p12
                    exact st_run ((wanted_b rfl rfl rfl hg).trans rfl) (v := .int .i64 ((d.univ.length : Int) + (k : Int))) (by unfold execOp; simp [h10, h12, go_sem]; exact wrap_mid (by omega) (by omega)) rfl
                  · intro a w' hE hK hd
                    obtain ⟨ug, hg, pg⟩ := got (hd ⟨7, .guard⟩ (by simp) rfl) rfl rfl
                    obtain rfl : ug = .bool true := pg
                    obtain ⟨u13, h13, p13⟩ := got (hd ⟨13, .data⟩ (by simp) rfl) rfl rfl
                    obtain rfl : u13 = .int .i64 ((d.univ.length : Int) + (k : Int)) := p13
                    exact st_run ((wanted_b rfl rfl rfl hg).trans rfl) (v := .bool false) (by unfold execOp; simp [h13, go_sem, hle]; try kernel_rfl) rfl
                  · intro a w' hE hK hd
                    obtain ⟨u7, h7, p7⟩ := got (hd ⟨7, .data⟩ (by simp) rfl) rfl rfl
                    obtain rfl : u7 = .bool true := p7
                    obtain ⟨u14, h14, p14⟩ := got (hd ⟨14, .data⟩ (by simp) rfl) rfl rfl
                    obtain rfl : u14 = .bool false := p14
                    exact st_pickv (wanted_none rfl) rfl h7 (eval_of h14) rfl
                  · intro a w' hE hK hd
                    obtain ⟨u15, h15, p15⟩ := got (hd ⟨15, .data⟩ (by simp) rfl) rfl rfl
                    obtain rfl : u15 = .bool false := p15
                    exact st_move (wanted_none rfl) rfl h15 rfl
                  · intro a w' hE hK hd
                    obtain ⟨ug, hg, pg⟩ := got (hd ⟨16, .guard⟩ (by simp) rfl) rfl rfl
                    obtain rfl : ug = .bool false := pg
                    exact ok_not ((wanted_b rfl rfl rfl hg).trans rfl) rfl
                  · intro a w' hE hK hd
                    obtain ⟨ug, hg, pg⟩ := got (hd ⟨16, .guard⟩ (by simp) rfl) rfl rfl
                    obtain rfl : ug = .bool false := pg
                    exact ok_not ((wanted_b rfl rfl rfl hg).trans rfl) rfl
                  · intro a w' hE hK hd
                    obtain ⟨ug, hg, pg⟩ := got (hd ⟨16, .guard⟩ (by simp) rfl) rfl rfl
                    obtain rfl : ug = .bool false := pg
                    exact ok_not ((wanted_b rfl rfl rfl hg).trans rfl) rfl
                  · intro a w' hE hK hd
                    obtain ⟨ug, hg, pg⟩ := got (hd ⟨16, .guard⟩ (by simp) rfl) rfl rfl
                    obtain rfl : ug = .bool false := pg
                    exact ok_not ((wanted_b rfl rfl rfl hg).trans rfl) rfl
                  · intro a w' hE hK hd
                    obtain ⟨ug, hg, pg⟩ := got (hd ⟨16, .guard⟩ (by simp) rfl) rfl rfl
                    obtain rfl : ug = .bool false := pg
                    exact ok_not ((wanted_b rfl rfl rfl hg).trans rfl) rfl
                  · intro a w' hE hK hd
                    obtain ⟨u16, h16, p16⟩ := got (hd ⟨16, .data⟩ (by simp) rfl) rfl rfl
                    obtain rfl : u16 = .bool false := p16
                    exact st_pickv (wanted_none rfl) rfl h16 rfl rfl
                  · intro a w' hE hK hd
                    obtain ⟨u22, h22, p22⟩ := got (hd ⟨22, .data⟩ (by simp) rfl) rfl rfl
                    obtain rfl : u22 = .bool false := p22
                    exact st_assign (wanted_none rfl) rfl h22 rfl
                · intro a w' hE hK hG
                  obtain ⟨u, h23, p23⟩ := got (hG 23 (by decide)) rfl rfl
                  obtain rfl : u = .bool false := p23
                  rename_i K hKK
                  refine hKK a w' (wp_ret ?_)
                  exact bodyPost_ret (results_tmp rfl _ _ _) hK.1 ⟨congrArg Ending.returned (by rw [Array.getD_eq_getD_getElem?, h23]; rfl), HS9.out.ext.trans hE⟩
end Go.Proofs.YtjecjaihficcdaaGreat
namespace Go.Proofs.YtjecjaihficcdaaGreat
def idxI (xs : List Int) (x : Int) : Int := if x ∈ xs then ((xs.idxOf x : Nat) : Int) else -1
end Go.Proofs.YtjecjaihficcdaaGreat
namespace Go.Proofs.YtjecjaihficcdaaGreat.PEquivNext
open Go.RowKit Go.Proofs.YtjecjaihficcdaaGreatW.PrintWords
theorem Index_l0 (xs : List Int) (x : Int) (hb : xs.length ≤ 9223372036854775807) : ∀ n i, i + n = xs.length → Evn (fun k => slices_Index_int_int.l0 k xs x (xs.length : Int) (i : Int)) (if x ∈ xs.drop i then (i : Int) + ((xs.drop i).idxOf x : Nat) else -1) := by
 intro n
 induction n with
 | zero =>
   intro i hi
   exact Evn.succ (g' := fun _ => some (-1)) (fun k => by rw [slices_Index_int_int.l0, if_neg (by omega)]) ((Evn.ret _).to (by rw [List.drop_eq_nil_of_le (by omega)]; simp))
 | succ n ih =>
   intro i hi
   have hil : i < xs.length := by omega
   refine Evn.succ (fun k => by rw [slices_Index_int_int.l0]) (Evn.pos (by omega) (Evn.pos (by omega) (Evn.pos (by omega) ?_)))
   rw [rd_nat xs i hil, wrap64_nat (by omega), List.drop_eq_getElem_cons hil]
   by_cases h : x = xs[i]
   · exact Evn.pos h ((Evn.ret _).to (by rw [← h, if_pos List.mem_cons_self, List.idxOf_cons_self]; simp))
   · refine Evn.neg h ((ih (i + 1) (by omega)).to ?_)
     have e1 : (x ∈ xs[i] :: xs.drop (i + 1)) ↔ x ∈ xs.drop (i + 1) := by rw [List.mem_cons]; exact ⟨fun h' => h'.resolve_left h, .inr⟩
     by_cases h2 : x ∈ xs.drop (i + 1)
     · rw [if_pos h2, if_pos (e1.2 h2), List.idxOf_cons, beq_eq_false_iff_ne.2 (Ne.symm h)]
       simp; omega
     · rw [if_neg h2, if_neg (fun h' => h2 (e1.1 h'))]
theorem Index_f (xs : List Int) (x : Int) (hb : xs.length ≤ 9223372036854775807) : Evn (fun k => slices_Index_int_int.f k xs x) (idxI xs x) := by
 unfold slices_Index_int_int.f idxI
 exact (Index_l0 xs x hb xs.length 0 (by omega)).to (by simp)
theorem Contains_f (xs : List Int) (x : Int) (hb : xs.length ≤ 9223372036854775807) : Evn (fun k => slices_Contains_int_int.f k xs x) (decide (x ∈ xs)) := by
 unfold slices_Contains_int_int.f
 refine Evn.bind (Index_f xs x hb) ((Evn.ret _).to ?_)
 unfold idxI
 rw [decide_eq_decide]
 split
 · rename_i h; exact ⟨fun _ => h, fun _ => by omega⟩
 · rename_i h; exact ⟨fun h' => by omega, fun h' => absurd h' h⟩
end Go.Proofs.YtjecjaihficcdaaGreat.PEquivNext
namespace Go.Proofs.YtjecjaihficcdaaGreat
open Go.RowKit
theorem Index_any (xs : List Int) (x : Int) (v : Value) (w : World) (hr : RI w v xs) : Calls Tryz.prog 128 #[v, .int .i64 x] w fun e w' => e = .returned (.int .i64 (idxI xs x)) ∧ Ext w w' := by
 have hb := hr.max
 obtain ⟨A, c, rfl, h1, h2⟩ := hr.kd
 obtain ⟨K, hK⟩ := PEquivNext.Index_f xs x hb
 refine (PEquivNext.slices_Index_int_int.calls K A c xs x _ w h2 h1 (hK K (Nat.le_refl _))).mono ?_
 rintro e w' ⟨rfl, h⟩
 exact ⟨rfl, drawn_ext h⟩
theorem Contains_any (xs : List Int) (x : Int) (v : Value) (w : World) (hr : RI w v xs) : Calls Tryz.prog 86 #[v, .int .i64 x] w fun e w' => e = .returned (.bool (decide (x ∈ xs))) ∧ Ext w w' := by
 have hb := hr.max
 obtain ⟨A, c, rfl, h1, h2⟩ := hr.kd
 obtain ⟨K, hK⟩ := PEquivNext.Contains_f xs x hb
 refine (PEquivNext.slices_Contains_int_int.calls K A c xs x _ w h2 h1 (hK K (Nat.le_refl _))).mono ?_
 rintro e w' ⟨rfl, h⟩
 exact ⟨rfl, drawn_ext h⟩
end Go.Proofs.YtjecjaihficcdaaGreat
namespace Go.Proofs.YtjecjaihficcdaaGreat
theorem sorted_ext {α : Type} {r : α → α → Prop} (asym : ∀ a b, r a b → r b a → False) : ∀ {l l' : List α}, l.Pairwise r → l'.Pairwise r → (∀ x, x ∈ l ↔ x ∈ l') → l = l'
 | [], [], _, _, _ => rfl
 | [], y :: l', _, _, h => absurd ((h y).2 (by simp)) (by simp)
 | x :: l, [], _, _, h => absurd ((h x).1 (by simp)) (by simp)
 | x :: l, y :: l', h1, h2, h => by
   rw [List.pairwise_cons] at h1 h2
   have exy : x = y := by
    rcases List.mem_cons.1 ((h x).1 (by simp)) with e | e
    · exact e
    · rcases List.mem_cons.1 ((h y).2 (by simp)) with e' | e'
      · exact e'.symm
      · exact (asym _ _ (h2.1 x e) (h1.1 y e')).elim
   subst exy
   have : l = l' := sorted_ext asym h1.2 h2.2 fun z => by
    constructor
    · intro hz
      rcases List.mem_cons.1 ((h z).1 (by simp [hz])) with e | e
      · subst e; exact (asym _ _ (h1.1 z hz) (h1.1 z hz)).elim
      · exact e
    · intro hz
      rcases List.mem_cons.1 ((h z).2 (by simp [hz])) with e | e
      · subst e; exact (asym _ _ (h2.1 z hz) (h2.1 z hz)).elim
      · exact e
   rw [this]
def blt (a b : Int) : Prop := a.natAbs < b.natAbs ∨ (a.natAbs = b.natAbs ∧ a < b)
instance (a b : Int) : Decidable (blt a b) := by unfold blt; infer_instance
theorem blt_asym (a b : Int) (h : blt a b) (k : blt b a) : False := by unfold blt at *; omega
theorem blt_trans {a b c : Int} (h : blt a b) (k : blt b c) : blt a c := by unfold blt at *; omega
theorem blt_tri (a b : Int) : blt a b ∨ a = b ∨ blt b a := by unfold blt; omega
theorem Asc.inj {xs : List Int} (h : Asc xs) {x y : Int} (hx : x ∈ xs) (hy : y ∈ xs) (e : varOf x = varOf y) : x = y := by
 obtain ⟨i, hi, rfl⟩ := List.getElem_of_mem hx
 obtain ⟨j, hj, rfl⟩ := List.getElem_of_mem hy
 rcases Nat.lt_trichotomy i j with h1 | h1 | h1
 · have := h.lt i j h1 hj; omega
 · subst h1; rfl
 · have := h.lt j i h1 hi; omega
def withL : List Int → Int → List Int
 | [], x => [x]
 | y :: l, x => if blt y x then y :: withL l x else if y = x then y :: l else x :: y :: l
theorem mem_withL (l : List Int) (x z : Int) : z ∈ withL l x ↔ z = x ∨ z ∈ l := by
 induction l with
 | nil => simp [withL]
 | cons y l ih =>
   unfold withL
   split
   · rw [List.mem_cons, ih, List.mem_cons]
     constructor
     · rintro (h | h | h)
       · exact .inr (.inl h)
       · exact .inl h
       · exact .inr (.inr h)
     · rintro (h | h | h)
       · exact .inr (.inl h)
       · exact .inl h
       · exact .inr (.inr h)
   · split
     · rename_i h; subst h
       constructor
       · exact .inr
       · rintro (h | h)
         · rw [h]; exact List.mem_cons_self
         · exact h
     · rw [List.mem_cons]
theorem withL_sorted {l : List Int} (x : Int) (h : l.Pairwise blt) : (withL l x).Pairwise blt := by
 induction l with
 | nil => simp [withL]
 | cons y l ih =>
   rw [List.pairwise_cons] at h
   unfold withL
   split
   · rename_i hyx
     rw [List.pairwise_cons]
     refine ⟨fun z hz => ?_, ih h.2⟩
     rcases (mem_withL l x z).1 hz with rfl | hz
     · exact hyx
     · exact h.1 z hz
   · split
     · exact List.pairwise_cons.2 h
     · rename_i h1 h2
       have hxy : blt x y := by
        rcases blt_tri x y with h3 | h3 | h3
        · exact h3
        · exact absurd h3.symm h2
        · exact absurd h3 h1
       refine List.pairwise_cons.2 ⟨fun z hz => ?_, List.pairwise_cons.2 h⟩
       rcases List.mem_cons.1 hz with rfl | hz
       · exact hxy
       · exact blt_trans hxy (h.1 z hz)
theorem withL_len (l : List Int) (x : Int) : (withL l x).length ≤ l.length + 1 := by
 induction l with
 | nil => simp [withL]
 | cons y l ih =>
   unfold withL
   split
   · simpa using ih
   · split <;> simp
def setL (base l : List Int) : List Int := l.foldl withL base
theorem mem_setL (l : List Int) : ∀ (base : List Int) (z : Int), z ∈ setL base l ↔ z ∈ base ∨ z ∈ l := by
 induction l with
 | nil => intro base z; simp [setL]
 | cons x l ih =>
   intro base z
   show z ∈ setL (withL base x) l ↔ _
   rw [ih, mem_withL, List.mem_cons]
   constructor
   · rintro ((h | h) | h)
     · exact .inr (.inl h)
     · exact .inl h
     · exact .inr (.inr h)
   · rintro (h | h | h)
     · exact .inl (.inr h)
     · exact .inl (.inl h)
     · exact .inr h
theorem setL_sorted (l : List Int) : ∀ {base : List Int}, base.Pairwise blt → (setL base l).Pairwise blt := by
 induction l with
 | nil => intro base h; exact h
 | cons x l ih => intro base h; exact ih (withL_sorted x h)
theorem setL_len (l : List Int) : ∀ (base : List Int), (setL base l).length ≤ base.length + l.length := by
 induction l with
 | nil => intro base; simp [setL]
 | cons x l ih =>
   intro base
   have h1 := ih (withL base x)
   have h2 := withL_len base x
   show (setL (withL base x) l).length ≤ _
   simp only [List.length_cons]; omega
theorem Asc.tail {x : Int} {a : List Int} (h : Asc (x :: a)) : Asc a := ⟨(List.pairwise_cons.1 h.1).2, fun z hz => h.2 z (by simp [hz])⟩
theorem Asc.head {x : Int} {a : List Int} (h : Asc (x :: a)) : 0 < varOf x ∧ ∀ z ∈ a, varOf x < varOf z := ⟨h.2 x (by simp), (List.pairwise_cons.1 h.1).1⟩
theorem Asc.nil : Asc [] := ⟨List.Pairwise.nil, fun _ h => by cases h⟩
theorem Asc.cons {x : Int} {a : List Int} (h : Asc a) (h0 : 0 < varOf x) (h1 : ∀ z ∈ a, varOf x < varOf z) : Asc (x :: a) :=
 ⟨List.pairwise_cons.2 ⟨h1, h.1⟩, fun z hz => by rcases List.mem_cons.1 hz with rfl | hz; exact h0; exact h.2 z hz⟩
end Go.Proofs.YtjecjaihficcdaaGreat
namespace Go.Proofs.YtjecjaihficcdaaGreat
open Go.RowKit
def subB (xs ys : List Int) : Bool := mayB xs && mayB ys && xs.all fun x => decide (x ∈ ys)
theorem subB_iff {xs ys : List Int} : subB xs ys = true ↔ mayB xs = true ∧ mayB ys = true ∧ ∀ x ∈ xs, x ∈ ys := by
 unfold subB
 simp [and_assoc]
section
variable {x : Int} {xs zs : List Int}
theorem sub_none (h : ∀ j (hj : j < zs.length), ¬ varOf x ≤ varOf zs[j]) : ((x :: xs).all fun y => decide (y ∈ zs)) = false := by
 rw [List.all_cons, Bool.and_eq_false_iff]
 left
 rw [decide_eq_false_iff_not]
 intro hm
 obtain ⟨j, hj, e⟩ := List.getElem_of_mem hm
 have := h j hj
 rw [e] at this
 omega
theorem sub_ne (hz : Asc zs) {j : Nat} (hj : j < zs.length) (h1 : varOf x ≤ varOf zs[j]) (h2 : ∀ i (hi : i < j), ¬ varOf x ≤ varOf (zs[i]'(by omega))) (hne : zs[j] ≠ x) : ((x :: xs).all fun y => decide (y ∈ zs)) = false := by
 rw [List.all_cons, Bool.and_eq_false_iff]
 left
 rw [decide_eq_false_iff_not]
 intro hm
 obtain ⟨i, hi, e⟩ := List.getElem_of_mem hm
 rcases Nat.lt_trichotomy i j with h | h | h
 · have := h2 i h
   rw [e] at this
   omega
 · subst h; exact hne e
 · have := hz.lt j i h hi
   rw [e] at this
   omega
theorem sub_eq (hz : Asc zs) (hx : Asc (x :: xs)) {j : Nat} (hj : j < zs.length) (he : zs[j] = x) : ((x :: xs).all fun y => decide (y ∈ zs)) = xs.all fun y => decide (y ∈ zs.drop (j + 1)) := by
 rw [List.all_cons, decide_eq_true (show x ∈ zs from he ▸ List.getElem_mem hj), Bool.true_and, Bool.eq_iff_iff, List.all_eq_true, List.all_eq_true]
 refine forall_congr' fun y => forall_congr' fun hy => ?_
 rw [decide_eq_true_eq, decide_eq_true_eq]
 refine ⟨fun h => ?_, fun h => List.mem_of_mem_drop h⟩
 obtain ⟨i, hi, e⟩ := List.getElem_of_mem h
 have hv := hx.head.2 y hy
 have hij : j < i := by
  rcases Nat.lt_trichotomy i j with h3 | h3 | h3
  · have := hz.lt i j h3 hj
    rw [e, he] at this; omega
  · subst h3
    have : y = x := e.symm.trans he
    rw [this] at hv; omega
  · exact h3
 rw [List.mem_drop_iff_getElem]
 exact ⟨i - (j + 1), by omega, by rw [← e]; congr 1; omega⟩
theorem Asc.drop (hz : Asc zs) (j : Nat) : Asc (zs.drop j) := ⟨hz.1.drop, fun y hy => hz.2 y (List.mem_of_mem_drop hy)⟩
end
theorem RI.dropN {w : World} {A : Option Addr} {c : Nat} {zs : List Int} (h : RI w (.slice A zs.length c) zs) (k : Nat) (hk : k ≤ zs.length) : RI w (.slice (if c - k = 0 then A else A.map (·.add k)) (zs.length - k) (c - k)) (zs.drop k) := by
 obtain ⟨-, h1, h2, h3⟩ := h.row
 refine ⟨_, _, by rw [List.length_drop], by rw [List.length_drop]; omega, by rw [List.length_drop]; omega, fun j hj => ?_⟩
 rw [List.length_map, List.length_drop] at hj
 rw [if_neg (by omega)]
 obtain ⟨ad, rfl, hc⟩ := h3 (k + j) (by rw [List.length_map]; omega)
 refine ⟨ad.add k, rfl, ?_⟩
 rw [show (ad.add k).add j = ad.add (k + j) by unfold Addr.add; split <;> split <;> split <;> simp_all <;> omega, hc]
 simp
set_option maxHeartbeats 400000 in
theorem sub1_fn (x y : Int) (hx : I64 x) (hy : I64 y) (g : Nat) (w : World) (hc : w.cell? ⟨g, 0, none⟩ = some (.int .i64 x)) :
 Calls Tryz.prog 155 #[.int .i64 y, .pointer (some ⟨g, 0, none⟩)] w fun e w' => e = .returned (.bool (decide (varOf x ≤ varOf y))) ∧ ∃ n, w' = w.drewN n := by
 go_enter Tryz.func155, Tryz.ntmps155
 go_wp2
 go_quiet ((first | (go_at_call_of 36 (Value.int .i64 y); exact quiet_same (var_any y hy _)) | (go_at_call_of 36 (Value.int .i64 x); exact quiet_same (var_any x hx _))))
 go_wp2
 go_ret
 exact ⟨rfl, _, rfl⟩
theorem fv_sub1 : Fv Tryz.prog 155 := ⟨_, Tryz.func155, by kernel_rfl, by kernel_rfl⟩
set_option maxHeartbeats 2000000 in
theorem Sub_any (xs ys : List Int) (v u : Value) (w : World) (h64 : All64 xs) (k64 : All64 ys) (hr : RI w v xs) (kr : RI w u ys) :
 Calls Tryz.prog 109 #[v, u] w fun e w' => e = .returned (.bool (subB xs ys)) ∧ Ext w w' := by
 generalize hbb : subB xs ys = bb
 have HBB := Lib.hid hbb
 have HX := Lib.hid (may_any v xs w hr h64)
 have HY := Lib.hid (may_any u ys w kr k64)
 have HR := Lib.hid hr
 have KR := Lib.hid kr
 unfold subB at hbb
 obtain ⟨A, c, rfl, h1, h2, h3⟩ := hr
 obtain ⟨B, d, rfl, k1, k2, k3⟩ := kr
 clear h3 k3
 cases hm : mayB xs
 · rw [hm] at HX hbb
   have HB0 : Hid (bb = false) := Lib.hid (by rw [← hbb]; rfl)
   clear hbb hm
   go_enter Tryz.func109, Tryz.ntmps109
   go_wp2_with (go_at_call 76; refine HX.out.mono ?_; rintro e w' ⟨rfl, rfl⟩)
   go_ret
   exact ⟨ret_bool HB0.out.symm, Ext.refl _⟩
 cases km : mayB ys
 · rw [hm] at HX
   rw [km] at HY
   rw [hm, km] at hbb
   have HB0 : Hid (bb = false) := Lib.hid (by rw [← hbb]; rfl)
   clear hbb hm km
   go_enter Tryz.func109, Tryz.ntmps109
   go_wp2_with (first
    | (go_at_call_of 76 (Value.slice A xs.length c); refine HX.out.mono ?_; rintro e w' ⟨rfl, rfl⟩)
    | (go_at_call_of 76 (Value.slice B ys.length d); refine HY.out.mono ?_; rintro e w' ⟨rfl, rfl⟩))
   go_ret
   exact ⟨ret_bool HB0.out.symm, Ext.refl _⟩
 rw [hm] at HX
 rw [km] at HY
 rw [hm, km] at hbb
 have HBA : Hid ((xs.all fun x => decide (x ∈ ys)) = bb) := Lib.hid (by rw [← hbb]; rfl)
 have HMX := Lib.hid ((mayB_iff xs).1 hm)
 have HMY := Lib.hid ((mayB_iff ys).1 km)
 clear hbb hm km
 go_enter Tryz.func109, Tryz.ntmps109
 go_wp2_with (first
  | (go_at_call_of 76 (Value.slice A xs.length c); refine HX.out.mono ?_; rintro e w' ⟨rfl, rfl⟩)
  | (go_at_call_of 76 (Value.slice B ys.length d); refine HY.out.mono ?_; rintro e w' ⟨rfl, rfl⟩))
 go_loopg [1, 18] xs.length (fun gn b i wr => ∃ (k : Nat) (zs : List Int) (Z : Option Addr) (cz : Nat), k ≤ xs.length ∧ gn + k = xs.length ∧ i = .int .i64 k ∧ b = .slice Z zs.length cz ∧ Hid (RI wr (.slice Z zs.length cz) zs ∧ Ext w wr ∧ Asc zs ∧ All64 zs ∧ ((xs.drop k).all fun x => decide (x ∈ zs)) = bb))
 case atStart => exact ⟨0, ys, B, d, Nat.zero_le _, by omega, rfl, rfl, KR.out, Ext.refl _, HMY.out, k64, HBA.out⟩
 case round =>
  obtain ⟨k, zs, Z, cz, hk, hgk, rfl, rfl, HI⟩ := hrel
  obtain ⟨wk, rfl⟩ : ∃ wk : World, wk = wr := ⟨_, rfl⟩
  by_cases hlt : k < xs.length
  · obtain ⟨ad, rfl, hx0⟩ := (HR.out.ext HI.out.2.1).row.2.2.2.int k hlt
    obtain ⟨x, hx⟩ : ∃ x, x = xs[k] := ⟨_, rfl⟩
    rw [← hx] at hx0
    have hdr : xs.drop k = x :: xs.drop (k + 1) := by rw [hx]; exact List.drop_eq_getElem_cons hlt
    have hx64 : I64 x := hx ▸ h64 _ (List.getElem_mem hlt)
    have HDR := Lib.hid hdr
    clear hdr hx
    have hzl := HI.out.2.2.1.len
    have hix : ∀ w' : World, RI w' (.slice Z zs.length cz) zs → w'.cell? ⟨wk.heap.size, 0, none⟩ = some (.int .i64 x) → Calls Tryz.prog 87 #[.slice Z zs.length cz, .func (.func 155) #[] #[.pointer (some ⟨wk.heap.size, 0, none⟩)]] w' fun e w'' => ∃ r : Int, e = .returned (.int .i64 r) ∧ Ext w' w'' ∧ IdxOf (fun j => decide (varOf x ≤ varOf (zs.getD j 0))) zs.length r := fun w' hrr hcc => by
     obtain ⟨-, g1, g2, g3⟩ := hrr.row
     have := indexFuncI 155 #[.pointer (some ⟨wk.heap.size, 0, none⟩)] fv_sub1 Z cz (zs.map (Value.int .i64)) (by rw [List.length_map]; exact g2) (fun j => decide (varOf x ≤ varOf (zs.getD j 0))) (fun _ w'' => Ext w' w'') w'
      (fun _ w'' hw => g3.ext hw)
      (fun j hj w'' hw => by
       have hj' : j < zs.length := by simpa using hj
       rw [List.getElem_map]
       refine (sub1_fn x zs[j] hx64 (HI.out.2.2.2.1 _ (List.getElem_mem hj')) wk.heap.size w'' (hw.cell hcc)).mono ?_
       rintro e w3 ⟨rfl, n, rfl⟩
       exact ⟨by rw [show zs.getD j 0 = zs[j] by simp [hj']], hw.trans (Ext.drewN _ _)⟩)
      (Ext.refl _)
     rw [List.length_map] at this
     refine this.mono ?_
     rintro e w'' ⟨r, rfl, hs⟩
     rcases hs with ⟨j, hj, hp, hn, rfl, hE⟩ | ⟨hn, rfl, hE⟩
     · exact ⟨_, rfl, hE, .inl ⟨j, hj, hp, hn, rfl⟩⟩
     · exact ⟨_, rfl, hE, .inr ⟨hn, rfl⟩⟩
    have HIX := Lib.hid hix
    clear hix
    go_upto_region 6 with fail
    generalize hW : wk.alloc _ = W1
    have HE1 : Hid (Ext wk W1) := Lib.hid (hW ▸ Ext.alloc _ _)
    have a5 : W1.cell? ⟨wk.heap.size, 0, none⟩ = some (.int .i64 x) := hW ▸ (Var1.new wk 3 (.int .i64 x)).cell
    have HZ1 := Lib.hid (HI.out.1.ext HE1.out)
    have HA5 := Lib.hid a5
    clear hW
    go_upto_region 7 with (go_at_call 87; refine (HIX.out W1 HZ1.out HA5.out).mono ?_; rintro e w2 ⟨r, rfl, hE, hs⟩; have HE2 := Lib.hid hE; have HS := Lib.hid hs; clear hE hs)
    have a6 := HE2.out.cell HA5.out
    have HE3 : Hid (Ext w w2) := Lib.hid (HI.out.2.1.trans (HE1.out.trans HE2.out))
    have HZ2 := Lib.hid (HZ1.out.ext HE2.out)
    clear a5
    rcases HS.out with ⟨j, hj, hp, hn, rfl⟩ | ⟨hn, rfl⟩
    · obtain ⟨az, rfl, hz0⟩ := HZ2.out.row.2.2.2.int j hj
      obtain ⟨z, hz⟩ : ∃ z, z = zs[j] := ⟨_, rfl⟩
      rw [← hz] at hz0
      have hjn : decide ((j : Int) < 0) = false := by rw [decide_eq_false_iff_not]; omega
      by_cases hzx : z = x
      · subst hzx
        have hxx : (z != z) = false := by simp
        have HNX := Lib.hid (sub_eq HI.out.2.2.1 (HDR.out ▸ HMX.out.drop k) hj hz.symm)
        have HSL := Lib.hid (HZ2.out.dropN (j + 1) (by omega))
        have hsc := HZ2.out.row.2.1
        clear hp hn
        go_quiet (fail)
        have HE4 := fun n => Lib.hid (HE3.out.trans (Ext.drewN w2 n))
        have HSM := fun n => Lib.hid (HSL.out.ext (Ext.drewN w2 n))
        clear HSL
        go_wp2
        all_goals
         go_roundg (xs.length - (k + 1))
         case measure => omega
         case rel =>
          refine ⟨k + 1, zs.drop (j + 1), _, _, by omega, by omega, by go_num, by rw [List.length_drop], ?_, (HE4 _).out, HI.out.2.2.1.drop _, fun y hy => HI.out.2.2.2.1 y (List.mem_of_mem_drop hy), ?_⟩
          · have := (HSM ‹Nat›).out
            rw [List.length_drop]
            first
             | (rw [if_pos (by omega), show cz - (j + 1) = 0 by omega] at this; exact this)
             | (rw [if_neg (by omega)] at this; exact this)
          · rw [← HNX.out, ← HDR.out, HI.out.2.2.2.2]
      · have hxx : (z != x) = true := by simpa using hzx
        have HF := Lib.hid (sub_ne (x := x) (xs := xs.drop (k + 1)) HI.out.2.2.1 hj (by simpa [hj] using hp) (fun i hi => by have := hn i hi; rw [decide_eq_false_iff_not] at this; rwa [show zs.getD i 0 = zs[i]'(by omega) by simp [show i < zs.length by omega]] at this) (fun e => hzx (hz.trans e)))
        clear hn hp
        go_quiet (fail)
        go_wp2
        go_ret
        exact ⟨ret_bool (by rw [← HI.out.2.2.2.2, HDR.out, HF.out]), HE3.out.trans (Ext.drewN _ _)⟩
    · have HF := Lib.hid (sub_none (x := x) (xs := xs.drop (k + 1)) (zs := zs) (fun j hj => by have := hn j hj; rw [decide_eq_false_iff_not] at this; rwa [show zs.getD j 0 = zs[j] by simp [hj]] at this))
      clear hn
      go_quiet (fail)
      go_wp2
      go_ret
      exact ⟨ret_bool (by rw [← HI.out.2.2.2.2, HDR.out, HF.out]), HE3.out.trans (Ext.drewN _ _)⟩
  · obtain rfl : k = xs.length := by omega
    have hb := HI.out.2.2.2.2
    rw [List.drop_length] at hb
    have HB := Lib.hid hb
    clear hb
    go_wp2
    go_ret
    exact ⟨ret_bool (by rw [← HB.out]; rfl), HI.out.2.1⟩
end Go.Proofs.YtjecjaihficcdaaGreat
namespace Go.Proofs.YtjecjaihficcdaaGreat
structure ChV where
 kind : Int
 lit : Int
 tz : Int
 pos : Int
 other : Int
def DqV.deps (d : DqV) (v : Int) : Option (List Int) := (d.exist.find? fun x => decide (x.1 = v)).map Prod.snd
def DqV.row (d : DqV) (i : Nat) : List Int := d.clauses.getD i []
def allowP (d : DqV) (x tz : Int) : Bool :=
 match d.deps x with
 | none => false
 | some on => !decide (varOf tz = x) && (match d.deps (varOf tz) with | some mine => subB mine on | none => decide (varOf tz ∈ on))
def hasR (d : DqV) (i x y : Int) : Bool := decide (0 ≤ i) && decide (i < d.clauses.length) && decide ((d.row i.toNat).length = 2) && decide (x ∈ d.row i.toNat) && decide (y ∈ d.row i.toNat)
theorem deps_mem {d : DqV} {v : Int} {on : List Int} (h : d.deps v = some on) : (v, on) ∈ d.exist := by
 unfold DqV.deps at h
 obtain ⟨x, hx, rfl⟩ := Option.map_eq_some_iff.1 h
 have h1 := List.find?_some hx
 have h2 := List.mem_of_find?_eq_some hx
 have h3 : x.1 = v := by simpa using h1
 rw [← h3]
 exact h2
theorem mayD_parts {d : DqV} (h : mayD d = true) : (∀ x ∈ d.exist, x.1 ∉ d.univ ∧ risesB x.2 = true ∧ ∀ v ∈ x.2, v ∈ d.univ) ∧ mayCnfB d.clauses = true := by
 unfold mayD at h
 simp only [Bool.and_eq_true, List.all_eq_true (l := d.exist), Bool.not_eq_true', decide_eq_false_iff_not] at h
 obtain ⟨⟨⟨⟨⟨h1, -⟩, -⟩, -⟩, h5⟩, -⟩ := h
 exact ⟨fun x hx => ⟨(h1 x hx).1.1, (h1 x hx).1.2, fun v hv => by simpa using List.all_eq_true.1 (h1 x hx).2 v hv⟩, h5⟩
theorem row_may {d : DqV} (h : mayD d = true) (i : Nat) (hi : i < d.clauses.length) : mayB (d.row i) = true := by
 unfold DqV.row
 rw [getD_of _ i hi]
 exact mayCnfB_get (mayD_parts h).2 i hi
theorem hasR_lit {d : DqV} (h : mayD d = true) {i x y : Int} (hh : hasR d i x y = true) : varOf x ≠ 0 ∧ varOf y ≠ 0 := by
 unfold hasR at hh
 simp only [Bool.and_eq_true, decide_eq_true_eq] at hh
 obtain ⟨⟨⟨⟨h1, h2⟩, -⟩, h4⟩, h5⟩ := hh
 have hm := ((mayB_iff _).1 (row_may h i.toNat (by omega))).2
 exact ⟨by have := hm x h4; omega, by have := hm y h5; omega⟩
def pairP (d : DqV) (c : List Int) (i b : Nat) : Option ChV :=
 [0, 1].findSome? fun j => if (decide (0 < -(c.getD j 0)) && allowP d (-(c.getD j 0)) (c.getD (1 - j) 0)) = true then some ⟨6, -(c.getD j 0), c.getD (1 - j) 0, i, b⟩ else none
def firstIdx (d : DqV) (key : List Int) : Option Nat := (List.range d.clauses.length).find? fun k => decide (d.row k = key)
def stepP (d : DqV) (i : Nat) : Option ChV :=
 if (d.row i).length = 2 then (firstIdx d [-((d.row i).getD 0 0), -((d.row i).getD 1 0)]).bind fun b => pairP d (d.row i) i b else none
def nextP (d : DqV) : Option ChV := if mayD d = true then (List.range d.clauses.length).findSome? fun i => stepP d i else none
theorem two_of {c : List Int} (h : c.length = 2) : ∃ x y, c = [x, y] := by
 match c, h with
 | [x, y], _ => exact ⟨x, y, rfl⟩
end Go.Proofs.YtjecjaihficcdaaGreat
