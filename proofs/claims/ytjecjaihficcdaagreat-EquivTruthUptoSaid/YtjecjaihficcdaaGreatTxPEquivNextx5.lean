/- Words and contracts of printed texts, cut to what this claim uses. -/
import Derived.Test.YtjecjaihficcdaaGreatTxPEquivNextx0
import Derived.Test.YtjecjaihficcdaaGreatTxB
import Derived.Test.YtjecjaihficcdaaGreatTxA
import Derived.Deep.QuietTactic
import Derived.BigQuiet
import Derived.BigRegion
namespace Go.Proofs.YtjecjaihficcdaaGreat
open Go.RowKit
theorem refAbs_any (x : Int) (hx : x.natAbs ≤ 65536) (w : World) : Calls Tryz.prog 121 #[.int .i64 x] w fun e w' => e = .returned (.int .i64 (x.natAbs : Int)) ∧ w = w' := by
 have h0 : wrap64 (-x) = -x := wrap64_id (by omega) (by omega)
 by_cases h : x < 0
 · have e1 : (x.natAbs : Int) = -x := by omega
   rw [e1]
   go_enter Tryz.func121, Tryz.ntmps121
   go_wp2
   go_ret
   exact ⟨rfl, rfl⟩
 · have e1 : (x.natAbs : Int) = x := by omega
   rw [e1]
   go_enter Tryz.func121, Tryz.ntmps121
   go_wp2
   go_ret
   exact ⟨rfl, rfl⟩
theorem mayFrom_cons (last x : Int) (c : List Int) : mayFrom last (x :: c) = if varOf x ≤ last then false else mayFrom (varOf x) c := rfl
set_option maxRecDepth 100000 in
set_option maxHeartbeats 8000000 in
theorem refNormal_any (xs : List Int) (v : Value) (w : World) (hr : RI w v xs) : Calls Tryz.prog 120 #[v] w fun e w' => e = .returned (.bool (mayB xs)) ∧ Ext w w' := by
 have HR := Lib.hid hr
 obtain ⟨A, c, rfl, h1, h2, -⟩ := hr
 obtain ⟨n, hn⟩ : ∃ n, n = xs.length := ⟨_, rfl⟩
 have HN := Lib.hid hn
 rw [← hn] at h1 h2 HR ⊢
 clear hn
 have HM : Hid (mayB xs = mayFrom 0 (xs.drop 0)) := Lib.hid rfl
 generalize mayB xs = R at HM
 go_enter Tryz.func120, Tryz.ntmps120
 go_wp2
 go_loopg [3] n (fun gn i wr => ∃ k : Nat, k ≤ n ∧ gn + k = n ∧ i = .int .i64 k ∧ Hid (Ext w wr) ∧ ((k = 0 ∧ Hid (R = mayFrom 0 (xs.drop 0))) ∨ (0 < k ∧ ∃ y : Int, varOf y ≠ 0 ∧ Hid (xs.getD (k - 1) 0 = y) ∧ Hid (R = mayFrom (varOf y) (xs.drop k)))))
 case atStart => exact ⟨0, Nat.zero_le _, by omega, rfl, Lib.hid (Ext.refl _), .inl ⟨rfl, HM⟩⟩
 case round =>
  obtain ⟨k, hk, hgk, rfl, HE, hst⟩ := hrel
  obtain ⟨w2, rfl⟩ : ∃ w2 : World, w2 = wr := ⟨_, rfl⟩
  by_cases hlt : k < n
  · have hkx : k < xs.length := by rw [← HN.out]; exact hlt
    obtain ⟨ad, rfl, hc⟩ := (HR.out.ext HE.out).row.2.2.2.int k hkx
    obtain ⟨x, hx⟩ : ∃ x, x = xs[k] := ⟨_, rfl⟩
    have HD : Hid (xs.drop k = x :: xs.drop (k + 1)) := Lib.hid (by rw [List.drop_eq_getElem_cons hkx, hx])
    have HG : Hid (xs.getD (k + 1 - 1) 0 = x) := Lib.hid (by rw [hx]; simp [List.getD_eq_getElem?_getD, List.getElem?_eq_getElem hkx])
    rw [← hx] at hc
    clear hx
    have hrng : 0 ≤ varOf x := by have := varOf_range x; omega
    by_cases hv : varOf x = 0
    · have HF : Hid (R = false) := Lib.hid (by
       rcases hst with ⟨rfl, h⟩ | ⟨-, y, hy, -, h⟩
       · have := HD.out
         rw [h.out, this, mayFrom_cons, if_pos (by omega)]
       · have := varOf_range y
         rw [h.out, HD.out, mayFrom_cons, if_pos (by omega)])
      have hcases : x = 0 ∨ x < -65536 ∨ 65536 < x := by
       unfold varOf at hv
       split at hv <;> omega
      clear hst hv hrng HG HD
      rcases hcases with rfl | hx1 | hx2
      · go_wp2
        go_quiet (fail)
        go_wp2
        go_ret
        exact ⟨(congrArg (fun b : Bool => Ending.returned (Value.bool b)) HF.out).symm, HE.out.trans (Ext.drewN _ _)⟩
      · have b1 : (x == 0) = false := by simp; omega
        have b2 : decide (x < -65536) = true := decide_eq_true hx1
        go_wp2
        go_quiet (fail)
        go_wp2
        go_ret
        exact ⟨(congrArg (fun b : Bool => Ending.returned (Value.bool b)) HF.out).symm, HE.out.trans (Ext.drewN _ _)⟩
      · have b1 : (x == 0) = false := by simp; omega
        have b2 : decide (x < -65536) = false := decide_eq_false (by omega)
        have b3 : decide (x > 65536) = true := decide_eq_true hx2
        go_wp2
        go_quiet (fail)
        go_wp2
        go_ret
        exact ⟨(congrArg (fun b : Bool => Ending.returned (Value.bool b)) HF.out).symm, HE.out.trans (Ext.drewN _ _)⟩
    · have hve := varOf_eq hv
      have hvr := varOf_range x
      have b1 : (x == 0) = false := by simpa using hve.2
      have b2 : decide (x < -65536) = false := decide_eq_false (by omega)
      have b3 : decide (x > 65536) = false := decide_eq_false (by omega)
      have hab : x.natAbs ≤ 65536 := by omega
      have HV := Lib.hid hv
      rcases hst with ⟨rfl, hst⟩ | ⟨hk0, y, hy, HY, hst⟩
      · have HNX : Hid (R = mayFrom (varOf x) (xs.drop (0 + 1))) := Lib.hid (by have := HD.out; rw [hst.out, this, mayFrom_cons, if_neg (by omega)])
        clear hst hve hv hrng hvr
        have g0 : decide ((0 : Int) > 0) = false := by decide
        have g1 : decide (((0 : Nat) : Int) > 0) = false := by decide
        have g2 : ¬ ((0 : Nat) : Int) > 0 := by decide
        have hc0 : w2.cell? ad = some (.int .i64 x) := by have := hc; rwa [show ad.add 0 = ad by simp [Addr.add]] at this
        go_wp2
        go_quiet (fail)
        go_wp2
        go_roundg (n - (0 + 1))
        case measure => omega
        case rel => exact ⟨0 + 1, by omega, by omega, by go_num, Lib.hid (HE.out.trans (Ext.drewN _ _)), .inr ⟨by omega, x, HV.out, HG, HNX⟩⟩
      · have hk1 : k - 1 < xs.length := by omega
        have hye := varOf_eq hy
        have hyr := varOf_range y
        have haby : y.natAbs ≤ 65536 := by omega
        obtain ⟨ad', had, hcy⟩ := (HR.out.ext HE.out).row.2.2.2.int (k - 1) hk1
        cases had
        have hyg : xs[k - 1] = y := by have := HY.out; rw [List.getD_eq_getElem?_getD, List.getElem?_eq_getElem hk1] at this; simpa using this
        rw [hyg] at hcy
        have hkm : wrap64 ((k : Int) - 1) = ((k - 1 : Nat) : Int) := by rw [wrap64_id (by omega) (by omega)]; omega
        have hkg : (k : Int) > 0 := by omega
        clear hyg
        by_cases hge : varOf x ≤ varOf y
        · have HF : Hid (R = false) := Lib.hid (by rw [hst.out, HD.out, mayFrom_cons, if_pos hge])
          have hgb : decide ((y.natAbs : Int) ≥ (x.natAbs : Int)) = true := decide_eq_true (by omega)
          have hgn : x.natAbs ≤ y.natAbs := by omega
          clear hst hve hv hrng hvr hye hyr hy HD HG
          go_wp2
          go_quiet ((first | (go_at_call_of 121 (Value.int .i64 x); exact quiet_same (refAbs_any x hab _)) | (go_at_call_of 121 (Value.int .i64 y); exact quiet_same (refAbs_any y haby _))))
          go_wp2
          go_ret
          exact ⟨(congrArg (fun b : Bool => Ending.returned (Value.bool b)) HF.out).symm, HE.out.trans (Ext.drewN _ _)⟩
        · have HNX : Hid (R = mayFrom (varOf x) (xs.drop (k + 1))) := Lib.hid (by rw [hst.out, HD.out, mayFrom_cons, if_neg hge])
          have hgb : decide ((y.natAbs : Int) ≥ (x.natAbs : Int)) = false := decide_eq_false (by omega)
          have hgn : ¬ x.natAbs ≤ y.natAbs := by omega
          clear hst hve hv hrng hvr hye hyr hy HD
          go_wp2
          go_quiet ((first | (go_at_call_of 121 (Value.int .i64 x); exact quiet_same (refAbs_any x hab _)) | (go_at_call_of 121 (Value.int .i64 y); exact quiet_same (refAbs_any y haby _))))
          go_wp2
          go_roundg (n - (k + 1))
          case measure => omega
          case rel => exact ⟨k + 1, by omega, by omega, by go_num, Lib.hid (HE.out.trans (Ext.drewN _ _)), .inr ⟨by omega, x, HV.out, HG, HNX⟩⟩
  · obtain rfl : k = n := by omega
    have HF : Hid (R = true) := Lib.hid (by
     rcases hst with ⟨rfl, h⟩ | ⟨-, y, hy, -, h⟩
     · rw [h.out, List.drop_eq_nil_of_le (by have := HN.out; omega)]; rfl
     · rw [h.out, List.drop_eq_nil_of_le (by have := HN.out; omega)]; rfl)
    clear hst
    go_wp2
    go_ret
    exact ⟨(congrArg (fun b : Bool => Ending.returned (Value.bool b)) HF.out).symm, HE.out⟩
end Go.Proofs.YtjecjaihficcdaaGreat
namespace Go.Proofs.YtjecjaihficcdaaGreat.PEquivNext
open Go.RowKit Go.Proofs.YtjecjaihficcdaaGreatW.PrintWords
def skolemref03_Normal.f (_ : Nat) (l0 : List Int) : Option Bool := some (mayB l0)
theorem skolemref03_Normal.calls (k : Nat) (A0 : Option Addr) (c0 : Nat) (l0 : List Int) (r : Bool) (w : World) (hr0 : Kd.C (Kd.int .i64) w A0 l0.length l0) (hc0 : l0.length ≤ c0) (h : skolemref03_Normal.f k l0 = some r) :
 Calls Tryz.prog 120 #[.slice A0 l0.length c0] w fun e w' => e = .returned (.bool r) ∧ Below w.heap.size w w' := by
 injection h with h
 subst h
 exact refNormal_any l0 _ w (kd_RI hr0 hc0)
end Go.Proofs.YtjecjaihficcdaaGreat.PEquivNext
