/- Walks and plain laws that this claim uses. -/
import Derived.Test.YtjecjaihficcdaaGreatRxJ
import Derived.Test.YtjecjaihficcdaaGreatRxA
import Derived.Test.YtjecjaihficcdaaGreatRxC
import Derived.Deep.Cut
import Derived.Deep.AppendLies
import Derived.Deep.RegionLaw
namespace Go.Proofs.YtjecjaihficcdaaGreat
open Go.RowKit
theorem fv_refCompare : Fv Tryz.prog 97 := ⟨_, Tryz.func97, by kernel_rfl, by kernel_rfl⟩
theorem cmp_one (a b : Int) : cmpL [a] [b] = ordB a b := by
 simp only [cmpL]
 split <;> simp_all
theorem step_app_I {ops : Array Oper} {o : Oper} {a : Act} {K : Act → World → Prop} {Q : Exit → Act → World → Prop} {E : Prop} {w : World} (hgd : o.guard = none) (s x : Operand)
 (ho : o.op = .call { callee := .builtin .append, args := #[s, x], argTypes := #[24, 24] })
 (base : Nat) (xs ys : List Int) {v u : Value} (hs : a.eval s = v) (hx : a.eval x = u) (hown : OwnI w base v xs) (hsrc : RI w u ys) (hl : xs.length + ys.length ≤ 10000000) (hbase : base ≤ w.heap.size)
 (h : ∀ v' w', OwnI w' base v' (xs ++ ys) → w.grownBy w' v.ownBlock → K (a.put o.dst v') w') :
 if Region.wanted o (yielded ops a.tmps) = true then Oper.wp Tryz.prog o a w K Q else E := by
 have hw : Region.wanted o (yielded ops a.tmps) = true := by simp [Region.wanted, hgd]
 rw [if_pos hw]
 obtain ⟨i0, hi, hz0, hz1, hz2⟩ := info_parts info_int
 obtain ⟨A, c, rfl, h1, h2, h3⟩ := hsrc
 cases A with
 | none =>
   have h4 := h3.nil
   have h5 : ys = [] := by simpa using h4
   subst h5
   have hrun := run_append_none (ty := o.type) Tryz.underlying24 hi hown c
   unfold Oper.wp
   simp [execOp, ho, resolve, invoke, builtin, hs, hx, hrun, Result.andThen]
   exact h v w (by rw [List.append_nil]; exact hown) ⟨rfl, rfl, rfl, Nat.le_refl _, fun _ _ _ => rfl⟩
 | some ad =>
   refine wp_append_own w s x 24 ho base 3 i0 (.int .i64 0) 1 8 Tryz.underlying24 hi hz0 hz1 hz2 rfl (by decide) v xs.length (xs.map (Value.int .i64)) hs hown ad ys.length c (ys.map (Value.int .i64)) hx (by simp) h3.cells (by simp [Value.oneCell']) (by unfold maxLen; omega) (by omega) hbase ?_
   intro v' w' ho' hg _
   exact h v' w' (by unfold OwnI; rw [List.length_append, List.map_append]; exact ho') hg
theorem own_none' (w : World) (e : TypeId) (base b : Nat) (hb : base ≤ w.heap.size) (he : b = w.heap.size) : (w.alloc (.cells #[] e)).ownsRow base e 1 (.slice (some ⟨b, 0, none⟩) 0 0) 0 [] := by
 subst he; exact own_none w e base hb
theorem cell_new (w : World) (v : Value) (t : TypeId) (b : Nat) (he : b = w.heap.size) : (w.alloc (.cells #[v] t)).cell? ⟨b, 0, none⟩ = some v := by
 subst he
 have h := one_cell w v t 0 v rfl
 rwa [addr0] at h
theorem ri_one1 {w : World} {b : Nat} {x : Int} (h : w.cell? ⟨b, 0, none⟩ = some (.int .i64 x)) : RI w (.slice (some ⟨b, 0, none⟩) 1 1) [x] :=
 ⟨_, _, rfl, Nat.le_refl _, by simp, fun j hj => ⟨_, rfl, by
  obtain rfl : j = 0 := by simpa using hj
  simpa [addr0] using h⟩⟩
theorem cell_grown {w w' : World} {b : Nat} {v : Value} {row : Option Nat} (h : w.cell? ⟨b, 0, none⟩ = some v) (hg : w.grownBy w' row) (hb : some b ≠ row) : w'.cell? ⟨b, 0, none⟩ = some v := by
 by_cases hlt : b < w.heap.size
 · have e := hg.block b hlt hb
   unfold World.cell? at h ⊢
   simp only at h ⊢
   rw [e]; exact h
 · unfold World.cell? at h
   simp [Array.getElem?_eq_none (Nat.le_of_not_lt hlt)] at h
theorem RI.to_take {w : World} {A : Option Addr} {n c : Nat} {xs : List Int} (h : RI w (.slice A n c) xs) (k : Nat) (hk : k ≤ n) : RI w (.slice A k c) (xs.take k) := by
 obtain ⟨A', c', e, h1, h2, h3⟩ := h
 injection e with e1 e2 e3
 subst e1 e2 e3
 refine ⟨A, c, by rw [List.length_take, Nat.min_eq_left hk], by rw [List.length_take]; omega, by rw [List.length_take]; omega, fun j hj => ?_⟩
 rw [List.length_map, List.length_take] at hj
 obtain ⟨ad, ha, hc⟩ := h3.int j (by omega)
 exact ⟨ad, ha, by simp [hc]⟩
theorem RI.to_drop {w : World} {A : Option Addr} {n c : Nat} {xs : List Int} (h : RI w (.slice A n c) xs) (k : Nat) (hk : k ≤ n) : RI w (.slice (if c = k then A else A.map (·.add (k * 1))) (n - k) (c - k)) (xs.drop k) := by
 obtain ⟨A', c', e, h1, h2, h3⟩ := h
 injection e with e1 e2 e3
 subst e1 e2 e3
 refine ⟨_, _, by rw [List.length_drop], by rw [List.length_drop]; omega, by rw [List.length_drop]; omega, fun j hj => ?_⟩
 rw [List.length_map, List.length_drop] at hj
 obtain ⟨ad, rfl, hc⟩ := h3.int (k + j) (by omega)
 rw [if_neg (by omega)]
 refine ⟨ad.add (k * 1), rfl, ?_⟩
 rw [show (ad.add (k * 1)).add j = ad.add (k + j) by unfold Addr.add; split <;> split <;> split <;> simp_all <;> omega, hc]
 simp
theorem withL_at {O : List Int} {X : Int} (j : Nat) (h : withL O X = O.take j ++ withL (O.drop j) X) (hj : j < O.length) (hb : blt O[j] X) : withL O X = O.take (j + 1) ++ withL (O.drop (j + 1)) X := by
 rw [h, List.drop_eq_getElem_cons hj, withL, if_pos hb, List.take_succ_eq_append_getElem hj, List.append_assoc]; rfl
theorem withL_same {O : List Int} {X : Int} (j : Nat) (h : withL O X = O.take j ++ withL (O.drop j) X) (hj : j < O.length) (hb : ¬ blt O[j] X) (he : O[j] = X) : withL O X = O := by
 rw [h, List.drop_eq_getElem_cons hj, withL, if_neg hb, if_pos he, ← List.drop_eq_getElem_cons hj, List.take_append_drop]
theorem withL_new {O : List Int} {X : Int} (j : Nat) (h : withL O X = O.take j ++ withL (O.drop j) X) (hj : j < O.length) (hb : ¬ blt O[j] X) (he : O[j] ≠ X) : withL O X = O.take j ++ X :: O.drop j := by
 rw [h, List.drop_eq_getElem_cons hj, withL, if_neg hb, if_neg he]
theorem withL_end {O : List Int} {X : Int} (j : Nat) (h : withL O X = O.take j ++ withL (O.drop j) X) (hj : j = O.length) : withL O X = O.take j ++ X :: O.drop j := by
 rw [h, List.drop_eq_nil_of_le (by omega)]; rfl
set_option maxRecDepth 100000 in
set_option maxHeartbeats 20000000 in
theorem refsorted_own (l : List Int) (u : Value) (w : World) (l64 : All64 l) (kr : RI w u l) (hl : l.length ≤ 1000000) :
 Calls Tryz.prog 44 #[u] w fun e w' => ∃ v', e = .returned v' ∧ OwnI w' w.heap.size v' (setL [] l) ∧ Ext w w' := by
 obtain ⟨A, c, rfl, k1, k2, k3⟩ := kr
 have K3 := Lib.hid k3
 obtain ⟨n, hn⟩ : ∃ n, n = l.length := ⟨_, rfl⟩
 rw [← hn]
 have HN := Lib.hid hn
 rw [← hn] at k1 k2 hl
 clear k3 hn
 obtain ⟨base, hbase⟩ : ∃ b, b = w.heap.size := ⟨_, rfl⟩
 have HBS := Lib.hid hbase
 rw [← hbase]
 clear hbase
 go_enter Tryz.func44, Tryz.ntmps44
 go_wp2
 go_loopg [3, 4] n (fun gn o i wr => ∃ k : Nat, k ≤ n ∧ gn + k = n ∧ i = .int .i64 k ∧ Hid (Ext w wr) ∧ Hid (OwnI wr base o (setL [] (l.take k))))
 case atStart => exact ⟨0, Nat.zero_le _, by omega, rfl, Lib.hid (Ext.refl _), Lib.hid (OwnI.nil _ _)⟩
 case round =>
  obtain ⟨k, hk, hgk, rfl, HEO, HRO⟩ := hrel
  obtain ⟨w2, rfl⟩ : ∃ w2 : World, w2 = wr := ⟨_, rfl⟩
  by_cases hlt : k < n
  · have hkl : k < l.length := by rw [← HN.out]; exact hlt
    obtain ⟨O, hO⟩ : ∃ O, O = setL [] (l.take k) := ⟨_, rfl⟩
    have HFN : Hid (setL [] (l.take (k + 1)) = withL O l[k]) := Lib.hid (by rw [List.take_succ_eq_append_getElem hkl, setL_snoc, hO])
    have hol : O.length ≤ 1000000 := by
     have := setL_len (l.take k) []
     rw [← hO, List.length_take] at this
     simp at this
     omega
    have HO64 : Hid (∀ y ∈ O, I64 y) := Lib.hid (fun y hy => by
     rw [hO, mem_setL] at hy
     rcases hy with hy | hy
     · cases hy
     · exact l64 y (List.mem_of_mem_take hy))
    rw [← hO] at HRO
    clear hO
    obtain ⟨B, d, hoe, b1, b2, b3⟩ := HRO.out.reads
    subst hoe
    have B3 := Lib.hid b3
    obtain ⟨ad, rfl, -⟩ := K3.out.int k hkl
    have HXK : Hid (∀ w', Ext w2 w' → w'.cell? (ad.add k) = some (.int .i64 l[k])) := Lib.hid fun w' he => by
     obtain ⟨ad', had, hc⟩ := K3.out.int k hkl
     cases had
     exact (HEO.out.trans he).cell hc
    have hX64 : I64 l[k] := l64 _ (List.getElem_mem hkl)
    have HX64 := Lib.hid hX64
    clear b3 hX64
    generalize l[k] = X at HXK HFN HX64
    obtain ⟨m, hm⟩ : ∃ m, m = O.length := ⟨_, rfl⟩
    have HM := Lib.hid hm
    rw [← hm] at b1 b2 hol ⊢
    clear hm
    go_wp2
    go_loopg [5] m (fun gn i wr => ∃ j : Nat, j ≤ m ∧ gn + j = m ∧ i = .int .i64 j ∧ Hid (Ext w2 wr) ∧ Hid (withL O X = O.take j ++ withL (O.drop j) X))
    case atStart => exact ⟨0, Nat.zero_le _, by omega, rfl, Lib.hid (Ext.refl _), Lib.hid (by simp)⟩
    case round =>
     obtain ⟨j, hjl, hgj, rfl, HEW, HIN⟩ := hrel
     obtain ⟨wx, rfl⟩ : ∃ wx : World, wx = wr := ⟨_, rfl⟩
     by_cases hj : j < m
     · have hjO : j < O.length := by rw [← HM.out]; exact hj
       obtain ⟨bd, rfl, -⟩ := B3.out.int j hjO
       have HPJ : Hid (∀ w', Ext w2 w' → w'.cell? (bd.add j) = some (.int .i64 O[j])) := Lib.hid fun w' he => by
        obtain ⟨bd', hbd, hc⟩ := B3.out.int j hjO
        cases hbd
        exact he.cell hc
       have HP64 := Lib.hid (HO64.out _ (List.getElem_mem hjO))
       obtain ⟨Y, hY⟩ : ∃ Y, Y = O[j] := ⟨_, rfl⟩
       have HY := Lib.hid hY
       rw [← hY] at HPJ HP64
       have HCO := Lib.hid (fun (w' : World) (u u' : Value) (h1 : RI w' u [Y]) (h2 : RI w' u' [X]) => refCompare_any [Y] [X] u u' w' (fun z hz => by rw [List.mem_singleton.1 hz]; exact HP64.out) (fun z hz => by rw [List.mem_singleton.1 hz]; exact HX64.out) h1 h2)
       rw [cmp_one] at HCO
       clear hY
       by_cases h1 : blt Y X
       · have HIN2 := Lib.hid (withL_at j HIN.out hjO (by rw [← HY.out]; exact h1))
         have hcc := (ordB_neg Y X).2 h1
         generalize ordB Y X = cc at HCO hcc
         clear h1
         go_upto_region 6 with fail
         go_cut [29] from 12 to 29 (fun s wy => s = .bool true ∧ Hid (Ext w2 wy))
         case first =>
          rename_i J K1 hRJ hMK
          refine wp_region_mono (W := wx) rfl (Kd.at [.val (.int .i64 (j : Int)), .val (.slice (some bd) m d), .val (.int .i64 (m : Int)), .val (.bool true), .val (.bool true), .val (.slice (some bd) m d), .val (.int .i64 (j : Int)), .val (.pointer (some (bd.add j))), .val (.int .i64 Y), .row [Y], .val (.slice (some ad) n c), .val (.int .i64 (k : Int)), .val (.pointer (some (ad.add k))), .val (.int .i64 X), .row [X], .val (.int .i64 cc), .val (.bool true), .val (.bool true)]) (Kd.at_mono _) 63 rfl (by decide) (by decide) (by decide) ?_ ?_
          · refine ⟨?_, ?_, ?_, ?_, ?_, ?_, ?_, ?_, ?_, ?_, ?_, ?_, ?_, ?_, ?_, ?_, ?_, ?_, trivial⟩
            · intro a' w' hE hK hd
              have hi5 : a'.tmps[5]? = some (.int .i64 (j : Int)) := hK.get 5 (by decide)
              exact st_move (wanted_none rfl) rfl hi5 rfl
            · intro a' w' hE hK hd
              have hi3 : a'.tmps[3]? = some (.slice (some bd) m d) := hK.get 3 (by decide)
              exact st_move (wanted_none rfl) rfl hi3 rfl
            · intro a' w' hE hK hd
              obtain ⟨u1, h1, p1⟩ := got (hd ⟨1, .data⟩ (by simp) rfl) rfl rfl
              obtain rfl : u1 = .slice (some bd) m d := p1
              exact st_run (wanted_none rfl) (v := .int .i64 (m : Int)) (by unfold execOp; simp [h1, go_sem]; done) rfl
            · intro a' w' hE hK hd
              obtain ⟨u0, h0, p0⟩ := got (hd ⟨0, .data⟩ (by simp) rfl) rfl rfl
              obtain rfl : u0 = .int .i64 (j : Int) := p0
              obtain ⟨u2, h2, p2⟩ := got (hd ⟨2, .data⟩ (by simp) rfl) rfl rfl
              obtain rfl : u2 = .int .i64 (m : Int) := p2
              exact st_run (wanted_none rfl) (v := .bool true) (by unfold execOp; simp [h0, h2, go_sem]; exact hj) rfl
            · intro a' w' hE hK hd
              obtain ⟨u3, h3, p3⟩ := got (hd ⟨3, .data⟩ (by simp) rfl) rfl rfl
              obtain rfl : u3 = .bool true := p3
              exact st_move (wanted_none rfl) rfl h3 rfl
            · intro a' w' hE hK hd
              obtain ⟨ug, hg, pg⟩ := got (hd ⟨4, .guard⟩ (by simp) rfl) rfl rfl
              obtain rfl : ug = .bool true := pg
              have hi3 : a'.tmps[3]? = some (.slice (some bd) m d) := hK.get 3 (by decide)
              exact st_move ((wanted_b rfl rfl rfl hg).trans rfl) rfl hi3 rfl
            · intro a' w' hE hK hd
              obtain ⟨ug, hg, pg⟩ := got (hd ⟨4, .guard⟩ (by simp) rfl) rfl rfl
              obtain rfl : ug = .bool true := pg
              have hi5 : a'.tmps[5]? = some (.int .i64 (j : Int)) := hK.get 5 (by decide)
              exact st_move ((wanted_b rfl rfl rfl hg).trans rfl) rfl hi5 rfl
            · intro a' w' hE hK hd
              obtain ⟨ug, hg, pg⟩ := got (hd ⟨4, .guard⟩ (by simp) rfl) rfl rfl
              obtain rfl : ug = .bool true := pg
              obtain ⟨u5, h5, p5⟩ := got (hd ⟨5, .data⟩ (by simp) rfl) rfl rfl
              obtain rfl : u5 = .slice (some bd) m d := p5
              obtain ⟨u6, h6, p6⟩ := got (hd ⟨6, .data⟩ (by simp) rfl) rfl rfl
              obtain rfl : u6 = .int .i64 (j : Int) := p6
              exact st_at ((wanted_b rfl rfl rfl hg).trans rfl) rfl Tryz.underlying24 (by kernel_rfl) h5 h6 hj rfl
            · intro a' w' hE hK hd
              obtain ⟨ug, hg, pg⟩ := got (hd ⟨4, .guard⟩ (by simp) rfl) rfl rfl
              obtain rfl : ug = .bool true := pg
              obtain ⟨u7, h7, p7⟩ := got (hd ⟨7, .data⟩ (by simp) rfl) rfl rfl
              obtain rfl : u7 = .pointer (some (bd.add j)) := p7
              exact st_loadI ((wanted_b rfl rfl rfl hg).trans rfl) rfl Tryz.underlying3 h7 (HPJ.out _ (HEW.out.trans hE)) rfl
            · intro a' w' hE hK hd
              obtain ⟨ug, hg, pg⟩ := got (hd ⟨4, .guard⟩ (by simp) rfl) rfl rfl
              obtain rfl : ug = .bool true := pg
              obtain ⟨u8, h8, p8⟩ := got (hd ⟨8, .data⟩ (by simp) rfl) rfl rfl
              obtain rfl : u8 = .int .i64 Y := p8
              exact st_one ((wanted_b rfl rfl rfl hg).trans rfl) rfl h8 (fun _ h => h)
            · intro a' w' hE hK hd
              obtain ⟨ug, hg, pg⟩ := got (hd ⟨4, .guard⟩ (by simp) rfl) rfl rfl
              obtain rfl : ug = .bool true := pg
              have hi0 : a'.tmps[0]? = some (.slice (some ad) n c) := hK.get 0 (by decide)
              exact st_move ((wanted_b rfl rfl rfl hg).trans rfl) rfl hi0 rfl
            · intro a' w' hE hK hd
              obtain ⟨ug, hg, pg⟩ := got (hd ⟨4, .guard⟩ (by simp) rfl) rfl rfl
              obtain rfl : ug = .bool true := pg
              have hi4 : a'.tmps[4]? = some (.int .i64 (k : Int)) := hK.get 4 (by decide)
              exact st_move ((wanted_b rfl rfl rfl hg).trans rfl) rfl hi4 rfl
            · intro a' w' hE hK hd
              obtain ⟨ug, hg, pg⟩ := got (hd ⟨4, .guard⟩ (by simp) rfl) rfl rfl
              obtain rfl : ug = .bool true := pg
              obtain ⟨u10, h10, p10⟩ := got (hd ⟨10, .data⟩ (by simp) rfl) rfl rfl
              obtain rfl : u10 = .slice (some ad) n c := p10
              obtain ⟨u11, h11, p11⟩ := got (hd ⟨11, .data⟩ (by simp) rfl) rfl rfl
              obtain rfl : u11 = .int .i64 (k : Int) := p11
              exact st_at ((wanted_b rfl rfl rfl hg).trans rfl) rfl Tryz.underlying24 (by kernel_rfl) h10 h11 hlt rfl
            · intro a' w' hE hK hd
              obtain ⟨ug, hg, pg⟩ := got (hd ⟨4, .guard⟩ (by simp) rfl) rfl rfl
              obtain rfl : ug = .bool true := pg
              obtain ⟨u12, h12, p12⟩ := got (hd ⟨12, .data⟩ (by simp) rfl) rfl rfl
              obtain rfl : u12 = .pointer (some (ad.add k)) := p12
              exact st_loadI ((wanted_b rfl rfl rfl hg).trans rfl) rfl Tryz.underlying3 h12 (HXK.out _ (HEW.out.trans hE)) rfl
            · intro a' w' hE hK hd
              obtain ⟨ug, hg, pg⟩ := got (hd ⟨4, .guard⟩ (by simp) rfl) rfl rfl
              obtain rfl : ug = .bool true := pg
              obtain ⟨u13, h13, p13⟩ := got (hd ⟨13, .data⟩ (by simp) rfl) rfl rfl
              obtain rfl : u13 = .int .i64 X := p13
              exact st_one ((wanted_b rfl rfl rfl hg).trans rfl) rfl h13 (fun _ h => h)
            · intro a' w' hE hK hd
              obtain ⟨ug, hg, pg⟩ := got (hd ⟨4, .guard⟩ (by simp) rfl) rfl rfl
              obtain rfl : ug = .bool true := pg
              obtain ⟨u9, h9, p9⟩ := got (hd ⟨9, .data⟩ (by simp) rfl) rfl rfl
              have r9 : RI w' u9 [Y] := p9
              obtain ⟨u14, h14, p14⟩ := got (hd ⟨14, .data⟩ (by simp) rfl) rfl rfl
              have r14 : RI w' u14 [X] := p14
              exact st_call _ _ _ rfl ((wanted_b rfl rfl rfl hg).trans rfl) rfl fv_refCompare _ (by simp only [List.map_toArray, List.map_cons, List.map_nil, eval_of h9, eval_of h14]) ((HCO.out _ _ _ r9 r14).mono fun e w'' ⟨H1, H2⟩ => ⟨_, H1, H2, rfl⟩)
            · intro a' w' hE hK hd
              obtain ⟨ug, hg, pg⟩ := got (hd ⟨4, .guard⟩ (by simp) rfl) rfl rfl
              obtain rfl : ug = .bool true := pg
              obtain ⟨u15, h15, p15⟩ := got (hd ⟨15, .data⟩ (by simp) rfl) rfl rfl
              obtain rfl : u15 = .int .i64 cc := p15
              exact st_run ((wanted_b rfl rfl rfl hg).trans rfl) (v := .bool true) (by unfold execOp; simp [h15, go_sem]; omega) rfl
            · intro a' w' hE hK hd
              obtain ⟨u4, h4, p4⟩ := got (hd ⟨4, .data⟩ (by simp) rfl) rfl rfl
              obtain rfl : u4 = .bool true := p4
              obtain ⟨u16, h16, p16⟩ := got (hd ⟨16, .data⟩ (by simp) rfl) rfl rfl
              obtain rfl : u16 = .bool true := p16
              exact st_pickv (wanted_none rfl) rfl h4 (eval_of h16) rfl
          · intro a' w' hE hK hG
            obtain ⟨u, hl9, pl9⟩ := got (hG 17 (by decide)) rfl rfl
            obtain rfl : u = .bool true := pl9
            refine hMK a' w' (Met.intro (hRJ a' w' ?_))
            refine ⟨_, _, _, _, _, _, _, _, _, _, _, _, _, _, _, _, _, _, ?_, Kep.re hK rfl 12 29 (by decide)⟩
            refine ⟨?_, Lib.hid (HEW.out.trans hE)⟩
            show (a'.tmps[29]?).getD undef = _
            rw [hl9]; rfl
         case rest =>
          obtain ⟨rfl, HCT⟩ := hcut
          go_wp2
          go_roundg (m - (j + 1))
          case measure => omega
          case rel => exact ⟨j + 1, by omega, by omega, by go_num, HCT, HIN2⟩
       · have hcc : ¬ ordB Y X < 0 := fun h => h1 ((ordB_neg Y X).1 h)
         generalize ordB Y X = cc at HCO hcc
         go_upto_region 6 with fail
         go_cut [29] from 12 to 29 (fun s wy => s = .bool false ∧ Hid (Ext w2 wy))
         case first =>
          rename_i J K1 hRJ hMK
          refine wp_region_mono (W := wx) rfl (Kd.at [.val (.int .i64 (j : Int)), .val (.slice (some bd) m d), .val (.int .i64 (m : Int)), .val (.bool true), .val (.bool true), .val (.slice (some bd) m d), .val (.int .i64 (j : Int)), .val (.pointer (some (bd.add j))), .val (.int .i64 Y), .row [Y], .val (.slice (some ad) n c), .val (.int .i64 (k : Int)), .val (.pointer (some (ad.add k))), .val (.int .i64 X), .row [X], .val (.int .i64 cc), .val (.bool false), .val (.bool false)]) (Kd.at_mono _) 63 rfl (by decide) (by decide) (by decide) ?_ ?_
          · refine ⟨?_, ?_, ?_, ?_, ?_, ?_, ?_, ?_, ?_, ?_, ?_, ?_, ?_, ?_, ?_, ?_, ?_, ?_, trivial⟩
            · intro a' w' hE hK hd
              have hi5 : a'.tmps[5]? = some (.int .i64 (j : Int)) := hK.get 5 (by decide)
              exact st_move (wanted_none rfl) rfl hi5 rfl
            · intro a' w' hE hK hd
              have hi3 : a'.tmps[3]? = some (.slice (some bd) m d) := hK.get 3 (by decide)
              exact st_move (wanted_none rfl) rfl hi3 rfl
            · intro a' w' hE hK hd
              obtain ⟨u1, h1, p1⟩ := got (hd ⟨1, .data⟩ (by simp) rfl) rfl rfl
              obtain rfl : u1 = .slice (some bd) m d := p1
              exact st_run (wanted_none rfl) (v := .int .i64 (m : Int)) (by unfold execOp; simp [h1, go_sem]; done) rfl
            · intro a' w' hE hK hd
              obtain ⟨u0, h0, p0⟩ := got (hd ⟨0, .data⟩ (by simp) rfl) rfl rfl
              obtain rfl : u0 = .int .i64 (j : Int) := p0
              obtain ⟨u2, h2, p2⟩ := got (hd ⟨2, .data⟩ (by simp) rfl) rfl rfl
              obtain rfl : u2 = .int .i64 (m : Int) := p2
              exact st_run (wanted_none rfl) (v := .bool true) (by unfold execOp; simp [h0, h2, go_sem]; exact hj) rfl
            · intro a' w' hE hK hd
              obtain ⟨u3, h3, p3⟩ := got (hd ⟨3, .data⟩ (by simp) rfl) rfl rfl
              obtain rfl : u3 = .bool true := p3
              exact st_move (wanted_none rfl) rfl h3 rfl
            · intro a' w' hE hK hd
              obtain ⟨ug, hg, pg⟩ := got (hd ⟨4, .guard⟩ (by simp) rfl) rfl rfl
              obtain rfl : ug = .bool true := pg
              have hi3 : a'.tmps[3]? = some (.slice (some bd) m d) := hK.get 3 (by decide)
              exact st_move ((wanted_b rfl rfl rfl hg).trans rfl) rfl hi3 rfl
            · intro a' w' hE hK hd
              obtain ⟨ug, hg, pg⟩ := got (hd ⟨4, .guard⟩ (by simp) rfl) rfl rfl
              obtain rfl : ug = .bool true := pg
              have hi5 : a'.tmps[5]? = some (.int .i64 (j : Int)) := hK.get 5 (by decide)
              exact st_move ((wanted_b rfl rfl rfl hg).trans rfl) rfl hi5 rfl
            · intro a' w' hE hK hd
              obtain ⟨ug, hg, pg⟩ := got (hd ⟨4, .guard⟩ (by simp) rfl) rfl rfl
              obtain rfl : ug = .bool true := pg
              obtain ⟨u5, h5, p5⟩ := got (hd ⟨5, .data⟩ (by simp) rfl) rfl rfl
              obtain rfl : u5 = .slice (some bd) m d := p5
              obtain ⟨u6, h6, p6⟩ := got (hd ⟨6, .data⟩ (by simp) rfl) rfl rfl
              obtain rfl : u6 = .int .i64 (j : Int) := p6
              exact st_at ((wanted_b rfl rfl rfl hg).trans rfl) rfl Tryz.underlying24 (by kernel_rfl) h5 h6 hj rfl
            · intro a' w' hE hK hd
              obtain ⟨ug, hg, pg⟩ := got (hd ⟨4, .guard⟩ (by simp) rfl) rfl rfl
              obtain rfl : ug = .bool true := pg
              obtain ⟨u7, h7, p7⟩ := got (hd ⟨7, .data⟩ (by simp) rfl) rfl rfl
              obtain rfl : u7 = .pointer (some (bd.add j)) := p7
              exact st_loadI ((wanted_b rfl rfl rfl hg).trans rfl) rfl Tryz.underlying3 h7 (HPJ.out _ (HEW.out.trans hE)) rfl
            · intro a' w' hE hK hd
              obtain ⟨ug, hg, pg⟩ := got (hd ⟨4, .guard⟩ (by simp) rfl) rfl rfl
              obtain rfl : ug = .bool true := pg
              obtain ⟨u8, h8, p8⟩ := got (hd ⟨8, .data⟩ (by simp) rfl) rfl rfl
              obtain rfl : u8 = .int .i64 Y := p8
              exact st_one ((wanted_b rfl rfl rfl hg).trans rfl) rfl h8 (fun _ h => h)
            · intro a' w' hE hK hd
              obtain ⟨ug, hg, pg⟩ := got (hd ⟨4, .guard⟩ (by simp) rfl) rfl rfl
              obtain rfl : ug = .bool true := pg
              have hi0 : a'.tmps[0]? = some (.slice (some ad) n c) := hK.get 0 (by decide)
              exact st_move ((wanted_b rfl rfl rfl hg).trans rfl) rfl hi0 rfl
            · intro a' w' hE hK hd
              obtain ⟨ug, hg, pg⟩ := got (hd ⟨4, .guard⟩ (by simp) rfl) rfl rfl
              obtain rfl : ug = .bool true := pg
              have hi4 : a'.tmps[4]? = some (.int .i64 (k : Int)) := hK.get 4 (by decide)
              exact st_move ((wanted_b rfl rfl rfl hg).trans rfl) rfl hi4 rfl
            · intro a' w' hE hK hd
              obtain ⟨ug, hg, pg⟩ := got (hd ⟨4, .guard⟩ (by simp) rfl) rfl rfl
              obtain rfl : ug = .bool true := pg
              obtain ⟨u10, h10, p10⟩ := got (hd ⟨10, .data⟩ (by simp) rfl) rfl rfl
              obtain rfl : u10 = .slice (some ad) n c := p10
              obtain ⟨u11, h11, p11⟩ := got (hd ⟨11, .data⟩ (by simp) rfl) rfl rfl
              obtain rfl : u11 = .int .i64 (k : Int) := p11
              exact st_at ((wanted_b rfl rfl rfl hg).trans rfl) rfl Tryz.underlying24 (by kernel_rfl) h10 h11 hlt rfl
            · intro a' w' hE hK hd
              obtain ⟨ug, hg, pg⟩ := got (hd ⟨4, .guard⟩ (by simp) rfl) rfl rfl
              obtain rfl : ug = .bool true := pg
              obtain ⟨u12, h12, p12⟩ := got (hd ⟨12, .data⟩ (by simp) rfl) rfl rfl
              obtain rfl : u12 = .pointer (some (ad.add k)) := p12
              exact st_loadI ((wanted_b rfl rfl rfl hg).trans rfl) rfl Tryz.underlying3 h12 (HXK.out _ (HEW.out.trans hE)) rfl
            · intro a' w' hE hK hd
              obtain ⟨ug, hg, pg⟩ := got (hd ⟨4, .guard⟩ (by simp) rfl) rfl rfl
              obtain rfl : ug = .bool true := pg
              obtain ⟨u13, h13, p13⟩ := got (hd ⟨13, .data⟩ (by simp) rfl) rfl rfl
              obtain rfl : u13 = .int .i64 X := p13
              exact st_one ((wanted_b rfl rfl rfl hg).trans rfl) rfl h13 (fun _ h => h)
            · intro a' w' hE hK hd
              obtain ⟨ug, hg, pg⟩ := got (hd ⟨4, .guard⟩ (by simp) rfl) rfl rfl
              obtain rfl : ug = .bool true := pg
              obtain ⟨u9, h9, p9⟩ := got (hd ⟨9, .data⟩ (by simp) rfl) rfl rfl
              have r9 : RI w' u9 [Y] := p9
              obtain ⟨u14, h14, p14⟩ := got (hd ⟨14, .data⟩ (by simp) rfl) rfl rfl
              have r14 : RI w' u14 [X] := p14
              exact st_call _ _ _ rfl ((wanted_b rfl rfl rfl hg).trans rfl) rfl fv_refCompare _ (by simp only [List.map_toArray, List.map_cons, List.map_nil, eval_of h9, eval_of h14]) ((HCO.out _ _ _ r9 r14).mono fun e w'' ⟨H1, H2⟩ => ⟨_, H1, H2, rfl⟩)
            · intro a' w' hE hK hd
              obtain ⟨ug, hg, pg⟩ := got (hd ⟨4, .guard⟩ (by simp) rfl) rfl rfl
              obtain rfl : ug = .bool true := pg
              obtain ⟨u15, h15, p15⟩ := got (hd ⟨15, .data⟩ (by simp) rfl) rfl rfl
              obtain rfl : u15 = .int .i64 cc := p15
              exact st_run ((wanted_b rfl rfl rfl hg).trans rfl) (v := .bool false) (by unfold execOp; simp [h15, go_sem]; omega) rfl
            · intro a' w' hE hK hd
              obtain ⟨u4, h4, p4⟩ := got (hd ⟨4, .data⟩ (by simp) rfl) rfl rfl
              obtain rfl : u4 = .bool true := p4
              obtain ⟨u16, h16, p16⟩ := got (hd ⟨16, .data⟩ (by simp) rfl) rfl rfl
              obtain rfl : u16 = .bool false := p16
              exact st_pickv (wanted_none rfl) rfl h4 (eval_of h16) rfl
          · intro a' w' hE hK hG
            obtain ⟨u, hl9, pl9⟩ := got (hG 17 (by decide)) rfl rfl
            obtain rfl : u = .bool false := pl9
            refine hMK a' w' (Met.intro (hRJ a' w' ?_))
            refine ⟨_, _, _, _, _, _, _, _, _, _, _, _, _, _, _, _, _, _, ?_, Kep.re hK rfl 12 29 (by decide)⟩
            refine ⟨?_, Lib.hid (HEW.out.trans hE)⟩
            show (a'.tmps[29]?).getD undef = _
            rw [hl9]; rfl
         case rest =>
          obtain ⟨rfl, HEY⟩ := hcut
          obtain ⟨wy, rfl⟩ : ∃ wy : World, wy = wc := ⟨_, rfl⟩
          by_cases h2 : Y = X
          · have HIN2 := Lib.hid (withL_same j HIN.out hjO (by rw [← HY.out]; exact h1) (by rw [← HY.out]; exact h2))
            have HYX := Lib.hid h2
            clear h1 h2
            go_upto_region 8 with fail
            go_cut [46] from 32 to 46 (fun s wy => s = .bool false ∧ Hid (Ext w2 wy))
            case first =>
             rename_i J K1 hRJ hMK
             refine wp_region_mono (W := wy) rfl (Kd.at [.val (.int .i64 (j : Int)), .val (.slice (some bd) m d), .val (.int .i64 (m : Int)), .val (.bool false), .val (.bool false), .val (.slice (some bd) m d), .val (.int .i64 (j : Int)), .val (.pointer (some (bd.add j))), .val (.int .i64 Y), .val (.slice (some ad) n c), .val (.int .i64 (k : Int)), .val (.pointer (some (ad.add k))), .val (.int .i64 X), .val (.bool false), .val (.bool false)]) (Kd.at_mono _) 63 rfl (by decide) (by decide) (by decide) ?_ ?_
             · refine ⟨?_, ?_, ?_, ?_, ?_, ?_, ?_, ?_, ?_, ?_, ?_, ?_, ?_, ?_, ?_, trivial⟩
               · intro a' w' hE hK hd
                 have hi5 : a'.tmps[5]? = some (.int .i64 (j : Int)) := hK.get 5 (by decide)
                 exact st_move (wanted_none rfl) rfl hi5 rfl
               · intro a' w' hE hK hd
                 have hi3 : a'.tmps[3]? = some (.slice (some bd) m d) := hK.get 3 (by decide)
                 exact st_move (wanted_none rfl) rfl hi3 rfl
               · intro a' w' hE hK hd
                 obtain ⟨u1, h1, p1⟩ := got (hd ⟨1, .data⟩ (by simp) rfl) rfl rfl
                 obtain rfl : u1 = .slice (some bd) m d := p1
                 exact st_run (wanted_none rfl) (v := .int .i64 (m : Int)) (by unfold execOp; simp [h1, go_sem]; done) rfl
               · intro a' w' hE hK hd
                 obtain ⟨u0, h0, p0⟩ := got (hd ⟨0, .data⟩ (by simp) rfl) rfl rfl
                 obtain rfl : u0 = .int .i64 (j : Int) := p0
                 obtain ⟨u2, h2, p2⟩ := got (hd ⟨2, .data⟩ (by simp) rfl) rfl rfl
                 obtain rfl : u2 = .int .i64 (m : Int) := p2
                 exact st_run (wanted_none rfl) (v := .bool false) (by unfold execOp; simp [h0, h2, go_sem]; omega) rfl
               · intro a' w' hE hK hd
                 obtain ⟨u3, h3, p3⟩ := got (hd ⟨3, .data⟩ (by simp) rfl) rfl rfl
                 obtain rfl : u3 = .bool false := p3
                 exact st_move (wanted_none rfl) rfl h3 rfl
               · intro a' w' hE hK hd
                 obtain ⟨ug, hg, pg⟩ := got (hd ⟨4, .guard⟩ (by simp) rfl) rfl rfl
                 obtain rfl : ug = .bool false := pg
                 have hi3 : a'.tmps[3]? = some (.slice (some bd) m d) := hK.get 3 (by decide)
                 exact st_move ((wanted_b rfl rfl rfl hg).trans rfl) rfl hi3 rfl
               · intro a' w' hE hK hd
                 obtain ⟨ug, hg, pg⟩ := got (hd ⟨4, .guard⟩ (by simp) rfl) rfl rfl
                 obtain rfl : ug = .bool false := pg
                 have hi5 : a'.tmps[5]? = some (.int .i64 (j : Int)) := hK.get 5 (by decide)
                 exact st_move ((wanted_b rfl rfl rfl hg).trans rfl) rfl hi5 rfl
               · intro a' w' hE hK hd
                 obtain ⟨ug, hg, pg⟩ := got (hd ⟨4, .guard⟩ (by simp) rfl) rfl rfl
                 obtain rfl : ug = .bool false := pg
                 obtain ⟨u5, h5, p5⟩ := got (hd ⟨5, .data⟩ (by simp) rfl) rfl rfl
                 obtain rfl : u5 = .slice (some bd) m d := p5
                 obtain ⟨u6, h6, p6⟩ := got (hd ⟨6, .data⟩ (by simp) rfl) rfl rfl
                 obtain rfl : u6 = .int .i64 (j : Int) := p6
                 exact st_at ((wanted_b rfl rfl rfl hg).trans rfl) rfl Tryz.underlying24 (by kernel_rfl) h5 h6 hj rfl
               · intro a' w' hE hK hd
                 obtain ⟨ug, hg, pg⟩ := got (hd ⟨4, .guard⟩ (by simp) rfl) rfl rfl
                 obtain rfl : ug = .bool false := pg
                 obtain ⟨u7, h7, p7⟩ := got (hd ⟨7, .data⟩ (by simp) rfl) rfl rfl
                 obtain rfl : u7 = .pointer (some (bd.add j)) := p7
                 exact st_loadI ((wanted_b rfl rfl rfl hg).trans rfl) rfl Tryz.underlying3 h7 (HPJ.out _ (HEY.out.trans hE)) rfl
               · intro a' w' hE hK hd
                 obtain ⟨ug, hg, pg⟩ := got (hd ⟨4, .guard⟩ (by simp) rfl) rfl rfl
                 obtain rfl : ug = .bool false := pg
                 have hi0 : a'.tmps[0]? = some (.slice (some ad) n c) := hK.get 0 (by decide)
                 exact st_move ((wanted_b rfl rfl rfl hg).trans rfl) rfl hi0 rfl
               · intro a' w' hE hK hd
                 obtain ⟨ug, hg, pg⟩ := got (hd ⟨4, .guard⟩ (by simp) rfl) rfl rfl
                 obtain rfl : ug = .bool false := pg
                 have hi4 : a'.tmps[4]? = some (.int .i64 (k : Int)) := hK.get 4 (by decide)
                 exact st_move ((wanted_b rfl rfl rfl hg).trans rfl) rfl hi4 rfl
               · intro a' w' hE hK hd
                 obtain ⟨ug, hg, pg⟩ := got (hd ⟨4, .guard⟩ (by simp) rfl) rfl rfl
                 obtain rfl : ug = .bool false := pg
                 obtain ⟨u9, h9, p9⟩ := got (hd ⟨9, .data⟩ (by simp) rfl) rfl rfl
                 obtain rfl : u9 = .slice (some ad) n c := p9
                 obtain ⟨u10, h10, p10⟩ := got (hd ⟨10, .data⟩ (by simp) rfl) rfl rfl
                 obtain rfl : u10 = .int .i64 (k : Int) := p10
                 exact st_at ((wanted_b rfl rfl rfl hg).trans rfl) rfl Tryz.underlying24 (by kernel_rfl) h9 h10 hlt rfl
               · intro a' w' hE hK hd
                 obtain ⟨ug, hg, pg⟩ := got (hd ⟨4, .guard⟩ (by simp) rfl) rfl rfl
                 obtain rfl : ug = .bool false := pg
                 obtain ⟨u11, h11, p11⟩ := got (hd ⟨11, .data⟩ (by simp) rfl) rfl rfl
                 obtain rfl : u11 = .pointer (some (ad.add k)) := p11
                 exact st_loadI ((wanted_b rfl rfl rfl hg).trans rfl) rfl Tryz.underlying3 h11 (HXK.out _ (HEY.out.trans hE)) rfl
               · intro a' w' hE hK hd
                 obtain ⟨ug, hg, pg⟩ := got (hd ⟨4, .guard⟩ (by simp) rfl) rfl rfl
                 obtain rfl : ug = .bool false := pg
                 obtain ⟨u8, h8, p8⟩ := got (hd ⟨8, .data⟩ (by simp) rfl) rfl rfl
                 obtain rfl : u8 = .int .i64 Y := p8
                 obtain ⟨u12, h12, p12⟩ := got (hd ⟨12, .data⟩ (by simp) rfl) rfl rfl
                 obtain rfl : u12 = .int .i64 X := p12
                 have h9 := HYX.out
                 exact st_run ((wanted_b rfl rfl rfl hg).trans rfl) (v := .bool false) (by unfold execOp; simp [h8, h12, go_sem, h9]) rfl
               · intro a' w' hE hK hd
                 obtain ⟨u4, h4, p4⟩ := got (hd ⟨4, .data⟩ (by simp) rfl) rfl rfl
                 obtain rfl : u4 = .bool false := p4
                 obtain ⟨u13, h13, p13⟩ := got (hd ⟨13, .data⟩ (by simp) rfl) rfl rfl
                 obtain rfl : u13 = .bool false := p13
                 exact st_pickv (wanted_none rfl) rfl h4 (eval_of h13) rfl
             · intro a' w' hE hK hG
               obtain ⟨u, hl9, pl9⟩ := got (hG 14 (by decide)) rfl rfl
               obtain rfl : u = .bool false := pl9
               refine hMK a' w' (Met.intro (hRJ a' w' ?_))
               refine ⟨_, _, _, _, _, _, _, _, _, _, _, _, _, _, _, ?_, Kep.re hK rfl 32 46 (by decide)⟩
               refine ⟨?_, Lib.hid (HEY.out.trans hE)⟩
               show (a'.tmps[46]?).getD undef = _
               rw [hl9]; rfl
            case rest =>
             obtain ⟨rfl, HEZ⟩ := hcut
             obtain ⟨wz, rfl⟩ : ∃ wz : World, wz = wc := ⟨_, rfl⟩
             go_wp2
             go_roundg (n - (k + 1))
             case measure => omega
             case rel => exact ⟨k + 1, by omega, by omega, by go_num, Lib.hid (HEO.out.trans HEZ.out), Lib.hid (by rw [HFN.out, HIN2.out, HM.out]; exact own_ext HRO.out HEZ.out)⟩
          · have HIN2 := Lib.hid (withL_new j HIN.out hjO (by rw [← HY.out]; exact h1) (by rw [← HY.out]; exact h2))
            have HYX := Lib.hid h2
            clear h1 h2
            go_upto_region 8 with fail
            go_cut [46] from 32 to 46 (fun s wy => s = .bool true ∧ Hid (Ext w2 wy))
            case first =>
             rename_i J K1 hRJ hMK
             refine wp_region_mono (W := wy) rfl (Kd.at [.val (.int .i64 (j : Int)), .val (.slice (some bd) m d), .val (.int .i64 (m : Int)), .val (.bool false), .val (.bool false), .val (.slice (some bd) m d), .val (.int .i64 (j : Int)), .val (.pointer (some (bd.add j))), .val (.int .i64 Y), .val (.slice (some ad) n c), .val (.int .i64 (k : Int)), .val (.pointer (some (ad.add k))), .val (.int .i64 X), .val (.bool true), .val (.bool true)]) (Kd.at_mono _) 63 rfl (by decide) (by decide) (by decide) ?_ ?_
             · refine ⟨?_, ?_, ?_, ?_, ?_, ?_, ?_, ?_, ?_, ?_, ?_, ?_, ?_, ?_, ?_, trivial⟩
               · intro a' w' hE hK hd
                 have hi5 : a'.tmps[5]? = some (.int .i64 (j : Int)) := hK.get 5 (by decide)
                 exact st_move (wanted_none rfl) rfl hi5 rfl
               · intro a' w' hE hK hd
                 have hi3 : a'.tmps[3]? = some (.slice (some bd) m d) := hK.get 3 (by decide)
                 exact st_move (wanted_none rfl) rfl hi3 rfl
               · intro a' w' hE hK hd
                 obtain ⟨u1, h1, p1⟩ := got (hd ⟨1, .data⟩ (by simp) rfl) rfl rfl
                 obtain rfl : u1 = .slice (some bd) m d := p1
                 exact st_run (wanted_none rfl) (v := .int .i64 (m : Int)) (by unfold execOp; simp [h1, go_sem]; done) rfl
               · intro a' w' hE hK hd
                 obtain ⟨u0, h0, p0⟩ := got (hd ⟨0, .data⟩ (by simp) rfl) rfl rfl
                 obtain rfl : u0 = .int .i64 (j : Int) := p0
                 obtain ⟨u2, h2, p2⟩ := got (hd ⟨2, .data⟩ (by simp) rfl) rfl rfl
                 obtain rfl : u2 = .int .i64 (m : Int) := p2
                 exact st_run (wanted_none rfl) (v := .bool false) (by unfold execOp; simp [h0, h2, go_sem]; omega) rfl
               · intro a' w' hE hK hd
                 obtain ⟨u3, h3, p3⟩ := got (hd ⟨3, .data⟩ (by simp) rfl) rfl rfl
                 obtain rfl : u3 = .bool false := p3
                 exact st_move (wanted_none rfl) rfl h3 rfl
               · intro a' w' hE hK hd
                 obtain ⟨ug, hg, pg⟩ := got (hd ⟨4, .guard⟩ (by simp) rfl) rfl rfl
                 obtain rfl : ug = .bool false := pg
                 have hi3 : a'.tmps[3]? = some (.slice (some bd) m d) := hK.get 3 (by decide)
                 exact st_move ((wanted_b rfl rfl rfl hg).trans rfl) rfl hi3 rfl
               · intro a' w' hE hK hd
                 obtain ⟨ug, hg, pg⟩ := got (hd ⟨4, .guard⟩ (by simp) rfl) rfl rfl
                 obtain rfl : ug = .bool false := pg
                 have hi5 : a'.tmps[5]? = some (.int .i64 (j : Int)) := hK.get 5 (by decide)
                 exact st_move ((wanted_b rfl rfl rfl hg).trans rfl) rfl hi5 rfl
               · intro a' w' hE hK hd
                 obtain ⟨ug, hg, pg⟩ := got (hd ⟨4, .guard⟩ (by simp) rfl) rfl rfl
                 obtain rfl : ug = .bool false := pg
                 obtain ⟨u5, h5, p5⟩ := got (hd ⟨5, .data⟩ (by simp) rfl) rfl rfl
                 obtain rfl : u5 = .slice (some bd) m d := p5
                 obtain ⟨u6, h6, p6⟩ := got (hd ⟨6, .data⟩ (by simp) rfl) rfl rfl
                 obtain rfl : u6 = .int .i64 (j : Int) := p6
                 exact st_at ((wanted_b rfl rfl rfl hg).trans rfl) rfl Tryz.underlying24 (by kernel_rfl) h5 h6 hj rfl
               · intro a' w' hE hK hd
                 obtain ⟨ug, hg, pg⟩ := got (hd ⟨4, .guard⟩ (by simp) rfl) rfl rfl
                 obtain rfl : ug = .bool false := pg
                 obtain ⟨u7, h7, p7⟩ := got (hd ⟨7, .data⟩ (by simp) rfl) rfl rfl
                 obtain rfl : u7 = .pointer (some (bd.add j)) := p7
                 exact st_loadI ((wanted_b rfl rfl rfl hg).trans rfl) rfl Tryz.underlying3 h7 (HPJ.out _ (HEY.out.trans hE)) rfl
               · intro a' w' hE hK hd
                 obtain ⟨ug, hg, pg⟩ := got (hd ⟨4, .guard⟩ (by simp) rfl) rfl rfl
                 obtain rfl : ug = .bool false := pg
                 have hi0 : a'.tmps[0]? = some (.slice (some ad) n c) := hK.get 0 (by decide)
                 exact st_move ((wanted_b rfl rfl rfl hg).trans rfl) rfl hi0 rfl
               · intro a' w' hE hK hd
                 obtain ⟨ug, hg, pg⟩ := got (hd ⟨4, .guard⟩ (by simp) rfl) rfl rfl
                 obtain rfl : ug = .bool false := pg
                 have hi4 : a'.tmps[4]? = some (.int .i64 (k : Int)) := hK.get 4 (by decide)
                 exact st_move ((wanted_b rfl rfl rfl hg).trans rfl) rfl hi4 rfl
               · intro a' w' hE hK hd
                 obtain ⟨ug, hg, pg⟩ := got (hd ⟨4, .guard⟩ (by simp) rfl) rfl rfl
                 obtain rfl : ug = .bool false := pg
                 obtain ⟨u9, h9, p9⟩ := got (hd ⟨9, .data⟩ (by simp) rfl) rfl rfl
                 obtain rfl : u9 = .slice (some ad) n c := p9
                 obtain ⟨u10, h10, p10⟩ := got (hd ⟨10, .data⟩ (by simp) rfl) rfl rfl
                 obtain rfl : u10 = .int .i64 (k : Int) := p10
                 exact st_at ((wanted_b rfl rfl rfl hg).trans rfl) rfl Tryz.underlying24 (by kernel_rfl) h9 h10 hlt rfl
               · intro a' w' hE hK hd
                 obtain ⟨ug, hg, pg⟩ := got (hd ⟨4, .guard⟩ (by simp) rfl) rfl rfl
                 obtain rfl : ug = .bool false := pg
                 obtain ⟨u11, h11, p11⟩ := got (hd ⟨11, .data⟩ (by simp) rfl) rfl rfl
                 obtain rfl : u11 = .pointer (some (ad.add k)) := p11
                 exact st_loadI ((wanted_b rfl rfl rfl hg).trans rfl) rfl Tryz.underlying3 h11 (HXK.out _ (HEY.out.trans hE)) rfl
               · intro a' w' hE hK hd
                 obtain ⟨ug, hg, pg⟩ := got (hd ⟨4, .guard⟩ (by simp) rfl) rfl rfl
                 obtain rfl : ug = .bool false := pg
                 obtain ⟨u8, h8, p8⟩ := got (hd ⟨8, .data⟩ (by simp) rfl) rfl rfl
                 obtain rfl : u8 = .int .i64 Y := p8
                 obtain ⟨u12, h12, p12⟩ := got (hd ⟨12, .data⟩ (by simp) rfl) rfl rfl
                 obtain rfl : u12 = .int .i64 X := p12
                 have h9 := HYX.out
                 exact st_run ((wanted_b rfl rfl rfl hg).trans rfl) (v := .bool true) (by unfold execOp; simp [h8, h12, go_sem, h9]) rfl
               · intro a' w' hE hK hd
                 obtain ⟨u4, h4, p4⟩ := got (hd ⟨4, .data⟩ (by simp) rfl) rfl rfl
                 obtain rfl : u4 = .bool false := p4
                 obtain ⟨u13, h13, p13⟩ := got (hd ⟨13, .data⟩ (by simp) rfl) rfl rfl
                 obtain rfl : u13 = .bool true := p13
                 exact st_pickv (wanted_none rfl) rfl h4 (eval_of h13) rfl
             · intro a' w' hE hK hG
               obtain ⟨u, hl9, pl9⟩ := got (hG 14 (by decide)) rfl rfl
               obtain rfl : u = .bool true := pl9
               refine hMK a' w' (Met.intro (hRJ a' w' ?_))
               refine ⟨_, _, _, _, _, _, _, _, _, _, _, _, _, _, _, ?_, Kep.re hK rfl 32 46 (by decide)⟩
               refine ⟨?_, Lib.hid (HEY.out.trans hE)⟩
               show (a'.tmps[46]?).getD undef = _
               rw [hl9]; rfl
            case rest =>
             obtain ⟨rfl, HEZ⟩ := hcut
             obtain ⟨wz, rfl⟩ : ∃ wz : World, wz = wc := ⟨_, rfl⟩
             have HRZ : Hid (RI wz (.slice (some bd) m d) O) := Lib.hid (by rw [HM.out]; exact HRO.out.reads.ext HEZ.out)
             have hjm : j ≤ m := by omega
             have hsl1 := slice_to Tryz.underlying24 info_int (some bd) m d j (by omega)
             have hsl2 := slice_from Tryz.underlying24 info_int (some bd) m d j hjm
             have hxk := HXK.out wz HEZ.out
             have hxk0 := HXK.out (wz.alloc (.cells #[] 3)) (HEZ.out.trans (Ext.alloc _ _))
             have HTK := Lib.hid (HRZ.out.to_take j hjm)
             have hdr := HRZ.out.to_drop j hjm
             obtain ⟨V60, hV60⟩ : ∃ V, V = Value.slice (if d = j then (some bd) else Option.map (fun x => x.add (j * 1)) (some bd)) (m - j) (d - j) := ⟨_, rfl⟩
             rw [← hV60] at hdr hsl2
             have HDR := Lib.hid hdr
             clear hdr hV60
             have htl : (O.take j).length ≤ 1000000 := by rw [List.length_take]; have := HM.out; omega
             have hdl : (O.drop j).length ≤ 1000000 := by rw [List.length_drop]; have := HM.out; omega
             have HBW := Lib.hid (HEO.out.trans HEZ.out).size
             rw [← HBS.out] at HBW
             go_upto_region 9 with fail
             go_region_law (first
              | (refine step_app_I rfl (.tmp 47) (.tmp 50) rfl wz.heap.size [] (O.take j) rfl rfl ?a1 ?a2 ?a3 ?a4 ?_
                 case a1 => (first | exact own_ext (own_none' _ 3 _ _ (by simp) (by simp)) (Ext.drew _) | exact own_ext (own_ext (own_none' _ 3 _ _ (by simp) (by simp)) (Ext.alloc _ _)) (Ext.drew _))
                 case a2 => exact HTK.out.ext (by (first | exact (Ext.alloc _ _).trans (Ext.drew _) | exact ((Ext.alloc _ _).trans (Ext.alloc _ _)).trans (Ext.drew _)))
                 case a3 => simp only [List.length_nil]; omega
                 case a4 => first | (simp; done) | (simp; omega)
                 intro v51 w51 ho hg
                 have HO51 := Lib.hid ho
                 have HE51 : Hid (Ext wz w51) := Lib.hid (grow_ext (xs := []) (by (first | exact (Ext.alloc _ _).trans (Ext.drew _) | exact ((Ext.alloc _ _).trans (Ext.alloc _ _)).trans (Ext.drew _))) (by (first | exact own_ext (own_none' _ 3 _ _ (by simp) (by simp)) (Ext.drew _) | exact own_ext (own_ext (own_none' _ 3 _ _ (by simp) (by simp)) (Ext.alloc _ _)) (Ext.drew _))) hg)
                 have hx51 := HXK.out w51 (HEZ.out.trans HE51.out)
                 try (have HU51 : Hid (w51.cell? ⟨wz.heap.size, 0, none⟩ = some (.int .i64 X)) := Lib.hid (cell_grown (((Ext.alloc _ _).trans (Ext.drew _)).cell (cell_new _ _ _ _ rfl)) hg (fun h => by have h2 : (some wz.heap.size : Option Nat) = some (wz.heap.size + 1) := h; simp at h2)))
                 try (have HU51 : Hid (w51.cell? ⟨wz.heap.size + 1, 0, none⟩ = some (.int .i64 X)) := Lib.hid (cell_grown ((Ext.drew _).cell (cell_new _ _ _ _ (by simp))) hg (fun h => by have h2 : (some (wz.heap.size + 1) : Option Nat) = some wz.heap.size := h; simp at h2)))
                 clear ho hg)
              | (refine step_app_I rfl (.tmp 51) (.tmp 56) rfl wz.heap.size ([] ++ O.take j) [X] rfl rfl ?a1 ?a2 ?a3 ?a4 ?_
                 case a1 => first | exact HO51.out | exact own_ext HO51.out (Ext.alloc _ _)
                 case a2 => first | exact ri_one1 HU51.out | exact ri_one1 (cell_new _ _ _ _ rfl)
                 case a3 => simp only [List.length_append, List.length_nil, List.length_singleton]; omega
                 case a4 => have := HE51.out.size; first | exact this | (simp; omega)
                 intro v57 w57 ho hg
                 have HO57 := Lib.hid ho
                 have HE57 : Hid (Ext wz w57) := by first | exact Lib.hid (grow_ext HE51.out HO51.out hg) | exact Lib.hid (grow_ext (HE51.out.trans (Ext.alloc _ _)) (own_ext HO51.out (Ext.alloc _ _)) hg)
                 clear ho hg)
              | (refine step_app_I rfl (.tmp 57) (.tmp 60) rfl wz.heap.size (([] ++ O.take j) ++ [X]) (O.drop j) rfl rfl ?a1 ?a2 ?a3 ?a4 ?_
                 case a1 => exact HO57.out
                 case a2 => exact HDR.out.ext HE57.out
                 case a4 => exact HE57.out.size
                 case a3 => simp only [List.length_append, List.length_nil, List.length_singleton]; omega
                 intro v61 w61 ho hg
                 have HO61 := Lib.hid ho
                 have HE61 : Hid (Ext wz w61) := Lib.hid (grow_ext HE57.out HO57.out hg)
                 clear ho hg))
             all_goals
              go_wp2
              go_roundg (n - (k + 1))
              case measure => omega
              case rel => exact ⟨k + 1, by omega, by omega, by go_num, Lib.hid (HEO.out.trans (HEZ.out.trans HE61.out)), Lib.hid (by rw [HFN.out, HIN2.out]; have h := own_lower HO61.out HBW.out; simpa [OwnI] using h)⟩
     · obtain rfl : j = m := by omega
       have HIN2 := Lib.hid (withL_end j HIN.out HM.out)
       go_upto_region 6 with fail
       go_cut [29] from 12 to 29 (fun s wy => s = .bool false ∧ Hid (Ext w2 wy))
       case first =>
        rename_i J K1 hRJ hMK
        refine wp_region_mono (W := wx) rfl (Kd.at [.val (.int .i64 (j : Int)), .val (.slice B j d), .val (.int .i64 (j : Int)), .val (.bool false), .val (.bool false), .val undef, .val undef, .val undef, .val undef, .val undef, .val undef, .val undef, .val undef, .val undef, .val undef, .val undef, .val undef, .val (.bool false)]) (Kd.at_mono _) 63 rfl (by decide) (by decide) (by decide) ?_ ?_
        · refine ⟨?_, ?_, ?_, ?_, ?_, ?_, ?_, ?_, ?_, ?_, ?_, ?_, ?_, ?_, ?_, ?_, ?_, ?_, trivial⟩
          · intro a' w' hE hK hd
            have hi5 : a'.tmps[5]? = some (.int .i64 (j : Int)) := hK.get 5 (by decide)
            exact st_move (wanted_none rfl) rfl hi5 rfl
          · intro a' w' hE hK hd
            have hi3 : a'.tmps[3]? = some (.slice B j d) := hK.get 3 (by decide)
            exact st_move (wanted_none rfl) rfl hi3 rfl
          · intro a' w' hE hK hd
            obtain ⟨u1, h1, p1⟩ := got (hd ⟨1, .data⟩ (by simp) rfl) rfl rfl
            obtain rfl : u1 = .slice B j d := p1
            exact st_run (wanted_none rfl) (v := .int .i64 (j : Int)) (by unfold execOp; simp [h1, go_sem]; done) rfl
          · intro a' w' hE hK hd
            obtain ⟨u0, h0, p0⟩ := got (hd ⟨0, .data⟩ (by simp) rfl) rfl rfl
            obtain rfl : u0 = .int .i64 (j : Int) := p0
            obtain ⟨u2, h2, p2⟩ := got (hd ⟨2, .data⟩ (by simp) rfl) rfl rfl
            obtain rfl : u2 = .int .i64 (j : Int) := p2
            exact st_run (wanted_none rfl) (v := .bool false) (by unfold execOp; simp [h0, h2, go_sem]) rfl
          · intro a' w' hE hK hd
            obtain ⟨u3, h3, p3⟩ := got (hd ⟨3, .data⟩ (by simp) rfl) rfl rfl
            obtain rfl : u3 = .bool false := p3
            exact st_move (wanted_none rfl) rfl h3 rfl
          · intro a' w' hE hK hd
            obtain ⟨ug, hg, pg⟩ := got (hd ⟨4, .guard⟩ (by simp) rfl) rfl rfl
            obtain rfl : ug = .bool false := pg
            exact ok_not ((wanted_b rfl rfl rfl hg).trans rfl) rfl
          · intro a' w' hE hK hd
            obtain ⟨ug, hg, pg⟩ := got (hd ⟨4, .guard⟩ (by simp) rfl) rfl rfl
            obtain rfl : ug = .bool false := pg
            exact ok_not ((wanted_b rfl rfl rfl hg).trans rfl) rfl
          · intro a' w' hE hK hd
            obtain ⟨ug, hg, pg⟩ := got (hd ⟨4, .guard⟩ (by simp) rfl) rfl rfl
            obtain rfl : ug = .bool false := pg
            exact ok_not ((wanted_b rfl rfl rfl hg).trans rfl) rfl
          · intro a' w' hE hK hd
            obtain ⟨ug, hg, pg⟩ := got (hd ⟨4, .guard⟩ (by simp) rfl) rfl rfl
            obtain rfl : ug = .bool false := pg
            exact ok_not ((wanted_b rfl rfl rfl hg).trans rfl) rfl
          · intro a' w' hE hK hd
            obtain ⟨ug, hg, pg⟩ := got (hd ⟨4, .guard⟩ (by simp) rfl) rfl rfl
            obtain rfl : ug = .bool false := pg
            exact ok_not ((wanted_b rfl rfl rfl hg).trans rfl) rfl
          · intro a' w' hE hK hd
            obtain ⟨ug, hg, pg⟩ := got (hd ⟨4, .guard⟩ (by simp) rfl) rfl rfl
            obtain rfl : ug = .bool false := pg
            exact ok_not ((wanted_b rfl rfl rfl hg).trans rfl) rfl
          · intro a' w' hE hK hd
            obtain ⟨ug, hg, pg⟩ := got (hd ⟨4, .guard⟩ (by simp) rfl) rfl rfl
            obtain rfl : ug = .bool false := pg
            exact ok_not ((wanted_b rfl rfl rfl hg).trans rfl) rfl
          · intro a' w' hE hK hd
            obtain ⟨ug, hg, pg⟩ := got (hd ⟨4, .guard⟩ (by simp) rfl) rfl rfl
            obtain rfl : ug = .bool false := pg
            exact ok_not ((wanted_b rfl rfl rfl hg).trans rfl) rfl
          · intro a' w' hE hK hd
            obtain ⟨ug, hg, pg⟩ := got (hd ⟨4, .guard⟩ (by simp) rfl) rfl rfl
            obtain rfl : ug = .bool false := pg
            exact ok_not ((wanted_b rfl rfl rfl hg).trans rfl) rfl
          · intro a' w' hE hK hd
            obtain ⟨ug, hg, pg⟩ := got (hd ⟨4, .guard⟩ (by simp) rfl) rfl rfl
            obtain rfl : ug = .bool false := pg
            exact ok_not ((wanted_b rfl rfl rfl hg).trans rfl) rfl
          · intro a' w' hE hK hd
            obtain ⟨ug, hg, pg⟩ := got (hd ⟨4, .guard⟩ (by simp) rfl) rfl rfl
            obtain rfl : ug = .bool false := pg
            exact ok_not ((wanted_b rfl rfl rfl hg).trans rfl) rfl
          · intro a' w' hE hK hd
            obtain ⟨ug, hg, pg⟩ := got (hd ⟨4, .guard⟩ (by simp) rfl) rfl rfl
            obtain rfl : ug = .bool false := pg
            exact ok_not ((wanted_b rfl rfl rfl hg).trans rfl) rfl
          · intro a' w' hE hK hd
            obtain ⟨u4, h4, p4⟩ := got (hd ⟨4, .data⟩ (by simp) rfl) rfl rfl
            obtain rfl : u4 = .bool false := p4
            exact st_pickv (wanted_none rfl) rfl h4 rfl rfl
        · intro a' w' hE hK hG
          obtain ⟨u, hl9, pl9⟩ := got (hG 17 (by decide)) rfl rfl
          obtain rfl : u = .bool false := pl9
          refine hMK a' w' (Met.intro (hRJ a' w' ?_))
          refine ⟨_, _, _, _, _, _, _, _, _, _, _, _, _, _, _, _, _, _, ?_, Kep.re hK rfl 12 29 (by decide)⟩
          refine ⟨?_, Lib.hid (HEW.out.trans hE)⟩
          show (a'.tmps[29]?).getD undef = _
          rw [hl9]; rfl
       case rest =>
        obtain ⟨rfl, HEY⟩ := hcut
        obtain ⟨wy, rfl⟩ : ∃ wy : World, wy = wc := ⟨_, rfl⟩
        go_upto_region 8 with fail
        go_cut [46] from 32 to 46 (fun s wy => s = .bool true ∧ Hid (Ext w2 wy))
        case first =>
         rename_i J K1 hRJ hMK
         refine wp_region_mono (W := wy) rfl (Kd.at [.val (.int .i64 (j : Int)), .val (.slice B j d), .val (.int .i64 (j : Int)), .val (.bool true), .val (.bool true), .val undef, .val undef, .val undef, .val undef, .val undef, .val undef, .val undef, .val undef, .val undef, .val (.bool true)]) (Kd.at_mono _) 63 rfl (by decide) (by decide) (by decide) ?_ ?_
         · refine ⟨?_, ?_, ?_, ?_, ?_, ?_, ?_, ?_, ?_, ?_, ?_, ?_, ?_, ?_, ?_, trivial⟩
           · intro a' w' hE hK hd
             have hi5 : a'.tmps[5]? = some (.int .i64 (j : Int)) := hK.get 5 (by decide)
             exact st_move (wanted_none rfl) rfl hi5 rfl
           · intro a' w' hE hK hd
             have hi3 : a'.tmps[3]? = some (.slice B j d) := hK.get 3 (by decide)
             exact st_move (wanted_none rfl) rfl hi3 rfl
           · intro a' w' hE hK hd
             obtain ⟨u1, h1, p1⟩ := got (hd ⟨1, .data⟩ (by simp) rfl) rfl rfl
             obtain rfl : u1 = .slice B j d := p1
             exact st_run (wanted_none rfl) (v := .int .i64 (j : Int)) (by unfold execOp; simp [h1, go_sem]; done) rfl
           · intro a' w' hE hK hd
             obtain ⟨u0, h0, p0⟩ := got (hd ⟨0, .data⟩ (by simp) rfl) rfl rfl
             obtain rfl : u0 = .int .i64 (j : Int) := p0
             obtain ⟨u2, h2, p2⟩ := got (hd ⟨2, .data⟩ (by simp) rfl) rfl rfl
             obtain rfl : u2 = .int .i64 (j : Int) := p2
             exact st_run (wanted_none rfl) (v := .bool true) (by unfold execOp; simp [h0, h2, go_sem]) rfl
           · intro a' w' hE hK hd
             obtain ⟨u3, h3, p3⟩ := got (hd ⟨3, .data⟩ (by simp) rfl) rfl rfl
             obtain rfl : u3 = .bool true := p3
             exact st_move (wanted_none rfl) rfl h3 rfl
           · intro a' w' hE hK hd
             obtain ⟨ug, hg, pg⟩ := got (hd ⟨4, .guard⟩ (by simp) rfl) rfl rfl
             obtain rfl : ug = .bool true := pg
             exact ok_not ((wanted_b rfl rfl rfl hg).trans rfl) rfl
           · intro a' w' hE hK hd
             obtain ⟨ug, hg, pg⟩ := got (hd ⟨4, .guard⟩ (by simp) rfl) rfl rfl
             obtain rfl : ug = .bool true := pg
             exact ok_not ((wanted_b rfl rfl rfl hg).trans rfl) rfl
           · intro a' w' hE hK hd
             obtain ⟨ug, hg, pg⟩ := got (hd ⟨4, .guard⟩ (by simp) rfl) rfl rfl
             obtain rfl : ug = .bool true := pg
             exact ok_not ((wanted_b rfl rfl rfl hg).trans rfl) rfl
           · intro a' w' hE hK hd
             obtain ⟨ug, hg, pg⟩ := got (hd ⟨4, .guard⟩ (by simp) rfl) rfl rfl
             obtain rfl : ug = .bool true := pg
             exact ok_not ((wanted_b rfl rfl rfl hg).trans rfl) rfl
           · intro a' w' hE hK hd
             obtain ⟨ug, hg, pg⟩ := got (hd ⟨4, .guard⟩ (by simp) rfl) rfl rfl
             obtain rfl : ug = .bool true := pg
             exact ok_not ((wanted_b rfl rfl rfl hg).trans rfl) rfl
           · intro a' w' hE hK hd
             obtain ⟨ug, hg, pg⟩ := got (hd ⟨4, .guard⟩ (by simp) rfl) rfl rfl
             obtain rfl : ug = .bool true := pg
             exact ok_not ((wanted_b rfl rfl rfl hg).trans rfl) rfl
           · intro a' w' hE hK hd
             obtain ⟨ug, hg, pg⟩ := got (hd ⟨4, .guard⟩ (by simp) rfl) rfl rfl
             obtain rfl : ug = .bool true := pg
             exact ok_not ((wanted_b rfl rfl rfl hg).trans rfl) rfl
           · intro a' w' hE hK hd
             obtain ⟨ug, hg, pg⟩ := got (hd ⟨4, .guard⟩ (by simp) rfl) rfl rfl
             obtain rfl : ug = .bool true := pg
             exact ok_not ((wanted_b rfl rfl rfl hg).trans rfl) rfl
           · intro a' w' hE hK hd
             obtain ⟨ug, hg, pg⟩ := got (hd ⟨4, .guard⟩ (by simp) rfl) rfl rfl
             obtain rfl : ug = .bool true := pg
             exact ok_not ((wanted_b rfl rfl rfl hg).trans rfl) rfl
           · intro a' w' hE hK hd
             obtain ⟨u4, h4, p4⟩ := got (hd ⟨4, .data⟩ (by simp) rfl) rfl rfl
             obtain rfl : u4 = .bool true := p4
             exact st_pickv (wanted_none rfl) rfl h4 rfl rfl
         · intro a' w' hE hK hG
           obtain ⟨u, hl9, pl9⟩ := got (hG 14 (by decide)) rfl rfl
           obtain rfl : u = .bool true := pl9
           refine hMK a' w' (Met.intro (hRJ a' w' ?_))
           refine ⟨_, _, _, _, _, _, _, _, _, _, _, _, _, _, _, ?_, Kep.re hK rfl 32 46 (by decide)⟩
           refine ⟨?_, Lib.hid (HEY.out.trans hE)⟩
           show (a'.tmps[46]?).getD undef = _
           rw [hl9]; rfl
        case rest =>
         obtain ⟨rfl, HEZ⟩ := hcut
         obtain ⟨wz, rfl⟩ : ∃ wz : World, wz = wc := ⟨_, rfl⟩
         have HRZ : Hid (RI wz (.slice B j d) O) := Lib.hid (by rw [HM.out]; exact HRO.out.reads.ext HEZ.out)
         have hjm : j ≤ j := by omega
         have hsl1 := slice_to Tryz.underlying24 info_int B j d j (by omega)
         have hsl2 := slice_from Tryz.underlying24 info_int B j d j hjm
         have hxk := HXK.out wz HEZ.out
         have hxk0 := HXK.out (wz.alloc (.cells #[] 3)) (HEZ.out.trans (Ext.alloc _ _))
         have HTK := Lib.hid (HRZ.out.to_take j hjm)
         have hdr := HRZ.out.to_drop j hjm
         obtain ⟨V60, hV60⟩ : ∃ V, V = Value.slice (if d = j then B else Option.map (fun x => x.add (j * 1)) B) (j - j) (d - j) := ⟨_, rfl⟩
         rw [← hV60] at hdr hsl2
         have HDR := Lib.hid hdr
         clear hdr hV60
         have htl : (O.take j).length ≤ 1000000 := by rw [List.length_take]; have := HM.out; omega
         have hdl : (O.drop j).length ≤ 1000000 := by rw [List.length_drop]; have := HM.out; omega
         have HBW := Lib.hid (HEO.out.trans HEZ.out).size
         rw [← HBS.out] at HBW
         go_upto_region 9 with fail
         go_region_law (first
          | (refine step_app_I rfl (.tmp 47) (.tmp 50) rfl wz.heap.size [] (O.take j) rfl rfl ?a1 ?a2 ?a3 ?a4 ?_
             case a1 => (first | exact own_ext (own_none' _ 3 _ _ (by simp) (by simp)) (Ext.drew _) | exact own_ext (own_ext (own_none' _ 3 _ _ (by simp) (by simp)) (Ext.alloc _ _)) (Ext.drew _))
             case a2 => exact HTK.out.ext (by (first | exact (Ext.alloc _ _).trans (Ext.drew _) | exact ((Ext.alloc _ _).trans (Ext.alloc _ _)).trans (Ext.drew _)))
             case a3 => simp only [List.length_nil]; omega
             case a4 => first | (simp; done) | (simp; omega)
             intro v51 w51 ho hg
             have HO51 := Lib.hid ho
             have HE51 : Hid (Ext wz w51) := Lib.hid (grow_ext (xs := []) (by (first | exact (Ext.alloc _ _).trans (Ext.drew _) | exact ((Ext.alloc _ _).trans (Ext.alloc _ _)).trans (Ext.drew _))) (by (first | exact own_ext (own_none' _ 3 _ _ (by simp) (by simp)) (Ext.drew _) | exact own_ext (own_ext (own_none' _ 3 _ _ (by simp) (by simp)) (Ext.alloc _ _)) (Ext.drew _))) hg)
             have hx51 := HXK.out w51 (HEZ.out.trans HE51.out)
             try (have HU51 : Hid (w51.cell? ⟨wz.heap.size, 0, none⟩ = some (.int .i64 X)) := Lib.hid (cell_grown (((Ext.alloc _ _).trans (Ext.drew _)).cell (cell_new _ _ _ _ rfl)) hg (fun h => by have h2 : (some wz.heap.size : Option Nat) = some (wz.heap.size + 1) := h; simp at h2)))
             try (have HU51 : Hid (w51.cell? ⟨wz.heap.size + 1, 0, none⟩ = some (.int .i64 X)) := Lib.hid (cell_grown ((Ext.drew _).cell (cell_new _ _ _ _ (by simp))) hg (fun h => by have h2 : (some (wz.heap.size + 1) : Option Nat) = some wz.heap.size := h; simp at h2)))
             clear ho hg)
          | (refine step_app_I rfl (.tmp 51) (.tmp 56) rfl wz.heap.size ([] ++ O.take j) [X] rfl rfl ?a1 ?a2 ?a3 ?a4 ?_
             case a1 => first | exact HO51.out | exact own_ext HO51.out (Ext.alloc _ _)
             case a2 => first | exact ri_one1 HU51.out | exact ri_one1 (cell_new _ _ _ _ rfl)
             case a3 => simp only [List.length_append, List.length_nil, List.length_singleton]; omega
             case a4 => have := HE51.out.size; first | exact this | (simp; omega)
             intro v57 w57 ho hg
             have HO57 := Lib.hid ho
             have HE57 : Hid (Ext wz w57) := by first | exact Lib.hid (grow_ext HE51.out HO51.out hg) | exact Lib.hid (grow_ext (HE51.out.trans (Ext.alloc _ _)) (own_ext HO51.out (Ext.alloc _ _)) hg)
             clear ho hg)
          | (refine step_app_I rfl (.tmp 57) (.tmp 60) rfl wz.heap.size (([] ++ O.take j) ++ [X]) (O.drop j) rfl rfl ?a1 ?a2 ?a3 ?a4 ?_
             case a1 => exact HO57.out
             case a2 => exact HDR.out.ext HE57.out
             case a4 => exact HE57.out.size
             case a3 => simp only [List.length_append, List.length_nil, List.length_singleton]; omega
             intro v61 w61 ho hg
             have HO61 := Lib.hid ho
             have HE61 : Hid (Ext wz w61) := Lib.hid (grow_ext HE57.out HO57.out hg)
             clear ho hg))
         all_goals
          go_wp2
          go_roundg (n - (k + 1))
          case measure => omega
          case rel => exact ⟨k + 1, by omega, by omega, by go_num, Lib.hid (HEO.out.trans (HEZ.out.trans HE61.out)), Lib.hid (by rw [HFN.out, HIN2.out]; have h := own_lower HO61.out HBW.out; simpa [OwnI] using h)⟩
  · obtain rfl : k = n := by omega
    have HE2 := Lib.hid HEO.out
    have HR2 : Hid (OwnI w2 base u3 (setL [] l)) := Lib.hid (by have := HRO.out; rwa [HN.out, List.take_of_length_le (Nat.le_refl _)] at this)
    clear HRO hgk hk hlt
    go_wp2
    go_ret
    exact ⟨_, rfl, HR2.out, HE2.out⟩
theorem own_kdR {w : World} {base : Nat} {v : Value} {xs : List Int} (h : OwnI w base v xs) : Go.Proofs.YtjecjaihficcdaaGreatW.PrintWords.Kd.R (Go.Proofs.YtjecjaihficcdaaGreatW.PrintWords.Kd.int .i64) 3 w base (fun _ => True) v xs := by
 refine ⟨fun _ _ => trivial, xs.map (Value.int .i64), h, by rw [List.length_map]; exact (Nat.mul_one _).symm, fun j p hp => ?_⟩
 obtain ⟨hj, rfl⟩ := List.getElem?_eq_some_iff.1 hp
 show ((xs.map (Value.int .i64)).drop (j * 1)).take 1 = [Value.int .i64 xs[j]]
 rw [Nat.mul_one, List.drop_eq_getElem_cons (by simpa using hj)]
 simp
end Go.Proofs.YtjecjaihficcdaaGreat
