/- Walks of slices.Clone and slices.DeleteFunc. -/
import Derived.Test.YteokoaggkpjdeaaDoorAsg2
namespace Go.Proofs.YteokoaggkpjdeaaDoor
open Go.RowKit

theorem info_int : (Tryd.prog.info? 3).map (fun i => (i.zero, i.size, i.bytes)) = some (some (.int .i64 0), 1, 8) := by kernel_rfl
theorem info_ints : (Tryd.prog.info? 22).map (fun i => (i.zero, i.size, i.bytes)) = some (some (.slice none 0 0), 1, 24) := by kernel_rfl

theorem Row.nil {w : World} {vs : List Value} (h : Row w none vs) : vs = [] := by
  cases vs with
  | nil => rfl
  | cons x xs => obtain ⟨ad, h, _⟩ := h 0 (by simp); cases h

theorem Row.cells {w : World} {ad : Addr} {vs : List Value} (h3 : Row w (some ad) vs) : ∀ j u, vs[j]? = some u → w.cell? (ad.add j) = some u := fun j u hu => by
  obtain ⟨hj, he⟩ := List.getElem?_eq_some_iff.1 hu
  obtain ⟨ad', h, hc⟩ := h3 j hj
  cases h
  rw [hc, he]

/-- A new block of no cells is a row of the call's own. -/
theorem own_none (w : World) (e : TypeId) (base : Nat) (hb : base ≤ w.heap.size) : (w.alloc (.cells #[] e)).ownsRow base e 1 (.slice (some ⟨w.heap.size, 0, none⟩) 0 0) 0 [] :=
  World.ownsRow_made w #[] 0 hb (by simp [maxLen]) (by simp)

set_option maxHeartbeats 400000 in
theorem cloneRowI (A : Option Addr) (c : Nat) (vs : List Value) (w : World) (h1 : ∀ u ∈ vs, u.oneCell' = true) (h2 : vs.length ≤ 9223372036854775807) (h3 : Row w A vs) (hb : vs.length * 8 ≤ 140737488355328) :
    Calls Tryd.prog 13 #[.slice A vs.length c] w fun e w' => ∃ v', e = .returned v' ∧ w'.ownsRow w.heap.size 3 1 v' vs.length vs ∧ Ext w w' := by
  obtain ⟨i0, hi, hz0, hz1, hz2⟩ := info_parts info_int
  have q : ∀ (w : World) (a : Option Addr) (n c n' c' : Nat), (binOp .eql 22 (.slice a n c) (.slice none n' c')).run Tryd.prog w = .ok (.bool a.isNone) w := fun w a n c n' c' => Lib.run_eql_slice_nil w _ 3 a n c n' c' Tryd.underlying22
  cases A with
  | none =>
    have hx := h3.nil
    subst hx
    go_enter Tryd.func13, Tryd.ntmps13
    go_wp2
    go_ret
    exact ⟨_, rfl, World.ownsRow_nil w _ _ 1, Ext.refl _⟩
  | some ad =>
    have H3 := Lib.hid (Row.ext h3 (Ext.alloc w (.cells #[] 3)))
    have H1 := Lib.hid h1
    have HB := Lib.hid hb
    clear h3 h1 hb
    have HZ := Lib.hid hz0
    have HZ1 := Lib.hid hz1
    have HZ2 := Lib.hid hz2
    have HI := Lib.hid hi
    clear hz0 hz1 hz2 hi
    have HOWN := Lib.hid (own_none w 3 w.heap.size (Nat.le_refl _))
    go_enter Tryd.func13, Tryd.ntmps13
    go_wp2_with (at_builtin; refine wpList_append_own _ rfl (.tmp 5) (.tmp 6) 22 rfl w.heap.size 3 i0 (.int .i64 0) 1 8 Tryd.underlying22 HI.out HZ.out HZ1.out HZ2.out rfl (by decide) _ 0 [] rfl HOWN.out ad vs.length c vs rfl (by simp) H3.out.cells H1.out (by unfold maxLen; omega) (by rw [Nat.zero_add]; exact HB.out) (by simp) ?_; intro v' w1 hown hg _; have HO := Lib.hid hown; have HG := Lib.hid hg; clear hown hg)
    go_ret
    refine ⟨_, rfl, ?_, ?_⟩
    · have := HO.out
      rwa [Nat.zero_add, List.nil_append] at this
    · exact (Ext.alloc w _).grown HG.out (fun k hk => by cases hk; exact Nat.le_refl _)
set_option maxHeartbeats 400000 in
theorem cloneRowL (A : Option Addr) (c : Nat) (vs : List Value) (w : World) (h1 : ∀ u ∈ vs, u.oneCell' = true) (h2 : vs.length ≤ 9223372036854775807) (h3 : Row w A vs) (hb : vs.length * 24 ≤ 140737488355328) :
    Calls Tryd.prog 39 #[.slice A vs.length c] w fun e w' => ∃ v', e = .returned v' ∧ w'.ownsRow w.heap.size 22 1 v' vs.length vs ∧ Ext w w' := by
  obtain ⟨i0, hi, hz0, hz1, hz2⟩ := info_parts info_ints
  have q : ∀ (w : World) (a : Option Addr) (n c n' c' : Nat), (binOp .eql 23 (.slice a n c) (.slice none n' c')).run Tryd.prog w = .ok (.bool a.isNone) w := fun w a n c n' c' => Lib.run_eql_slice_nil w _ 22 a n c n' c' Tryd.underlying23
  cases A with
  | none =>
    have hx := h3.nil
    subst hx
    go_enter Tryd.func39, Tryd.ntmps39
    go_wp2
    go_ret
    exact ⟨_, rfl, World.ownsRow_nil w _ _ 1, Ext.refl _⟩
  | some ad =>
    have H3 := Lib.hid (Row.ext h3 (Ext.alloc w (.cells #[] 22)))
    have H1 := Lib.hid h1
    have HB := Lib.hid hb
    clear h3 h1 hb
    have HZ := Lib.hid hz0
    have HZ1 := Lib.hid hz1
    have HZ2 := Lib.hid hz2
    have HI := Lib.hid hi
    clear hz0 hz1 hz2 hi
    have HOWN := Lib.hid (own_none w 22 w.heap.size (Nat.le_refl _))
    go_enter Tryd.func39, Tryd.ntmps39
    go_wp2_with (at_builtin; refine wpList_append_own _ rfl (.tmp 5) (.tmp 6) 23 rfl w.heap.size 22 i0 (.slice none 0 0) 1 24 Tryd.underlying23 HI.out HZ.out HZ1.out HZ2.out rfl (by decide) _ 0 [] rfl HOWN.out ad vs.length c vs rfl (by simp) H3.out.cells H1.out (by unfold maxLen; omega) (by rw [Nat.zero_add]; exact HB.out) (by simp) ?_; intro v' w1 hown hg _; have HO := Lib.hid hown; have HG := Lib.hid hg; clear hown hg)
    go_ret
    refine ⟨_, rfl, ?_, ?_⟩
    · have := HO.out
      rwa [Nat.zero_add, List.nil_append] at this
    · exact (Ext.alloc w _).grown HG.out (fun k hk => by cases hk; exact Nat.le_refl _)

theorem cloneI_any (v : Value) (xs : List Int) (w : World) (hr : RI w v xs) (hb : xs.length * 8 ≤ 140737488355328) :
    Calls Tryd.prog 13 #[v] w fun e w' => ∃ v', e = .returned v' ∧ OwnI w' w.heap.size v' xs ∧ Ext w w' := by
  obtain ⟨A, c, rfl, h1, h2, h3⟩ := hr
  have := cloneRowI A c (xs.map (Value.int .i64)) w (by simp [Value.oneCell']) (by simpa using h2) h3 (by simpa using hb)
  rw [List.length_map] at this
  exact this

theorem getD_val (vs : List Value) (k : Nat) (h : k < vs.length) (d : Value) : vs.getD k d = vs[k] := by
  rw [List.getD_eq_getElem?_getD, List.getElem?_eq_getElem h]; rfl

/-- What has been moved to the front when b elements have been seen. -/
def Moved {α : Type} (enc : α → Value) (p : α → Bool) (xs : List α) (cur : List Value) (a b : Nat) : Prop :=
  cur.take a = ((xs.take b).filter (fun u => !p u)).map enc ∧ (∀ j (h : j < xs.length), b ≤ j → cur[j]? = some (enc xs[j])) ∧ a ≤ b ∧ b ≤ xs.length ∧ xs.length ≤ cur.length

section
variable {α : Type} {enc : α → Value} {p : α → Bool} {xs : List α} {cur : List Value} {a b : Nat}
theorem Moved.keep (h : Moved enc p xs cur a b) (hb : b < xs.length) (hp : p xs[b] = false) : Moved enc p xs (cur.set a (enc xs[b])) (a + 1) (b + 1) := by
  obtain ⟨h1, h2, h3, h4, h5⟩ := h
  refine ⟨?_, fun j hj hj' => ?_, by omega, by omega, by rw [List.length_set]; exact h5⟩
  · have ha : a < (cur.set a (enc xs[b])).length := by rw [List.length_set]; omega
    rw [List.take_succ_eq_append_getElem ha, List.take_set_of_le (Nat.le_refl _), h1, List.take_succ_eq_append_getElem hb, List.filter_append]
    simp [hp]
  · rw [List.getElem?_set_ne (by omega)]
    exact h2 j hj (by omega)

theorem Moved.drop (h : Moved enc p xs cur a b) (hb : b < xs.length) (hp : p xs[b] = true) : Moved enc p xs cur a (b + 1) := by
  obtain ⟨h1, h2, h3, h4, h5⟩ := h
  refine ⟨?_, fun j hj hj' => h2 j hj (by omega), by omega, by omega, h5⟩
  rw [h1, List.take_succ_eq_append_getElem hb, List.filter_append]
  simp [hp]

theorem Moved.start {k : Nat} (hk : k < xs.length) (hp : p xs[k] = true) (hn : ∀ (j : Nat) (hj : j < k), p (xs[j]'(by omega)) = false) (hc : ∀ j (h : j < xs.length), cur[j]? = some (enc xs[j])) (hl : xs.length ≤ cur.length) :
    Moved enc p xs cur k (k + 1) := by
  refine ⟨?_, fun j h _ => hc j h, by omega, by omega, hl⟩
  have h1 : cur.take k = (xs.take k).map enc := by
    apply List.ext_getElem?
    intro j
    simp only [List.getElem?_take, List.getElem?_map]
    split
    · rw [hc j (by omega), List.getElem?_eq_getElem (by omega)]; rfl
    · rfl
  rw [h1, List.take_succ_eq_append_getElem hk, List.filter_append]
  have h2 : (xs.take k).filter (fun u => !p u) = xs.take k := by
    rw [List.filter_eq_self]
    intro u hu
    obtain ⟨j, hj, rfl⟩ := List.getElem_of_mem hu
    rw [List.length_take] at hj
    rw [List.getElem_take, hn j (by omega)]
    rfl
  rw [h2]
  simp [hp]
end

theorem filter_none {α : Type} {p : α → Bool} {xs : List α} (h : ∀ j (hj : j < xs.length), p xs[j] = false) : xs.filter (fun u => !p u) = xs := by
  rw [List.filter_eq_self]
  intro u hu
  obtain ⟨j, hj, rfl⟩ := List.getElem_of_mem hu
  rw [h j hj]; rfl

theorem zero_deleteI : ∀ w, (zeroValue 3).run Tryd.prog w = .ok (Value.int .i64 0) w := fun _ => by kernel_rfl

def PostDel (base : Nat) (e : TypeId) (v : Value) (w : World) (rs : List Value) (en : Ending) (w' : World) : Prop :=
  ∃ v', en = .returned v' ∧ w'.ownsRow base e 1 v' rs.length rs ∧ w.grownBy w' v.ownBlock

set_option maxHeartbeats 1000000 in
theorem deleteI (f : FuncId) (cap : Array Value) (hf : Fv Tryd.prog f) (base : Nat) (v : Value) (xs : List Int) (p : Int → Bool) (w : World)
    (hown : w.ownsRow base 3 1 v xs.length (xs.map (Value.int .i64)))
    (hcl : ∀ u ∈ xs, ∀ w', w.grownBy w' v.ownBlock → Calls Tryd.prog f (#[Value.int .i64 u] ++ cap) w' fun e w'' => e = .returned (.bool (p u)) ∧ Ext w' w'') :
    Calls Tryd.prog 46 #[v, .func (.func f) #[] cap] w (PostDel base 3 v w ((xs.filter fun u => !p u).map (Value.int .i64))) := by
  have HO := Lib.hid hown
  have HCL := Lib.hid hcl
  have hrow := own_row (show w.ownsRow base 3 1 v (xs.map (Value.int .i64)).length (xs.map (Value.int .i64)) by rw [List.length_map]; exact hown)
  rw [List.length_map] at hrow
  obtain ⟨A, c, rfl, hc1, hc2, hrow⟩ := hrow
  clear hown hcl
  have HI := Lib.hid (indexFuncI f cap hf A c (xs.map (Value.int .i64)) (by rw [List.length_map]; exact hc2) (fun k => p (xs.getD k 0)) (fun _ w' => Ext w w') w (fun _ w' hw => hrow.ext hw)
    (fun k hk w' hw => by
      have hk' : k < xs.length := by simpa using hk
      have hg : xs.getD k 0 = xs[k] := by simp [hk']
      rw [List.getElem_map]
      refine (HCL.out _ (List.getElem_mem hk') w' ⟨hw.os, hw.tape, hw.output, hw.size, fun i hi _ => hw.block i hi⟩).mono ?_
      rintro e w'' ⟨rfl, hE⟩
      exact ⟨by rw [hg], hw.trans hE⟩) (Ext.refl w))
  rw [List.length_map] at HI
  clear hrow
  go_enter Tryd.func46, Tryd.ntmps46
  go_wp2_with fail
  refine HI.out.mono ?_
  rintro e w1 ⟨r, rfl, hs⟩
  dsimp only
  rcases hs with ⟨k, hk, hp, hn, rfl, hE⟩ | ⟨hn, rfl, hE⟩
  · have HP := Lib.hid hp
    have HN := Lib.hid hn
    have HE := Lib.hid hE
    clear hp hn hE HI
    obtain ⟨-, h | ⟨g, cap', cur, hv, hb, hg, hn', hm, hsz, ht⟩⟩ := HO.out
    · exact absurd h.2 (by omega)
    cases hv
    have HT := Lib.hid ht
    have HG : Hid (Blk w g 3 cur.toList) := Lib.hid (by unfold Blk; simpa using hg)
    have HSZ := Lib.hid hsz
    clear ht hg hsz
    have hmc : c ≤ 9223372036854775807 := by unfold maxLen at hm; omega
    have hkb : (((k : Nat) : Int) == -1) = false := by simp
    go_wp2
    go_loopw [5, 6] (fun i j wr => ∃ (a b : Nat) (cu : List Value), i = .int .i64 a ∧ j = .int .i64 b ∧ a < b ∧ b ≤ xs.length ∧ Hid (Upd g w wr ∧ Blk wr g 3 cu ∧ cu.length = c ∧ Moved (Value.int .i64) p xs cu a b)) (fun _ j _ => xs.length - (intOf j).toNat)
    case atStart =>
      refine ⟨k, k + 1, cur.toList, rfl, rfl, by omega, by omega, HE.out.upd g, HG.out.ext HE.out, by have := HSZ.out; simpa using this, Moved.start hk ?_ (fun j hj => ?_) (fun j hj => ?_) ?_⟩
      · have := HP.out; simpa [hk] using this
      · have := HN.out j hj; simpa [show j < xs.length by omega] using this
      · have := congrArg (fun l => l[j]?) HT.out
        rw [Nat.mul_one] at this
        simp only [List.getElem?_take, if_pos hj, List.getElem?_map, List.getElem?_eq_getElem hj] at this
        exact this
      · have := HSZ.out; simp; omega
    case round =>
      obtain ⟨a, b, cu, rfl, rfl, hab, hbn, HS⟩ := hrel
      by_cases hlt : b < xs.length
      · have hcell : wr.cell? ⟨g, b, none⟩ = some (Value.int .i64 xs[b]) := by rw [HS.out.2.1.cell, HS.out.2.2.2.2.1 b hlt (Nat.le_refl _)]
        cases hpb : p xs[b]
        all_goals
          have HPB := Lib.hid hpb
          have HC := Lib.hid (HCL.out xs[b] (List.getElem_mem hlt) wr HS.out.1)
          rw [hpb] at HC
          clear hpb
          go_wp2_with (
            refine wpList_callv (.tmp 26) #[.tmp 27] _ rfl rfl cap rfl hf (#[Value.int .i64 xs[b]] ++ cap) (by simp only [List.map_toArray, List.map_cons, List.map_nil]; rfl) ?_
            refine HC.out.mono ?_
            rintro e w2 ⟨rfl, hE2⟩
            refine ⟨_, rfl, ?_⟩
            have HE2 := Lib.hid hE2
            have hB2 := HS.out.2.1.ext hE2
            have hfz := hB2.free a
            obtain ⟨u0, hu0⟩ : ∃ u0, w2.cell? ⟨g, a, none⟩ = some u0 := by
              have h1 := HS.out.2.2.1
              have h2 := HS.out.2.2.2.2.2.2.2
              rw [hB2.cell]
              exact ⟨_, List.getElem?_eq_getElem (by omega)⟩
            have HB2 := Lib.hid hB2
            clear hE2 hB2
            clear hcell)
        · go_round
          case rel => exact ⟨a + 1, b + 1, cu.set a (Value.int .i64 xs[b]), by go_num, by go_num, by omega, by omega, (HS.out.1.trans (HE2.out.upd g)).trans (Upd.set _ g a _), HB2.out.set a _, by rw [List.length_set]; exact HS.out.2.2.1, HS.out.2.2.2.keep hlt HPB.out⟩
          case measure => simp [intOf]; omega
        · go_round
          case rel => exact ⟨a, b + 1, cu, rfl, by go_num, by omega, by omega, HS.out.1.trans (HE2.out.upd g), HB2.out, HS.out.2.2.1, HS.out.2.2.2.drop hlt HPB.out⟩
          case measure => simp [intOf]; omega
      · obtain rfl : b = xs.length := by omega
        have hB := HS.out.2.1
        have hlc : cu.length = c := HS.out.2.2.1
        have hsl1 := slice_from Tryd.underlying22 info_int (some ⟨g, 0, none⟩) xs.length c a (by omega)
        rw [if_neg (by omega), Option.map_some, addr0, Nat.mul_one] at hsl1
        have hsl2 := slice_to Tryd.underlying22 info_int (some ⟨g, 0, none⟩) xs.length c a (by omega)
        have hcl : ∀ ty, (Builtin.clear_ #[22] ty #[.slice (some ⟨g, a, none⟩) (xs.length - a) (c - a)]).run Tryd.prog wr = .ok (.tuple #[]) (wr.setCells g a (List.replicate (xs.length - a) (Value.int .i64 0))) := fun ty =>
          Lib.run_clear_slice wr 22 3 ty _ Tryd.underlying22 zero_deleteI rfl rfl g a (xs.length - a) (c - a) (by omega)
            (fun j hj => by rw [hB.cell, List.getElem?_eq_getElem (by omega)]; rfl) (fun j _ => hB.free _)
        obtain ⟨hU, cu', hB', hlc', htk⟩ := setCells_keep g (List.replicate (xs.length - a) (Value.int .i64 0)) a hB
        have HU := Lib.hid hU
        have HB' := Lib.hid hB'
        have HL' := Lib.hid hlc'
        have HTK := Lib.hid htk
        have HLC := Lib.hid hlc
        have HHB := Lib.hid hB
        clear hU hB' hlc' htk hlc hB
        go_wp2
        go_ret
        have hmv := HS.out.2.2.2.1
        rw [List.take_length] at hmv
        have hlen : a = ((xs.filter fun u => !p u).map (Value.int .i64)).length := by
          rw [← hmv, List.length_take]
          have := HLC.out
          omega
        refine ⟨_, rfl, ?_, HS.out.1.trans HU.out⟩
        have h5 := HB'.out
        unfold Blk at h5
        refine ⟨by simp, .inr ⟨g, c, cu'.toArray, ?_, hb, h5, by rw [← hlen]; omega, hm, ?_, ?_⟩⟩
        · rw [← hlen]; rfl
        · have := HL'.out; have := HLC.out; simp; omega
        · rw [← hlen, Nat.mul_one, ← hmv]
          exact HTK.out
  · go_wp2
    go_ret
    have hfn : xs.filter (fun u => !p u) = xs := filter_none (fun j hj => by have := hn j hj; simpa [hj] using this)
    refine ⟨_, rfl, ?_, hE.os, hE.tape, hE.output, hE.size, fun i hi _ => hE.block i hi⟩
    rw [hfn, List.length_map]
    exact own_ext HO.out hE

end Go.Proofs.YteokoaggkpjdeaaDoor
