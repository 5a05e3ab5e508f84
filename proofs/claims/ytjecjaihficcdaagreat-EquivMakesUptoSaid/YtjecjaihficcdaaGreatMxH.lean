/- Walks and plain laws that this claim uses. -/
import Derived.Test.YtjecjaihficcdaaGreatMxE
import Derived.Test.YtjecjaihficcdaaGreatMxG
import Derived.Test.YtjecjaihficcdaaGreatMxA
import Derived.BigRegion
import Derived.StillTailTactics
import Derived.Test.YtjecjaihficcdaaGreatMxF
import Derived.Test.YtjecjaihficcdaaGreatMxC
namespace Go.Proofs.YtjecjaihficcdaaGreat
open Go.RowKit Go.ChangeMaps
section
variable {κ : Type} {P : Program} {kv : κ → Value} {g r : Nat} {ks told : List (κ × Value)} {w : World}
def MR (kv : κ → Value) (w : World) (g r : Nat) (ks told : List (κ × Value)) : Prop :=
 ∃ (es : Array MapEntry) (clock since : Nat) (c0 : Nat) (tl : List MapEntry), w.heap[g]? = some (.map es clock) ∧ MapKept.Stamped es clock ∧ es.toList.map (fun e => (e.key, e.val)) = ks.map (fun p => (kv p.1, p.2)) ∧
  w.heap[r]? = some (.mapIter (some g) since (tl.map (·.born)).toArray c0) ∧ (∀ x ∈ es.toList, x.born < since) ∧ (since ≤ c0 ∧ since ≤ clock) ∧ (∀ e ∈ tl, e ∈ es.toList) ∧ (tl.map (·.born)).Nodup ∧ tl.map (fun e => (e.key, e.val)) = told.map fun p => (kv p.1, p.2)
theorem MapK.range (h : MapK kv w g ks) {T K E : TypeId} (hT : P.underlying T = some (.map K E)) :
 ∃ w', (Instr.range T (.map (some g))).run P w = .ok (.pointer (some ⟨w.heap.size, 0, none⟩)) w' ∧ MR kv w' g w.heap.size ks [] ∧ Ext w w' ∧ w'.heap.size = w.heap.size + 1 := by
 obtain ⟨es, clock, hg, hs, hm⟩ := h
 refine ⟨w.alloc (.mapIter (some g) clock #[] clock), run_range_map w T K E g es clock hT hg, ⟨es, clock, clock, clock, [], ?_, hs, hm, heap_alloc_new w _, hs.1, ⟨Nat.le_refl _, Nat.le_refl _⟩, by simp, by simp, rfl⟩, Ext.alloc w _, by simp⟩
 · exact (Ext.alloc w _).block g (Array.getElem?_eq_some_iff.1 hg).1 |>.trans hg
theorem nodup_lenN : ∀ (l u : List Nat), l.Nodup → (∀ x ∈ l, x ∈ u) → l.length ≤ u.length
 | [], _, _, _ => by simp
 | x :: l, u, hn, hs => by
   rw [List.nodup_cons] at hn
   have hx := hs x (by simp)
   have h1 := nodup_lenN l (u.erase x) hn.2 (fun y hy => (List.mem_erase_of_ne (fun e => hn.1 (by rw [← e]; exact hy))).2 (hs y (by simp [hy])))
   rw [List.length_erase_of_mem hx] at h1
   have := List.length_pos_of_mem hx
   simp only [List.length_cons]
   omega
theorem MR.len (h : MR kv w g r ks told) : told.length ≤ ks.length := by
 obtain ⟨es, clock, since, c0, tl, -, -, hm, -, -, -, h1, h2, h3⟩ := h
 have e1 := congrArg List.length h3
 have e2 := congrArg List.length hm
 simp only [List.length_map] at e1 e2
 have := nodup_lenN (tl.map (·.born)) (es.toList.map (·.born)) h2 (fun b hb => by
  obtain ⟨e, he, rfl⟩ := List.mem_map.1 hb
  exact List.mem_map.2 ⟨e, h1 e he, rfl⟩)
 simp only [List.length_map] at this
 omega
theorem MR.keep {S : Nat → Prop} {w' : World} (h : MR kv w g r ks told) (k : Chg S w w') (hg : ¬ S g) (hr : ¬ S r) : MR kv w' g r ks told := by
 obtain ⟨es, clock, since, c0, tl, h1, h2, h3, h4, h5⟩ := h
 exact ⟨es, clock, since, c0, tl, (k.block g (Array.getElem?_eq_some_iff.1 h1).1 hg).trans h1, h2, h3, (k.block r (Array.getElem?_eq_some_iff.1 h4).1 hr).trans h4, h5⟩
theorem MR.lt (h : MR kv w g r ks told) : r < w.heap.size := by
 obtain ⟨es, clock, since, c0, tl, h1, h2, h3, h4, h5⟩ := h
 exact (Array.getElem?_eq_some_iff.1 h4).1
theorem setBlock_chg (w : World) (r : Nat) (o : Obj) : Chg (fun k => k = r) w (setBlock w r o) :=
 ⟨rfl, rfl, rfl, by simp [setBlock], fun k _ hn => by simp only [setBlock]; rw [Array.getElem?_setIfInBounds_ne (fun e => hn e.symm)]⟩
theorem MR.next (h : MR kv w g r ks told) (hgr : g ≠ r) (ty : TypeId) :
 ((∀ p ∈ ks, ∃ q ∈ told, kv q.1 = kv p.1 ∧ q.2 = p.2) ∧ (Instr.next (.pointer (some ⟨r, 0, none⟩)) false ty).run P w = .ok (.tuple #[.bool false]) w) ∨
 ∃ p ∈ ks, ∃ w', (Instr.next (.pointer (some ⟨r, 0, none⟩)) false ty).run P w = .ok (.tuple #[.bool true, kv p.1, p.2]) w' ∧ (Instr.entry (.pointer (some ⟨r, 0, none⟩))).run P w' = .ok (.tuple #[kv p.1, p.2]) w' ∧ MR kv w' g r ks (told ++ [p]) ∧ Chg (fun k => k = r) w w' := by
 obtain ⟨es, clock, since, c0, tl, hg, hs, hm, hr, hb, hsc, h1, h2, h3⟩ := h
 have find : ∀ e ∈ es.toList, ∃ p ∈ ks, e.key = kv p.1 ∧ e.val = p.2 := fun e he => by
  obtain ⟨j, hj, rfl⟩ := List.getElem_of_mem he
  have hlen := congrArg List.length hm
  simp only [List.length_map] at hlen
  have := congrArg (fun l => l[j]?) hm
  simp only [List.getElem?_map, List.getElem?_eq_getElem hj, List.getElem?_eq_getElem (show j < ks.length by omega), Option.map_some] at this
  injection this with this
  exact ⟨ks[j], List.getElem_mem _, congrArg Prod.fst this, congrArg Prod.snd this⟩
 rcases run_next_at (P := P) w ty r g since c0 _ es clock hr hg hb hsc.1 with ⟨h0, hrun⟩ | ⟨e, he, w1, hw1, hrun⟩
 · refine .inl ⟨fun p hp => ?_, hrun⟩
   obtain ⟨j, hj, rfl⟩ := List.getElem_of_mem hp
   have hlen := congrArg List.length hm
   simp only [List.length_map] at hlen
   have hje : j < es.toList.length := by omega
   have hkv := congrArg (fun l => l[j]?) hm
   simp only [List.getElem?_map, List.getElem?_eq_getElem hj, List.getElem?_eq_getElem hje, Option.map_some] at hkv
   injection hkv with hkv
   have hin : es.toList[j].born ∈ tl.map (·.born) := by
    by_cases hc : es.toList[j].born ∈ tl.map (·.born)
    · exact hc
    · exfalso
      have : es.toList[j] ∈ (leftOf es (tl.map (·.born)).toArray).toList := by
       unfold leftOf
       simp only [Array.toList_filter, List.mem_filter]
       refine ⟨List.getElem_mem hje, ?_⟩
       simpa using hc
      have h9 := List.length_pos_of_mem this
      simp at h9
      omega
   obtain ⟨e', he', heb⟩ := List.mem_map.1 hin
   have hee : e' = es.toList[j] := by
    have hn := hs.2.1
    obtain ⟨i, hi, rfl⟩ := List.getElem_of_mem (h1 e' he')
    have : i = j := by
     have h5 : (es.toList.map (·.born))[i]? = (es.toList.map (·.born))[j]? := by
      simp only [List.getElem?_map, List.getElem?_eq_getElem hi, List.getElem?_eq_getElem hje, Option.map_some, heb]
     exact (List.getElem?_inj (by simpa using hi) hn).1 h5
    subst this; rfl
   have hm3 : (e'.key, e'.val) ∈ told.map fun p => (kv p.1, p.2) := by rw [← h3]; exact List.mem_map.2 ⟨e', he', rfl⟩
   obtain ⟨q, hq, hqe⟩ := List.mem_map.1 hm3
   rw [hee] at hqe
   have e1 := congrArg Prod.fst hqe
   have e2 := congrArg Prod.snd hqe
   have e3 := congrArg Prod.fst hkv
   have e4 := congrArg Prod.snd hkv
   exact ⟨q, hq, e1.trans e3, e2.trans e4⟩
 · unfold leftOf at he
   simp only [Array.toList_filter, List.mem_filter] at he
   obtain ⟨hein, hnew⟩ := he
   obtain ⟨p, hp, hk1, hk2⟩ := find e hein
   have hE1 : Ext w w1 := by rcases hw1 with rfl | rfl; exact Ext.refl _; exact Ext.drew w
   have hr1 : w1.heap[r]? = some (.mapIter (some g) since (tl.map (·.born)).toArray c0) := (hE1.block r (Array.getElem?_eq_some_iff.1 hr).1).trans hr
   have hg1 : w1.heap[g]? = some (.map es clock) := (hE1.block g (Array.getElem?_eq_some_iff.1 hg).1).trans hg
   have hrl := (Array.getElem?_eq_some_iff.1 hr1).1
   have hr2 : (setBlock w1 r (.mapIter (some g) since ((tl.map (·.born)).toArray.push e.born) clock)).heap[r]? = some (.mapIter (some g) since ((tl.map (·.born)).toArray.push e.born) clock) := by
    simp [setBlock, hrl]
   have hg2 : (setBlock w1 r (.mapIter (some g) since ((tl.map (·.born)).toArray.push e.born) clock)).heap[g]? = some (.map es clock) :=
    ((setBlock_chg w1 r _).block g (Array.getElem?_eq_some_iff.1 hg1).1 hgr).trans hg1
   have hent := run_entry_at (P := P) _ r g since _ es clock e hr2 hg2 hein hs.2.1
   have hpush : (tl.map (·.born)).toArray.push e.born = ((tl ++ [e]).map (·.born)).toArray := by simp
   refine .inr ⟨p, hp, _, by rw [← hk1, ← hk2]; exact hrun, by rw [← hk1, ← hk2]; exact hent, ⟨es, clock, since, clock, tl ++ [e], hg2, hs, hm, by rw [hr2, hpush], hb, ?_, ?_, ?_, ?_⟩, (hE1.chg _).trans (setBlock_chg w1 r _)⟩
   · exact ⟨hsc.2, hsc.2⟩
   · intro e' he'
     rcases List.mem_append.1 he' with h | h
     · exact h1 e' h
     · simp at h; subst h; exact hein
   · rw [List.map_append, List.nodup_append]
     refine ⟨h2, by simp, fun a ha b hb2 hab => ?_⟩
     simp at hb2
     subst hb2
     subst hab
     simp at hnew
     obtain ⟨x, hx, hxe⟩ := List.mem_map.1 ha
     exact hnew x hx hxe
   · rw [List.map_append, h3, List.map_append, List.map_singleton, List.map_singleton, hk1, hk2]
end
end Go.Proofs.YtjecjaihficcdaaGreat
namespace Go.Proofs.YtjecjaihficcdaaGreat
open Go.RowKit
def keyL (told : List (Int × Value)) : List Int := told.flatMap fun p => [p.1, -p.1]
theorem keyL_len (told : List (Int × Value)) : (keyL told).length = 2 * told.length := by
 unfold keyL
 induction told with
 | nil => rfl
 | cons p t ih => rw [List.flatMap_cons, List.length_append, ih, List.length_cons]; simp; omega
theorem keyL_snoc (told : List (Int × Value)) (p : Int × Value) : keyL (told ++ [p]) = keyL told ++ [p.1, -p.1] := by unfold keyL; rw [List.flatMap_append]; simp
theorem ri2 (w : World) (x y : Int) : RI (w.alloc (.cells #[.int .i64 x, .int .i64 y] 3)) (.slice (some ⟨w.heap.size, 0, none⟩) 2 2) [x, y] := lit0 w [x, y] (by simp)
theorem mem_keyL (told : List (Int × Value)) (x : Int) : x ∈ keyL told ↔ ∃ p ∈ told, x = p.1 ∨ x = -p.1 := by
 unfold keyL
 simp only [List.mem_flatMap, List.mem_cons, List.not_mem_nil, or_false]
theorem keyL_var {f : List (List Int)} {ks told : List (Int × Value)} (hm : mayCnfB f = true) (hd : ∀ n, n ∈ ks.map Prod.fst ↔ -n ∈ lits2 f) (hs : ∀ p ∈ told, p ∈ ks) : ∀ x ∈ keyL told, varOf x ≠ 0 := fun x hx => by
 obtain ⟨p, hp, h⟩ := (mem_keyL told x).1 hx
 have h1 := lits2_var hm _ ((hd p.1).1 (List.mem_map.2 ⟨p, hs p hp, rfl⟩))
 rw [varOf_neg] at h1
 rcases h with rfl | rfl
 · exact h1
 · rw [varOf_neg]; exact h1
theorem keyL_set {f : List (List Int)} {ks told : List (Int × Value)} (hd : ∀ n, n ∈ ks.map Prod.fst ↔ -n ∈ lits2 f) (hs : ∀ p ∈ told, p ∈ ks) (ha : ∀ p ∈ ks, ∃ q ∈ told, q.1 = p.1) : setL [] (keyL told) = graphLits f := by
 refine sorted_ext blt_asym (setL_sorted _ List.Pairwise.nil) (setL_sorted _ List.Pairwise.nil) fun x => ?_
 rw [mem_graphLits, mem_setL, mem_keyL]
 constructor
 · rintro (h | ⟨p, hp, rfl | rfl⟩)
   · cases h
   · exact .inr ((hd _).1 (List.mem_map.2 ⟨p, hs p hp, rfl⟩))
   · exact .inl ((hd _).1 (List.mem_map.2 ⟨p, hs p hp, rfl⟩))
 · rintro (h | h)
   · obtain ⟨p, hp, he⟩ := List.mem_map.1 ((hd (-x)).2 (by simpa using h))
     obtain ⟨q, hq, hqe⟩ := ha p hp
     exact .inr ⟨q, hq, .inr (by omega)⟩
   · obtain ⟨p, hp, he⟩ := List.mem_map.1 ((hd x).2 h)
     obtain ⟨q, hq, hqe⟩ := ha p hp
     exact .inr ⟨q, hq, .inl (by omega)⟩
set_option maxRecDepth 100000 in
set_option maxHeartbeats 2000000 in
theorem literals_any (f : List (List Int)) (g : Nat) (ks : List (Int × Value)) (w : World) (hg : GR w g ks f) (hm : mayCnfB f = true) (hkl : ks.length ≤ 100000) :
 Calls Tryz.prog 46 #[.map (some g)] w fun e w' => ∃ v, e = .returned v ∧ OwnI w' w.heap.size v (graphLits f) ∧ Ext w w' := by
 obtain ⟨w1, hrun, hmr, hE, hsz⟩ := hg.map.range (P := Tryz.prog) Tryz.underlying67
 have hgl : g < w.heap.size := hg.map.lt
 have HMR := Lib.hid hmr
 have HE := Lib.hid hE
 have HG := Lib.hid hg
 have HM := Lib.hid hm
 have hz1 : w.heap.size + 1 ≤ w1.heap.size := by omega
 clear hmr hE hg hm hsz
 go_enter Tryz.func46, Tryz.ntmps46
 go_wp2
 go_loopg [3] ks.length (fun gn v wr => ∃ told, gn + told.length = ks.length ∧ Hid (MR kvI wr g w.heap.size ks told ∧ OwnI wr (w.heap.size + 1) v (keyL told) ∧ Ext w wr ∧ (∀ p ∈ told, p ∈ ks) ∧ w.heap.size + 1 ≤ wr.heap.size))
 case atStart => exact ⟨[], rfl, Lib.hid ⟨HMR.out, OwnI.nil _ _, HE.out, by simp, hz1⟩⟩
 case round =>
  obtain ⟨told, hgn, HS⟩ := hrel
  obtain ⟨w2, rfl⟩ : ∃ w2 : World, w2 = wr := ⟨_, rfl⟩
  rcases HS.out.1.next (P := Tryz.prog) (by omega) 0 with ⟨hall, hnext⟩ | ⟨p, hp, w3, hnext, hent, hmr3, hc3⟩
  · have hall' : ∀ p ∈ ks, ∃ q ∈ told, q.1 = p.1 := fun p hp => by
     obtain ⟨q, hq, h1, -⟩ := hall p hp
     unfold kvI at h1
     injection h1 with _ h1
     exact ⟨q, hq, h1⟩
    have hvar := keyL_var HM.out HG.out.dom HS.out.2.2.2.1
    have h64 : All64 (keyL told) := fun x hx => by have := varOf_eq (hvar x hx); have := varOf_range x; unfold I64; omega
    have hlen : (keyL told).length ≤ 1000000 := by rw [keyL_len]; have := HS.out.1.len; omega
    have HST := Lib.hid (keyL_set HG.out.dom HS.out.2.2.2.1 hall')
    have HVAR := Lib.hid hvar
    have H64 := Lib.hid h64
    have HO := Lib.hid HS.out.2.1
    have HE2 := Lib.hid HS.out.2.2.1
    have HLEN := Lib.hid hlen
    clear hall hall' hvar h64 HS hgn hrun hlen
    go_wp2_with (first
     | (go_at_call 51; refine (SortE_own (keyL told) _ _ _ HO.out (by have := HLEN.out; omega) H64.out).mono ?_; rintro e w4 ⟨ys, rfl, ho, hgr, hp, hs⟩; have HO2 := Lib.hid ho; have HE4 := Lib.hid (HE2.out.grown hgr (fun k hk => by have := (own_typed HO.out hk).1; omega)); have HC := Lib.hid (sortE_compact hp hs HVAR.out); have HYL : Hid (ys.length ≤ 1000000) := Lib.hid (by rw [hp.length_eq]; exact HLEN.out); clear ho hgr hp hs)
     | (go_at_call 74; refine (Compact_own ys _ _ _ HO2.out (by have := HYL.out; omega)).mono ?_; rintro e w5 ⟨v5, rfl, ho, hgr, -⟩; rw [HC.out, HST.out] at ho; have HO5 := Lib.hid ho; have HE5 := Lib.hid (HE4.out.grown hgr (fun k hk => by have := (own_typed HO2.out hk).1; omega)); clear ho hgr))
    go_ret
    exact ⟨_, rfl, own_lower HO5.out (by omega), HE5.out⟩
  · have hpk : varOf p.1 ≠ 0 := by
     have h1 := lits2_var HM.out _ ((HG.out.dom p.1).1 (List.mem_map.2 ⟨p, hp, rfl⟩))
     rwa [varOf_neg] at h1
    have hpv := varOf_eq hpk
    have hpr := varOf_range p.1
    have hO3 : OwnI w3 (w.heap.size + 1) u3 (keyL told) := hc3.own HS.out.2.1 (fun b hb e => by have := (own_typed HS.out.2.1 hb).1; omega)
    have hE3 : Ext w w3 := hc3.toExt HS.out.2.2.1 (fun i hi => by omega)
    have hs3 : w.heap.size + 1 ≤ w3.heap.size := Nat.le_trans HS.out.2.2.2.2 hc3.size
    have hlen := hmr3.len
    rw [List.length_append, List.length_singleton] at hlen
    have HP := Lib.hid hp
    obtain ⟨k, hk⟩ : ∃ k, k = p.1 := ⟨_, rfl⟩
    rw [← hk] at hpv hpr hpk
    unfold kvI at hnext hent
    rw [← hk] at hnext hent
    have hk1 : -65536 ≤ k := by omega
    have hk2 : k ≤ 65536 := by omega
    have HKE := Lib.hid hk
    have HO3 := Lib.hid hO3
    have HE3 := Lib.hid hE3
    have HMR3 := Lib.hid hmr3
    have hkl2 : (keyL told).length ≤ 200000 := by rw [keyL_len]; omega
    have HKL2 := Lib.hid hkl2
    obtain ⟨pv, hpv2⟩ : ∃ pv, pv = p.2 := ⟨_, rfl⟩
    rw [← hpv2] at hnext hent
    clear hp hpk hpv hpr hO3 hE3 hmr3 hc3 hk hkl2 hpv2 hrun
    go_wp2_with (at_builtin
                 refine app_I rfl (.tmp 11) (.tmp 15) rfl (base := w.heap.size + 1) (xs := keyL told) (ys := [k, -k]) rfl rfl (own_ext HO3.out (Ext.alloc _ _)) (ri2 w3 k (-k)) (by have := HKL2.out; simp; omega) (by simp; omega) ?_
                 intro v' w4 hown hgr
                 have HO4 := Lib.hid hown
                 have hne : ∀ b, some b = u3.ownBlock → ¬ b = w.heap.size := fun b hb e => by have := (own_typed HO3.out hb.symm).1; omega
                 have hgc := grown_chg hgr
                 have HMR4 := Lib.hid ((HMR3.out.keep ((Ext.alloc w3 (.cells #[.int .i64 k, .int .i64 (-k)] 3)).chg (fun _ => False)) id id).keep hgc (fun h => by have := (own_typed HO3.out h.symm).1; omega) (fun h => hne _ h rfl))
                 have HE4 := Lib.hid ((HE3.out.trans (Ext.alloc w3 (.cells #[.int .i64 k, .int .i64 (-k)] 3))).grown hgr (fun b hb => by have := (own_typed HO3.out hb).1; omega))
                 have hs4 : w.heap.size + 1 ≤ w4.heap.size := (by have := hgr.size; simp at this; omega)
                 clear hown hgr hne hgc)
    go_roundg (ks.length - (told.length + 1))
    case measure => omega
    case rel => exact ⟨told ++ [p], by rw [List.length_append, List.length_singleton]; omega, Lib.hid ⟨HMR4.out, by rw [keyL_snoc, ← HKE.out]; exact HO4.out, HE4.out, fun q hq => by
     rcases List.mem_append.1 hq with h | h
     · exact HS.out.2.2.2.1 q h
     · simp at h; subst h; exact HP.out, hs4⟩⟩
end Go.Proofs.YtjecjaihficcdaaGreat
namespace Go.Proofs.YtjecjaihficcdaaGreat
open Go.RowKit
theorem fv_failed1 : Fv Tryz.prog 47 := ⟨_, Tryz.func47, by kernel_rfl, by kernel_rfl⟩
set_option maxHeartbeats 400000 in
theorem failed1_fn (f : List (List Int)) (g b : Nat) (ks : List (Int × Value)) (x : Int) (w : World) (hf : f.length ≤ 20000) (hg : GR w g ks f) (hb : w.cell? ⟨b, 0, none⟩ = some (.map (some g))) (h1 : -65536 ≤ x) (h2 : x ≤ 65536) :
 Calls Tryz.prog 47 #[.int .i64 x, .pointer (some ⟨b, 0, none⟩)] w fun e w' => e = .returned (.bool (!decide (-x ∈ reachL f x))) ∧ Ext w w' := by
 have HR := Lib.hid (reaches_any f g ks x (-x) w hf hg)
 obtain ⟨r, hr⟩ : ∃ r, r = decide (-x ∈ reachL f x) := ⟨_, rfl⟩
 rw [← hr] at HR ⊢
 clear hr hg
 go_enter Tryz.func47, Tryz.ntmps47
 go_wp2_with (go_at_call 48; refine HR.out.mono ?_; rintro e w' ⟨rfl, hE⟩; have HE := Lib.hid hE; clear hE)
 cases r
 all_goals
  go_ret
  exact ⟨rfl, HE.out⟩
theorem keys_len {f : List (List Int)} {g : Nat} {ks : List (Int × Value)} {w : World} (hg : GR w g ks f) : ks.length ≤ 2 * f.length := by
 have h1 := MapK.nodup hg.map
 have h2 := nodup_len (ks.map Prod.fst) ((lits2 f).map fun x => -x) h1 (fun x hx => List.mem_map.2 ⟨-x, (hg.dom x).1 hx, by omega⟩)
 rw [List.length_map, List.length_map] at h2
 have := lits2_len f
 omega
set_option maxHeartbeats 1000000 in
theorem Failed_any (f : List (List Int)) (u : Value) (w : World) (h64 : All64L f) (kr : RLL w u f) (ht : f.length ≤ 20000 → total f ≤ 9223372036854775807) :
 Calls Tryz.prog 14 #[u] w fun e w' => ∃ v, e = .returned v ∧ OwnI w' w.heap.size v (FailV f) ∧ Ext w w' := by
 have HM := Lib.hid (fun w' (h : Ext w w') => mayCnf_any u f w' (RLL.ext' kr h) h64 ht)
 have HKR := Lib.hid kr
 obtain ⟨A, c, vs, rfl, k1, k2, -⟩ := kr
 unfold FailV
 cases hm : mayCnfB f
 · rw [if_pos rfl]
   rw [hm] at HM
   clear hm
   go_enter Tryz.func14, Tryz.ntmps14
   go_wp2_with (go_at_call 37; refine (HM.out _ (Ext.refl _)).mono ?_; rintro e w1 ⟨rfl, hE⟩; have HE := Lib.hid hE; clear hE)
   go_ret
   exact ⟨_, rfl, OwnI.nil _ _, HE.out⟩
 · rw [if_neg (by simp)]
   rw [hm] at HM
   have HMM := Lib.hid hm
   obtain ⟨R, hR⟩ : ∃ R, R = (graphLits f).filter fun x => decide (-x ∈ reachL f x) := ⟨_, rfl⟩
   rw [← hR]
   have HRR := Lib.hid hR
   clear hm hR
   go_enter Tryz.func14, Tryz.ntmps14
   go_wp2_with (first
    | (go_at_call 37; refine (HM.out _ (Ext.refl _)).mono ?_; rintro e w1 ⟨rfl, hE⟩; have HE := Lib.hid hE; clear hE)
    | (go_at_call 39; refine (implications_any f _ _ h64 (RLL.ext' HKR.out HE.out) HMM.out).mono ?_; rintro e w2 ⟨g, ks, rfl, hg, hE⟩; have HG := Lib.hid (GM.reads hg); have HE2 := Lib.hid (HE.out.trans hE); clear hg hE)
    | (go_at_call 46
       refine (literals_any f g ks _ (HG.out.ext (Ext.alloc w2 _)) HMM.out (by have := keys_len HG.out; have := mayCnfB_len HMM.out; omega)).mono ?_
       rintro e w3 ⟨v3, rfl, ho, hE⟩
       have HO := Lib.hid ho
       have HE3 := Lib.hid (HE2.out.trans ((Ext.alloc w2 _).trans hE))
       have HG3 := Lib.hid (HG.out.ext ((Ext.alloc w2 _).trans hE))
       have HB3 := Lib.hid ((Var1.new w2 67 (.map (some g))).ext hE)
       clear ho hE)
    | (go_at_call 45
       refine (deleteI 47 #[.pointer (some ⟨w2.heap.size, 0, none⟩)] fv_failed1 _ v3 (graphLits f) (fun x => !decide (-x ∈ reachL f x)) _ HO.out (fun x hx w' hw' => (by
        have hgr := grown_chg hw'
        have hown : ∀ b, some b = v3.ownBlock → w2.heap.size + 1 ≤ b := fun b hb => by have := (own_typed HO.out hb.symm).1; simpa using this
        have hg' := HG3.out.chg hgr (fun k hk h => by have := HG.out.lt hk; have := hown k h; omega)
        have hb' := hgr.cell HB3.out.cell (fun h => by have := hown _ h; simp at this; omega)
        have hv : varOf x ≠ 0 := by
         rcases (mem_graphLits f x).1 hx with h | h
         · exact lits2_var HMM.out x h
         · have := lits2_var HMM.out _ h; rwa [varOf_neg] at this
        have := varOf_eq hv
        have := varOf_range x
        exact failed1_fn f g w2.heap.size ks x w' (mayCnfB_len HMM.out) hg' hb' (by omega) (by omega)))).mono ?_
       rintro e w4 ⟨v4, rfl, ho, hgr⟩
       have HO4 := Lib.hid ho
       have HE4 := Lib.hid (HE3.out.grown hgr (fun k hk => (by have := (own_typed HO.out hk).1; simp at this; have := HE2.out.size; omega)))
       clear ho hgr))
   go_ret
   refine ⟨_, rfl, ?_, HE4.out⟩
   have := HO4.out
   simp only [Bool.not_not] at this
   rw [← HRR.out, List.length_map] at this
   exact own_lower this (by have := HE2.out.size; simp; omega)
end Go.Proofs.YtjecjaihficcdaaGreat
namespace Go.Proofs.YtjecjaihficcdaaGreat
open Go.RowKit
section
variable {κ : Type} [DecidableEq κ] {P : Program} {T K E : TypeId} {kv : κ → Value} {w : World} {g : Nat} {ks : List (κ × Value)}
theorem findIdx_born (es : List MapEntry) (e : MapEntry) (hn : (es.map (·.born)).Nodup) (j : Nat) (hj : j < es.length) (he : es[j] = e) : es.findIdx? (fun x => (x.born : Int) == (e.born : Int)) = some j := by
 rw [List.findIdx?_eq_some_iff_getElem]
 refine ⟨hj, by simp [he], fun i hi => ?_⟩
 simp only [beq_iff_eq]
 intro hb
 have h1 : (es.map (·.born))[i]? = (es.map (·.born))[j]? := by
  simp only [List.getElem?_map, List.getElem?_eq_getElem hj, List.getElem?_eq_getElem (show i < es.length by omega), Option.map_some, he]
  congr 1; omega
 have := (List.getElem?_inj (by simp; omega) hn).1 h1
 omega
theorem arr_findIdx (xs : Array MapEntry) (p : MapEntry → Bool) : xs.findIdx? p = xs.toList.findIdx? p := by obtain ⟨l⟩ := xs; simp
theorem MapK.entry_new (h : MapK kv w g ks) (F : KeyFam P K kv) (hT : P.underlying T = some (.map K E)) {z : Value} (hz : (zeroValue E).run P w = .ok z w) (n : κ) (hno : lkp ks n = none) :
 ∃ st w1, (Instr.mapEntry T (.map (some g)) (kv n)).run P w = .ok (.tuple #[z, .int .i64 st]) w1 ∧ MapK kv w1 g (ks ++ [(n, z)]) ∧ Chg (fun k => k = g) w w1 ∧
  ∀ w2 v, w2.heap[g]? = w1.heap[g]? → ∃ w3, (Instr.entryStore T (.map (some g)) (.int .i64 st) v).run P w2 = .ok () w3 ∧ MapK kv w3 g (kput ks n v) ∧ Chg (fun k => k = g) w2 w3 := by
 obtain ⟨es, clock, hg, hs, hm⟩ := h
 have hf := F.find ks es.toList n w hm
 have hc := F.chk false n w
 have hidx : idxK ks n 0 = none := by
  have := idxK_val ks n 0
  rw [hno] at this
  simpa using this
 rw [hidx] at hf
 have hno' := idxK_none hidx
 have hkeys : ∀ x ∈ es.toList, x.key ≠ kv n := fun x hx e => by
  have : (x.key, x.val) ∈ ks.map fun p => (kv p.1, p.2) := by rw [← hm]; exact List.mem_map.2 ⟨x, hx, rfl⟩
  obtain ⟨p, hp, hpe⟩ := List.mem_map.1 this
  have h1 : kv p.1 = kv n := (congrArg Prod.fst hpe).trans e
  exact hno' (by rw [← F.inj _ _ h1]; exact List.mem_map.2 ⟨p, hp, rfl⟩)
 have hst := MapKept.stamped_push (val := z) hs hkeys
 have hg1 := setObjW_at (o' := .map (es.push { key := kv n, val := z, born := clock }) (clock + 1)) hg
 refine ⟨(clock : Int), setObjW w g (.map (es.push { key := kv n, val := z, born := clock }) (clock + 1)), ?_, ⟨_, _, hg1, hst, ?_⟩, setObjW_chg w g _, fun w2 v hw2 => ?_⟩
 · simp [Instr.mapEntry, run_underlying hT, MapKept.run_getObj_map hg, hc, hf, hz, Result.andThen, MapKept.run_setObj_map _ hg, setObjW, goInt]
 · rw [Array.toList_push, List.map_append, hm]; simp
 · have hg2 := hw2.trans hg1
   have hfi : (es.push { key := kv n, val := z, born := clock }).findIdx? (fun e => (e.born : Int) == (clock : Int)) = some es.size := by
    rw [arr_findIdx]
    have hb : (es.push { key := kv n, val := z, born := clock }).toList.length = es.size + 1 := by simp
    have := findIdx_born (es.push { key := kv n, val := z, born := clock }).toList { key := kv n, val := z, born := clock } hst.2.1 es.size (by omega) (by simp)
    exact this
   refine ⟨setObjW w2 g (.map ((es.push { key := kv n, val := z, born := clock }).modify es.size fun e => { e with val := v }) (clock + 1)), ?_, ⟨_, _, setObjW_at hg2, MapKept.stamped_modify hst _ _ (fun _ _ => rfl) (fun _ _ _ => rfl), ?_⟩, setObjW_chg w2 g _⟩
   · simp [Instr.entryStore, MapKept.run_getObj_map hg2, asInt, asIntOf, hfi, Result.andThen, MapKept.run_setObj_map _ hg2, setObjW]
   · have hes : ((es.push { key := kv n, val := z, born := clock }).modify es.size fun e => { e with val := v }).toList = es.toList ++ [{ key := kv n, val := v, born := clock }] := by
      rw [Array.toList_modify, modify_set _ _ _ (by simp)]
      simp
     rw [hes, List.map_append, hm, kput_new hno']; simp
omit [DecidableEq κ] in
theorem MapK.len (h : MapK kv w g ks) (hT : P.underlying T = some (.map K E)) (ty : TypeId) : (Builtin.len_ #[T] ty #[.map (some g)]).run P w = .ok (.int .i64 (ks.length : Int)) w := by
 obtain ⟨es, clock, hg, hl⟩ := h.size
 simp [Builtin.len_, run_underlying hT, MapKept.run_getObj_map hg, Result.andThen, Builtin.lenOf, goInt, hl]
end
end Go.Proofs.YtjecjaihficcdaaGreat
namespace Go.Proofs.YtjecjaihficcdaaGreat
open Go.RowKit
def OwnCl (w : World) (base : Nat) (pv cv : Value) (vs : List Value) (cls : List (List Int)) : Prop :=
 w.ownsRow base 24 1 cv vs.length vs ∧ vs.length = cls.length ∧ (∀ j (h : j < vs.length) (h' : j < cls.length), OwnI w base vs[j] cls[j]) ∧
  (∀ v ∈ vs, ∀ k, v.ownBlock = some k → pv.ownBlock ≠ some k) ∧ vs.Pairwise fun a b => ∀ k, a.ownBlock = some k → b.ownBlock ≠ some k
structure FB where
 F : Nat
 g : Nat
 gn : Nat
 gl : Nat
 go : Nat
 ks : List (Int × Value)
 lv : Value
 lx : List Int
structure TW (base : Nat) (f : List (List Int)) (B : FB) (w : World) (pv cv : Value) (vs : List Value) (s : Tj) : Prop where
 fb : Blk w B.F 80 [.map (some B.g), .map (some B.gn), .map (some B.gl), .map (some B.go), pv, cv]
 gr : GR w B.g B.ks f
 gb : ∀ k, GB B.g B.ks k → k < base
 num : ∃ kn, MapK kvI w B.gn kn ∧ kn.length = s.cnt ∧ ∀ n, lkp kn n = if s.num n = 0 then none else some (.int .i64 (s.num n))
 low : ∃ kl, MapK kvI w B.gl kl ∧ (∀ n, (lkp kl n).getD (.int .i64 0) = .int .i64 (s.low n)) ∧ ∀ n, s.num n = 0 → lkp kl n = none
 on : ∃ ko, MapK kvI w B.go ko ∧ (∀ n, (lkp ko n).getD (.bool false) = .bool (s.on n)) ∧ ∀ n, s.num n = 0 → lkp ko n = none
 path : OwnI w base pv s.path
 cls : OwnCl w base pv cv vs s.cls
 ne : B.gn ≠ B.gl ∧ B.gn ≠ B.go ∧ B.gl ≠ B.go
 bs : base ≤ B.F ∧ base ≤ B.gn ∧ base ≤ B.gl ∧ base ≤ B.go
 sz : base ≤ w.heap.size
 lit : OwnI w base B.lv B.lx
 litp : ∀ k, B.lv.ownBlock = some k → pv.ownBlock ≠ some k
structure Kp (base : Nat) (w w' : World) : Prop where
 chg : Chg (fun i => base ≤ i) w w'
 row : ∀ (b : Nat) (cur : Array Value), w.heap[b]? = some (.cells cur 113 (0, 0)) → w'.heap[b]? = w.heap[b]?
theorem Kp.refl (base : Nat) (w : World) : Kp base w w := ⟨Chg.refl _ _, fun _ _ _ => rfl⟩
theorem Kp.trans {base : Nat} {a b c : World} (h : Kp base a b) (k : Kp base b c) : Kp base a c :=
 ⟨h.chg.trans k.chg, fun i cur hi => (k.row i cur ((h.row i cur hi).trans hi)).trans (h.row i cur hi)⟩
theorem Kp.ext {base : Nat} {w w' : World} (h : Ext w w') : Kp base w w' := ⟨h.chg _, fun i _ hi => h.block i (Array.getElem?_eq_some_iff.1 hi).1⟩
theorem Kp.own {base : Nat} {w w' : World} (h : Kp base w w') {n : Nat} {v : Value} {xs : List Value} (ho : w.ownsRow base 113 2 v n xs) : w'.ownsRow base 113 2 v n xs := by
 obtain ⟨h1, h2 | ⟨g, cap, cur, rfl, hb, hg, r⟩⟩ := ho
 · exact ⟨h1, .inl h2⟩
 · exact ⟨h1, .inr ⟨g, cap, cur, rfl, hb, (h.row g cur hg).trans hg, r⟩⟩
theorem Kp.of {base : Nat} {w w' : World} {S : Nat → Prop} (h : Chg S w w') (h1 : ∀ i, S i → base ≤ i) (h2 : ∀ i, S i → ∀ cur : Array Value, w.heap[i]? ≠ some (.cells cur 113 (0, 0))) : Kp base w w' :=
 ⟨h.mono h1, fun b cur hb => h.block b (Array.getElem?_eq_some_iff.1 hb).1 fun hs => h2 b hs cur hb⟩
theorem int_ne_step {w : World} {base n k : Nat} {v : Value} {xs : List Value} {e : TypeId} (he : e ≠ 113) (h : w.ownsRow base e 1 v n xs) (hk : v.ownBlock = some k) : ∀ cur : Array Value, w.heap[k]? ≠ some (.cells cur 113 (0, 0)) := fun cur hc => by
 obtain ⟨-, -, cur', h1⟩ := own_typed h hk
 rw [h1] at hc
 injection hc with hc
 injection hc with _ hc
 exact he hc
theorem map_ne_step {w : World} {g : Nat} {ks : List (Int × Value)} (h : MapK kvI w g ks) : ∀ cur : Array Value, w.heap[g]? ≠ some (.cells cur 113 (0, 0)) := fun cur hc => by
 obtain ⟨es, clock, h1, -⟩ := h
 rw [h1] at hc; cases hc
theorem map_ne_blk {w : World} {g b : Nat} {e : TypeId} {cur : List Value} {ks : List (Int × Value)} (h : MapK kvI w g ks) (hb : Blk w b e cur) : b ≠ g := fun e1 => by
 subst e1
 obtain ⟨es, clock, h1, -⟩ := h
 unfold Blk at hb
 rw [h1] at hb; cases hb
section
variable {base : Nat} {f : List (List Int)} {B : FB} {w w' : World} {pv cv : Value} {vs : List Value} {s s' : Tj}
theorem OwnCl.keep {S : Nat → Prop} {cls : List (List Int)} (h : OwnCl w base pv cv vs cls) (hc : Chg S w w') (hS : ∀ i, S i → ∀ cur : Array Value, w.heap[i]? = some (.cells cur 3 (0, 0)) ∨ w.heap[i]? = some (.cells cur 24 (0, 0)) → False) : OwnCl w' base pv cv vs cls := by
 obtain ⟨h1, h2, h3, h4, h5⟩ := h
 refine ⟨hc.own h1 (fun k hk hs => ?_), h2, fun j hj hj' => hc.own (h3 j hj hj') (fun k hk hs => ?_), h4, h5⟩
 · obtain ⟨-, -, cur, hcur⟩ := own_typed h1 hk
   exact hS k hs cur (.inr hcur)
 · obtain ⟨-, -, cur, hcur⟩ := own_typed (h3 j hj hj') hk
   exact hS k hs cur (.inl hcur)
theorem TW.ext (h : TW base f B w pv cv vs s) (k : Ext w w') : TW base f B w' pv cv vs s := by
 obtain ⟨kn, n1, n2⟩ := h.num
 obtain ⟨kl, l1, l2⟩ := h.low
 obtain ⟨ko, o1, o2⟩ := h.on
 exact ⟨(k.chg (fun _ => False)).blk h.fb id, h.gr.ext k, h.gb, ⟨kn, n1.ext k, n2⟩, ⟨kl, l1.ext k, l2⟩, ⟨ko, o1.ext k, o2⟩, own_ext h.path k, h.cls.keep (k.chg (fun _ => False)) (fun _ h => h.elim), h.ne, h.bs, Nat.le_trans h.sz k.size, own_ext h.lit k, h.litp⟩
theorem TW.upd (h : TW base f B w pv cv vs s) (hc : Chg (fun i => i = B.gn ∨ i = B.gl ∨ i = B.go) w w') (hp : s'.path = s.path) (hcl : s'.cls = s.cls)
 (hn : ∃ kn, MapK kvI w' B.gn kn ∧ kn.length = s'.cnt ∧ ∀ n, lkp kn n = if s'.num n = 0 then none else some (.int .i64 (s'.num n)))
 (hl : ∃ kl, MapK kvI w' B.gl kl ∧ (∀ n, (lkp kl n).getD (.int .i64 0) = .int .i64 (s'.low n)) ∧ ∀ n, s'.num n = 0 → lkp kl n = none)
 (ho : ∃ ko, MapK kvI w' B.go ko ∧ (∀ n, (lkp ko n).getD (.bool false) = .bool (s'.on n)) ∧ ∀ n, s'.num n = 0 → lkp ko n = none) : TW base f B w' pv cv vs s' ∧ Kp base w w' := by
 obtain ⟨kn, n1, n2⟩ := h.num
 obtain ⟨kl, l1, l2⟩ := h.low
 obtain ⟨ko, o1, o2⟩ := h.on
 obtain ⟨b1, b2, b3, b4⟩ := h.bs
 have hmap : ∀ i, (i = B.gn ∨ i = B.gl ∨ i = B.go) → ∃ es clock, w.heap[i]? = some (.map es clock) := fun i hi => by
  rcases hi with rfl | rfl | rfl
  · obtain ⟨es, c, h1, -⟩ := n1; exact ⟨es, c, h1⟩
  · obtain ⟨es, c, h1, -⟩ := l1; exact ⟨es, c, h1⟩
  · obtain ⟨es, c, h1, -⟩ := o1; exact ⟨es, c, h1⟩
 have hbase : ∀ i, (i = B.gn ∨ i = B.gl ∨ i = B.go) → base ≤ i := fun i hi => by rcases hi with rfl | rfl | rfl <;> assumption
 have hcells : ∀ i, (i = B.gn ∨ i = B.gl ∨ i = B.go) → ∀ (cur : Array Value) (e : TypeId), w.heap[i]? ≠ some (.cells cur e (0, 0)) := fun i hi cur e hc2 => by
  obtain ⟨es, c, h1⟩ := hmap i hi
  rw [h1] at hc2; cases hc2
 refine ⟨⟨hc.blk h.fb (fun hs => hcells _ hs _ _ h.fb), h.gr.chg hc (fun k hk hs => by have := h.gb k hk; have := hbase k hs; omega), h.gb, hn, hl, ho, ?_, ?_, h.ne, h.bs, Nat.le_trans h.sz hc.size, hc.own h.lit (fun k hk hs => by obtain ⟨-, -, cur, h1⟩ := own_typed h.lit hk; exact hcells k hs _ _ h1), h.litp⟩,
  Kp.of hc hbase (fun i hi cur => hcells i hi cur _)⟩
 · rw [hp]
   exact hc.own h.path (fun k hk hs => by obtain ⟨-, -, cur, h1⟩ := own_typed h.path hk; exact hcells k hs _ _ h1)
 · rw [hcl]
   exact h.cls.keep hc (fun i hi cur hh => hh.elim (hcells i hi _ _) (hcells i hi _ _))
theorem fin_ne_own {w : World} {F n k : Nat} {cur : List Value} {v : Value} {xs : List Value} {e : TypeId} {sz : Nat} (he : e ≠ 80) (hb : Blk w F 80 cur) (h : w.ownsRow base e sz v n xs) (hk : v.ownBlock = some k) : k ≠ F := fun e1 => by
 subst e1
 obtain ⟨-, -, cur', h1⟩ := own_typed h hk
 unfold Blk at hb
 rw [hb] at h1
 injection h1 with h1
 injection h1 with _ h1
 exact he h1.symm
theorem TW.newPath {S : Nat → Prop} (h : TW base f B w pv cv vs s) (hc : Chg S w w') (hS : ∀ i, S i → i = B.F ∨ pv.ownBlock = some i) (pv' : Value) (path' : List Int) (ho : OwnI w' base pv' path')
 (hl : ∀ k, pv'.ownBlock = some k → pv.ownBlock = some k ∨ w.heap.size ≤ k) (hb : Blk w' B.F 80 [.map (some B.g), .map (some B.gn), .map (some B.gl), .map (some B.go), pv', cv]) :
 TW base f B w' pv' cv vs { s with path := path' } ∧ Kp base w w' := by
 obtain ⟨kn, n1, n2⟩ := h.num
 obtain ⟨kl, l1, l2⟩ := h.low
 obtain ⟨ko, o1, o2⟩ := h.on
 obtain ⟨b1, b2, b3, b4⟩ := h.bs
 have hmap : ∀ g ks, MapK kvI w g ks → ¬ S g := fun g ks hm hs => by
  rcases hS g hs with rfl | h1
  · exact map_ne_blk hm h.fb rfl
  · exact row_ne_map h.path hm g h1 rfl
 have hbase : ∀ i, S i → base ≤ i := fun i hs => by
  rcases hS i hs with rfl | h1
  · exact b1
  · exact (own_typed h.path h1).1
 obtain ⟨v1, v2, v3, v4, v5⟩ := h.cls
 have hrow : ∀ v ∈ vs, ∀ k, v.ownBlock = some k → ¬ S k := fun v hv k hk hs => by
  rcases hS k hs with h1 | h1
  · obtain ⟨j, hj, rfl⟩ := List.getElem_of_mem hv
    exact fin_ne_own (by decide) h.fb (v3 j hj (by omega)) hk h1
  · exact v4 v hv k hk h1
 refine ⟨⟨hb, h.gr.chg hc (fun k hk hs => by have := h.gb k hk; have := hbase k hs; omega), h.gb, ⟨kn, n1.keep hc (hmap _ _ n1), n2⟩, ⟨kl, l1.keep hc (hmap _ _ l1), l2⟩, ⟨ko, o1.keep hc (hmap _ _ o1), o2⟩, ho,
  ⟨hc.own v1 (fun k hk hs => ?_), v2, fun j hj hj' => hc.own (v3 j hj hj') (hrow _ (List.getElem_mem hj)), fun v hv k hk hp => ?_, v5⟩, h.ne, h.bs, Nat.le_trans h.sz hc.size, hc.own h.lit (fun k hk hs => ?_), fun k hk hp => ?_⟩, Kp.of hc hbase fun i hi cur hcur => ?_⟩
 · rcases hS k hs with h1 | h1
   · exact fin_ne_own (by decide) h.fb v1 hk h1
   · obtain ⟨-, -, c1, e1⟩ := own_typed v1 hk
     obtain ⟨-, -, c2, e2⟩ := own_typed h.path h1
     rw [e1] at e2
     injection e2 with e2
     injection e2 with _ e2
     exact absurd e2 (by decide)
 · rcases hl k hp with h1 | h1
   · exact v4 v hv k hk h1
   · obtain ⟨j, hj, rfl⟩ := List.getElem_of_mem hv
     have := (own_typed (v3 j hj (by omega)) hk).2.1
     omega
 · rcases hS k hs with h1 | h1
   · exact fin_ne_own (by decide) h.fb h.lit hk h1
   · exact h.litp k hk h1
 · rcases hl k hp with h1 | h1
   · exact h.litp k hk h1
   · have := (own_typed h.lit hk).2.1
     omega
 · rcases hS i hi with rfl | h1
   · have := h.fb
     unfold Blk at this
     rw [this] at hcur
     injection hcur with hcur
     injection hcur with _ hcur
     exact absurd hcur (by decide)
   · exact int_ne_step (by decide) h.path h1 cur hcur
theorem TW.newCls {S : Nat → Prop} (h : TW base f B w pv cv vs s) (hc : Chg S w w') (hS : ∀ i, S i → i = B.F ∨ cv.ownBlock = some i) (cv' u : Value) (cl : List Int) (hu : OwnI w base u cl)
 (hpu : ∀ k, u.ownBlock = some k → pv.ownBlock ≠ some k) (hvu : ∀ v ∈ vs, ∀ k, v.ownBlock = some k → u.ownBlock ≠ some k) (ho : w'.ownsRow base 24 1 cv' (vs.length + 1) (vs ++ [u]))
 (hb : Blk w' B.F 80 [.map (some B.g), .map (some B.gn), .map (some B.gl), .map (some B.go), pv, cv']) :
 TW base f B w' pv cv' (vs ++ [u]) { s with cls := s.cls ++ [cl] } ∧ Kp base w w' := by
 obtain ⟨kn, n1, n2⟩ := h.num
 obtain ⟨kl, l1, l2⟩ := h.low
 obtain ⟨ko, o1, o2⟩ := h.on
 obtain ⟨b1, b2, b3, b4⟩ := h.bs
 obtain ⟨v1, v2, v3, v4, v5⟩ := h.cls
 have hmap : ∀ g ks, MapK kvI w g ks → ¬ S g := fun g ks hm hs => by
  rcases hS g hs with rfl | h1
  · exact map_ne_blk hm h.fb rfl
  · exact row_ne_map v1 hm g h1 rfl
 have hbase : ∀ i, S i → base ≤ i := fun i hs => by
  rcases hS i hs with rfl | h1
  · exact b1
  · exact (own_typed v1 h1).1
 have hint : ∀ {v : Value} {xs : List Int}, OwnI w base v xs → ∀ k, v.ownBlock = some k → ¬ S k := fun hv k hk hs => by
  rcases hS k hs with h1 | h1
  · exact fin_ne_own (by decide) h.fb hv hk h1
  · obtain ⟨-, -, c1, e1⟩ := own_typed v1 h1
    obtain ⟨-, -, c2, e2⟩ := own_typed hv hk
    rw [e1] at e2
    injection e2 with e2
    injection e2 with _ e2
    exact absurd e2 (by decide)
 refine ⟨⟨hb, h.gr.chg hc (fun k hk hs => by have := h.gb k hk; have := hbase k hs; omega), h.gb, ⟨kn, n1.keep hc (hmap _ _ n1), n2⟩, ⟨kl, l1.keep hc (hmap _ _ l1), l2⟩, ⟨ko, o1.keep hc (hmap _ _ o1), o2⟩, hc.own h.path (hint h.path),
  ⟨by simpa using ho, by simp [v2], fun j hj hj' => ?_, fun v hv k hk => ?_, ?_⟩, h.ne, h.bs, Nat.le_trans h.sz hc.size, hc.own h.lit (hint h.lit), h.litp⟩, Kp.of hc hbase fun i hi cur hcur => ?_⟩
 · by_cases hlt : j < vs.length
   · have e1 : (vs ++ [u])[j] = vs[j] := List.getElem_append_left hlt
     have e2 : (s.cls ++ [cl])[j] = s.cls[j]'(by omega) := List.getElem_append_left (by omega)
     rw [e1, e2]
     exact hc.own (v3 j hlt (by omega)) (hint (v3 j hlt (by omega)))
   · have e : j = vs.length := by simp at hj; omega
     subst e
     rw [List.getElem_append_right (Nat.le_refl _), List.getElem_append_right (by omega)]
     simp only [Nat.sub_self, List.getElem_cons_zero, v2]
     exact hc.own hu (hint hu)
 · rcases List.mem_append.1 hv with hv | hv
   · exact v4 v hv k hk
   · simp at hv; subst hv; exact hpu k hk
 · rw [List.pairwise_append]
   refine ⟨v5, by simp, fun a ha b hb2 k hk => ?_⟩
   simp at hb2; subst hb2
   exact hvu a ha k hk
 · rcases hS i hi with rfl | h1
   · have := h.fb
     unfold Blk at this
     rw [this] at hcur
     injection hcur with hcur
     injection hcur with _ hcur
     exact absurd hcur (by decide)
   · exact int_ne_step (by decide) v1 h1 cur hcur
end
end Go.Proofs.YtjecjaihficcdaaGreat
namespace Go.Proofs.YtjecjaihficcdaaGreat
open Go.RowKit
set_option maxRecDepth 100000 in
set_option maxHeartbeats 4000000 in
theorem enter_any (base : Nat) (f : List (List Int)) (B : FB) (w : World) (pv cv : Value) (vs : List Value) (s : Tj) (h : TW base f B w pv cv vs s) (x : Int) (h0 : s.num x = 0) (hcn : s.cnt ≤ 1000000) (hpl : s.path.length ≤ 1000000) :
 Calls Tryz.prog 98 #[.pointer (some ⟨B.F, 0, none⟩), .int .i64 x] w fun e w' => ∃ pv', e = .returned (.tuple #[]) ∧ TW base f B w' pv' cv vs (tEnter s x) ∧ Kp base w w' := by
 have H := Lib.hid h
 have c1 := h.fb.cell 1
 have c2 := h.fb.cell 2
 have c3 := h.fb.cell 3
 simp only [List.getElem?_cons_zero, List.getElem?_cons_succ] at c1 c2 c3
 obtain ⟨kn, n1, n2, n3⟩ := h.num
 obtain ⟨kl, l1, l2, l3⟩ := h.low
 obtain ⟨ko, o1, o2, o3⟩ := h.on
 obtain ⟨d1, d2, d3⟩ := h.ne
 have hnF := map_ne_blk n1 h.fb
 have hlF := map_ne_blk l1 h.fb
 have hoF := map_ne_blk o1 h.fb
 have hnx : lkp kn x = none := by rw [n3, if_pos h0]
 have hlen := (n1.ext (Ext.drew w)).len (P := Tryz.prog) Tryz.underlying77 3
 rw [n2] at hlen
 obtain ⟨w1, hup1, m1, hc1, hs1⟩ := (n1.ext (Ext.drew w)).update (P := Tryz.prog) fam_kvI Tryz.underlying77 x (.int .i64 ((s.cnt : Int) + 1))
 have hcw1 : Chg (fun k => k = B.gn) w w1 := ((Ext.drew w).chg _).trans hc1
 have l1' : MapK kvI w1 B.gl kl := l1.keep hcw1 (fun e => d1 e.symm)
 have o1' : MapK kvI w1 B.go ko := o1.keep hcw1 (fun e => d2 e.symm)
 obtain ⟨st2, w2, he2, m2, hc2, hst2⟩ := (l1'.ext (Ext.drew w1)).entry_new (P := Tryz.prog) fam_kvI Tryz.underlying77 (zeroValue_int _) x (l3 x h0)
 have hcw2 : Chg (fun k => k = B.gl) w1 w2 := ((Ext.drew w1).chg _).trans hc2
 obtain ⟨w3, hs3, m3, hc3⟩ := hst2 w2 (.int .i64 ((s.cnt : Int) + 1)) rfl
 have m1' : MapK kvI w2 B.gn _ := m1.keep hcw2 (fun e => d1 e)
 have hlk1 := (m1.ext (Ext.drew w1)).lookup (P := Tryz.prog) fam_kvI Tryz.underlying77 (zeroValue_int _) x
 have hlk2 := m1'.lookup (P := Tryz.prog) fam_kvI Tryz.underlying77 (zeroValue_int _) x
 rw [lkp_kput, if_pos rfl] at hlk1 hlk2
 simp only [Option.getD_some] at hlk1 hlk2
 have hcw3 : Chg (fun k => k = B.gl) w1 w3 := hcw2.trans hc3
 have o3' : MapK kvI w3 B.go ko := o1'.keep hcw3 (fun e => d3 e.symm)
 obtain ⟨st4, w4, he4, m4, hc4, hst4⟩ := o3'.entry_new (P := Tryz.prog) fam_kvI Tryz.underlying78 (zeroValue_b _) x (o3 x h0)
 obtain ⟨w5, hs5, m5, hc5⟩ := hst4 w4 (.bool true) rfl
 have hcw5 : Chg (fun k => k = B.go) w3 w5 := hc4.trans hc5
 have hcA : Chg (fun i => i = B.gn ∨ i = B.gl ∨ i = B.go) w w5 := ((hcw1.mono fun i hi => .inl hi).trans (hcw3.mono fun i hi => .inr (.inl hi))).trans (hcw5.mono fun i hi => .inr (.inr hi))
 have c1a := hcw1.cell c1 hnF
 have c2a := hcw1.cell c2 hnF
 have c3a := hcw1.cell c3 hnF
 have c1b := hcw2.cell c1a hlF
 have c2b := hcw2.cell c2a hlF
 have c3b := hcw2.cell c3a hlF
 have c1c := hc3.cell c1b hlF
 have c2c := hc3.cell c2b hlF
 have c3c := hc3.cell c3b hlF
 have c1d := hc4.cell c1c hoF
 have c2d := hc4.cell c2c hoF
 have c3d := hc4.cell c3c hoF
 have c1e := hc5.cell c1d hoF
 have c2e := hc5.cell c2d hoF
 have c3e := hc5.cell c3d hoF
 unfold kvI at hup1 he2 he4 hlk1 hlk2
 obtain ⟨T5, K5⟩ := h.upd (s' := { tEnter s x with path := s.path }) hcA rfl rfl
  ⟨_, (m1'.keep hc3 (fun e => d1 e)).keep hcw5 (fun e => d2 e), by
   rw [kput_new (lkp_none.1 hnx), List.length_append, n2]; rfl, fun n => by
   rw [lkp_kput]
   show _ = if fset s.num x (s.cnt + 1) n = 0 then none else some (Value.int .i64 (fset s.num x (s.cnt + 1) n))
   by_cases e : n = x
   · subst e; rw [if_pos rfl, fset_same, if_neg (by omega)]
   · rw [if_neg e, fset_ne _ _ e]; exact n3 n⟩
  ⟨_, m3.keep hcw5 (fun e => d3 e), fun n => by
   rw [lkp_kput]
   show _ = Value.int .i64 (fset s.low x (s.cnt + 1) n)
   by_cases e : n = x
   · subst e; rw [if_pos rfl, fset_same]; rfl
   · rw [if_neg e, fset_ne _ _ e]; exact l2 n, fun n hn => by
   have hn' : fset s.num x (s.cnt + 1) n = 0 := hn
   rw [lkp_kput]
   by_cases e : n = x
   · subst e; rw [fset_same] at hn'; omega
   · rw [if_neg e]; rw [fset_ne _ _ e] at hn'; exact l3 n hn'⟩
  ⟨_, m5, fun n => by
   rw [lkp_kput]
   show _ = Value.bool (fset s.on x true n)
   by_cases e : n = x
   · subst e; rw [if_pos rfl, fset_same]; rfl
   · rw [if_neg e, fset_ne _ _ e]; exact o2 n, fun n hn => by
   have hn' : fset s.num x (s.cnt + 1) n = 0 := hn
   rw [lkp_kput]
   by_cases e : n = x
   · subst e; rw [fset_same] at hn'; omega
   · rw [if_neg e]; rw [fset_ne _ _ e] at hn'; exact o3 n hn'⟩
 have HT5 := Lib.hid T5
 have HK5 := Lib.hid K5
 have c4e := T5.fb.cell 4
 have f4e := T5.fb.free 4
 simp only [List.getElem?_cons_zero, List.getElem?_cons_succ] at c4e
 obtain ⟨A, c, hpve, q1, q2, -⟩ := OwnI.reads T5.path
 have HPV := Lib.hid hpve
 rw [hpve] at c4e
 clear h n1 n2 n3 l1 l2 l3 o1 o2 o3 d1 d2 d3 hnF hlF hoF m1 hc1 hs1 hcw1 l1' o1' m2 hc2 hst2 hcw2 m3 hc3 m1' hcw3 o3' m4 hc4 hst4 m5 hc5 hcw5 hcA T5 K5 hpve H h0 hnx
 have hwr : IntKind.i64.wrap ((s.cnt : Int) + 1) = (s.cnt : Int) + 1 := IntWalk.i64_in _ (by omega)
 go_enter Tryz.func98, Tryz.ntmps98
 go_wp2
 go_still_tail 11, (by kernel_rfl)
 go_wp2
 go_region_held3 (fun w' => w'.cell? ⟨B.F, 1, none⟩ = some (.map (some B.gn)) ∧ w'.cell? ⟨B.F, 2, none⟩ = some (.map (some B.gl)) ∧ w'.cell? ⟨B.F, 3, none⟩ = some (.map (some B.go))) (first | exact ⟨c1a, c2a, c3a⟩ | exact ⟨c1b, c2b, c3b⟩ | exact ⟨c1c, c2c, c3c⟩ | exact ⟨c1d, c2d, c3d⟩ | exact ⟨c1e, c2e, c3e⟩ | go_keep) (fail)
 all_goals
  go_wp2_with (at_builtin
               refine app_1l rfl (.tmp 39) (.tmp 41) rfl (base := base) (v := .slice A s.path.length c) (xs := s.path) (y := x) rfl rfl (by rw [← HPV.out]; exact HT5.out.path) (by omega) HT5.out.sz ?_
               intro g cap w6 hown hch hat hlt
               have hch2 : Chg (fun i => some i = pv.ownBlock) w5 w6 := (by rw [HPV.out]; exact hch)
               have hb6 := hch2.blk HT5.out.fb (fun h => fin_ne_own (by decide) HT5.out.fb HT5.out.path h.symm rfl)
               have b64 := hb6.cell 4
               have f64 := hb6.free 4
               have HB6 := Lib.hid hb6
               have HCH := Lib.hid hch2
               have HOW := Lib.hid hown
               have HAT : Hid (pv.ownBlock = some g ∨ g = w5.heap.size + 1) := Lib.hid (by rw [HPV.out]; exact hat)
               clear hown hch hch2 hat hlt hb6)
  have hset := Chg.set w6 B.F 4 (.slice (some ⟨g, 0, none⟩) (s.path.length + 1) cap)
  have hfin := HT5.out.newPath (S := fun i => i = B.F ∨ pv.ownBlock = some i) ((HCH.out.mono fun i hi => .inr hi.symm).trans (hset.mono fun i hi => .inl hi)) (fun _ h => h) (.slice (some ⟨g, 0, none⟩) (s.path.length + 1) cap) (s.path ++ [x])
   (hset.own HOW.out (fun b hb e => fin_ne_own (by decide) HB6.out HOW.out hb e)) (fun k hk => by
    injection hk with hk
    have hk' : g = k := hk
    subst hk'
    exact HAT.out.imp id (fun h => by omega)) (HB6.out.set 4 _)
  go_end0
  exact ⟨_, rfl, hfin.1, HK5.out.trans hfin.2⟩
end Go.Proofs.YtjecjaihficcdaaGreat
namespace Go.Proofs.YtjecjaihficcdaaGreat
def tRun (nb : Int → List Int) : Nat → Tj → Tj
 | 0, s => s
 | n + 1, s => if s.work = [] then s else tRun nb n (tStep nb s)
theorem tRun_nil (nb : Int → List Int) (n : Nat) {s : Tj} (h : s.work = []) : tRun nb n s = s := by
 cases n with
 | zero => rfl
 | succ n => show (if s.work = [] then s else _) = s; rw [if_pos h]
theorem tRun_succ (nb : Int → List Int) (n : Nat) {s : Tj} (h : s.work ≠ []) : tRun nb (n + 1) s = tRun nb n (tStep nb s) := by
 show (if s.work = [] then s else _) = _; rw [if_neg h]
def muW (nb : Int → List Int) (work : List (Int × Nat)) : Nat := (work.map fun p => (nb p.1).length - p.2 + 1).sum
def muU (nb : Int → List Int) (num : Int → Int) (U : List Int) : Nat := (U.map fun u => if num u = 0 then (nb u).length + 1 else 0).sum
def mu (nb : Int → List Int) (U : List Int) (s : Tj) : Nat := muW nb s.work + muU nb s.num U
theorem muU_out (nb : Int → List Int) (num : Int → Int) (y v : Int) (hv : v ≠ 0) (h0 : num y = 0) : ∀ U : List Int, U.Nodup → (y ∈ U → muU nb (fset num y v) U + ((nb y).length + 1) = muU nb num U) ∧ (y ∉ U → muU nb (fset num y v) U = muU nb num U)
 | [], _ => ⟨fun h => absurd h (by simp), fun _ => rfl⟩
 | u :: U, hn => by
   rw [List.nodup_cons] at hn
   obtain ⟨h1, h2⟩ := muU_out nb num y v hv h0 U hn.2
   unfold muU at *
   simp only [List.map_cons, List.sum_cons, List.mem_cons]
   constructor
   · rintro (h | h)
     · subst h
       rw [h2 hn.1, fset_same, if_neg hv, if_pos h0]; omega
     · have e : u ≠ y := fun e => hn.1 (e ▸ h)
       rw [fset_ne _ _ e]
       have := h1 h
       omega
   · intro h
     rw [not_or] at h
     rw [h2 h.2, fset_ne _ _ (fun e => h.1 e.symm)]
def tStart (s : Tj) (x : Int) : Tj := { tEnter s x with work := [(x, 0)] }
def tVisit (nb : Int → List Int) (U : List Int) (s : Tj) (x : Int) : Tj := tRun nb (mu nb U (tStart s x)) (tStart s x)
structure TV (nb : Int → List Int) (U : List Int) (s : Tj) (fr : List Fr) : Prop where
 ti : TI nb s fr
 inU : ∀ y, s.num y ≠ 0 → y ∈ U
 cnt : s.cnt = s.path.length + s.cls.flatten.length
section
variable {nb : Int → List Int} {U : List Int} {s : Tj} {fr : List Fr}
theorem TV.len (h : TV nb U s fr) : s.path.length + s.cls.flatten.length ≤ U.length := by
 rw [← List.length_append]
 refine nodup_len _ _ ?_ fun y hy => ?_
 · rw [List.nodup_append]
   exact ⟨h.ti.nodup, h.ti.clsn, fun a ha b hb e => h.ti.disj a ha (e ▸ hb)⟩
 · exact h.inU y ((h.ti.ent y).2 (List.mem_append.1 hy))
theorem flat_len {l : List (List Int)} (h : ∀ C ∈ l, C ≠ []) : l.length ≤ l.flatten.length := by
 induction l with
 | nil => simp
 | cons c l ih =>
   have h1 := ih (fun C hC => h C (by simp [hC]))
   have h2 := List.length_pos_iff.2 (h c (by simp))
   simp only [List.length_cons, List.flatten_cons, List.length_append]
   omega
theorem TV.clsl (h : TV nb U s fr) : s.cls.length ≤ U.length := by
 have h1 := flat_len fun C hC => (h.ti.clss C hC).1
 have := h.len
 omega
theorem TV.top {x : Int} {k : Nat} {rest : List (Int × Nat)} (h : TV nb U s fr) (hw : s.work = (x, k) :: rest) : ∃ r fs, fr = ⟨x, k, r⟩ :: fs ∧ s.path = pathOf fs ++ x :: r ∧ x ∉ pathOf fs ∧ rest = fs.map fun f => (f.x, f.k) := by
 have h1 := h.ti.work
 rw [hw] at h1
 cases fr with
 | nil => cases h1
 | cons f fs =>
   obtain ⟨fx, fk, r⟩ := f
   simp only [List.map_cons, List.cons.injEq, Prod.mk.injEq] at h1
   obtain ⟨⟨rfl, rfl⟩, h2⟩ := h1
   have hp : s.path = pathOf fs ++ x :: r := h.ti.path
   refine ⟨r, fs, rfl, hp, fun hm => ?_, h2⟩
   have hnd := h.ti.nodup
   rw [hp] at hnd
   exact (List.nodup_append.1 hnd).2.2 x hm x (by simp) rfl
theorem tEnter_TV (h : TV nb U s fr) (y : Int) (h0 : s.num y = 0) (hU : y ∈ U) (hc : ∀ f fs, fr = f :: fs → Rch nb f.x y) : TV nb U { tEnter s y with work := (y, 0) :: s.work } (⟨y, 0, []⟩ :: fr) := by
 refine ⟨h.ti.enter y h0 hc, fun z hz => ?_, ?_⟩
 · have hz' : fset s.num y (s.cnt + 1) z ≠ 0 := hz
   by_cases e : z = y
   · exact e ▸ hU
   · rw [fset_ne _ _ e] at hz'; exact h.inU z hz'
 · show s.cnt + 1 = (s.path ++ [y]).length + s.cls.flatten.length
   have := h.cnt
   rw [List.length_append, List.length_singleton]; omega
theorem tLeave_TV {x : Int} {s' : Tj} {fs : List Fr} (h : TI nb (tLeave s' x) fs) (hi : ∀ y, s'.num y ≠ 0 → y ∈ U) (hcnt : s'.cnt = s'.path.length + s'.cls.flatten.length) : TV nb U (tLeave s' x) fs := by
 refine ⟨h, hi, ?_⟩
 show s'.cnt = (s'.path.take _).length + (s'.cls ++ [s'.path.drop _]).flatten.length
 rw [hcnt, List.flatten_append, List.length_append, List.length_take]
 have e : [s'.path.drop (s'.path.idxOf x)].flatten = s'.path.drop (s'.path.idxOf x) := by simp
 rw [e, List.length_drop]
 omega
theorem tStep_new {x : Int} {k : Nat} {rest : List (Int × Nat)} (hw : s.work = (x, k) :: rest) (hk : k < (nb x).length) (h0 : s.num (nb x)[k] = 0) : tStep nb s = { tEnter s (nb x)[k] with work := ((nb x)[k], 0) :: (x, k + 1) :: rest } := by
 unfold tStep; rw [hw]; simp only [dif_pos hk, if_pos h0]
theorem tStep_on {x : Int} {k : Nat} {rest : List (Int × Nat)} (hw : s.work = (x, k) :: rest) (hk : k < (nb x).length) (h0 : s.num (nb x)[k] ≠ 0) (h1 : s.on (nb x)[k] = true) : tStep nb s = { s with low := fset s.low x (min (s.low x) (s.num (nb x)[k])), work := (x, k + 1) :: rest } := by
 unfold tStep; rw [hw]; simp only [dif_pos hk, if_neg h0, if_pos h1]
theorem tStep_off {x : Int} {k : Nat} {rest : List (Int × Nat)} (hw : s.work = (x, k) :: rest) (hk : k < (nb x).length) (h0 : s.num (nb x)[k] ≠ 0) (h1 : s.on (nb x)[k] = false) : tStep nb s = { s with work := (x, k + 1) :: rest } := by
 unfold tStep; rw [hw]; simp only [dif_pos hk, if_neg h0, h1]; rw [if_neg (by simp)]
theorem tStep_pop {x : Int} {k : Nat} {rest : List (Int × Nat)} (hw : s.work = (x, k) :: rest) (hk : ¬ k < (nb x).length) : tStep nb s = tPop s x rest := by
 unfold tStep; rw [hw]; simp only [dif_neg hk]
theorem TV.bump {x : Int} {k : Nat} {r : List Int} {fs : List Fr} (h : TV nb U s (⟨x, k, r⟩ :: fs)) (hk : k < (nb x).length) (hn : s.num (nb x)[k] ≠ 0) (low' : Int → Int) (hl : low' = if s.on (nb x)[k] = true then fset s.low x (min (s.low x) (s.num (nb x)[k])) else s.low) :
 TV nb U { s with low := low', work := (x, k + 1) :: fs.map fun f => (f.x, f.k) } (⟨x, k + 1, r⟩ :: fs) := ⟨h.ti.next hk hn low' hl, h.inU, h.cnt⟩
theorem TV.step (h : TV nb U s fr) (hU : U.Nodup) (hnb : ∀ y ∈ U, ∀ z ∈ nb y, z ∈ U) (hw : s.work ≠ []) : ∃ fr', TV nb U (tStep nb s) fr' ∧ mu nb U (tStep nb s) + 1 = mu nb U s := by
 obtain ⟨⟨x, k⟩, rest, hw⟩ : ∃ p rest, s.work = p :: rest := List.exists_cons_of_ne_nil hw
 obtain ⟨r, fs, rfl, hp, hx, hr⟩ := h.top hw
 have hkl : k ≤ (nb x).length := (h.ti.frk _ List.mem_cons_self).1
 have hxp : x ∈ s.path := by rw [hp]; simp
 by_cases hk : k < (nb x).length
 · have hy : (nb x)[k] ∈ nb x := List.getElem_mem hk
   have hyU : (nb x)[k] ∈ U := hnb x (h.inU x ((h.ti.ent x).2 (.inl hxp))) _ hy
   by_cases h0 : s.num (nb x)[k] = 0
   · rw [tStep_new hw hk h0]
     have hpath : s.path = pathOf (⟨x, k + 1, r⟩ :: fs) := hp
     have h2 : TV nb U { tEnter s (nb x)[k] with work := ((nb x)[k], 0) :: (x, k + 1) :: rest } (⟨(nb x)[k], 0, []⟩ :: ⟨x, k + 1, r⟩ :: fs) := by
      have h3 := tEnter_TV h (nb x)[k] h0 hyU (fun f fs' he => by injection he with he; subst he; exact Rch.start.step hy)
      have t := h3.ti
      refine ⟨⟨?_, ?_, t.sorted, t.onp, t.ent, t.pos, t.disj, t.lowle, t.lowr, fun f hf v hv => ?_, fun f hf => ?_, ?_, t.clss, t.clsc, t.clsn⟩, h3.inU, h3.cnt⟩
      · simp [hr]
      · exact t.path
      · rcases List.mem_cons.1 hf with rfl | hf
        · cases hv
        · rcases List.mem_cons.1 hf with rfl | hf
          · exact t.frx ⟨x, k, r⟩ (by simp) v hv
          · exact t.frx f (by simp [hf]) v hv
      · rcases List.mem_cons.1 hf with rfl | hf
        · exact t.frk _ (by simp)
        · rcases List.mem_cons.1 hf with rfl | hf
          · obtain ⟨h4, h5⟩ := t.frk ⟨x, k, r⟩ (by simp)
            refine ⟨hk, fun z hz => ?_⟩
            have hz' : z ∈ (nb x).take (k + 1) := hz
            rw [List.take_succ_eq_append_getElem hk, List.mem_append] at hz'
            rcases hz' with hz' | hz'
            · exact h5 z hz'
            · simp at hz'
              subst hz'
              refine ⟨?_, fun _ => ?_⟩
              · show fset s.num _ _ _ ≠ 0
                rw [fset_same]; have := (h.ti.pos (nb x)[k]).2; omega
              · show fset s.low _ _ x ≤ fset s.num _ _ _
                have hne : x ≠ (nb x)[k] := fun e => (h.ti.ent x).2 (.inl hxp) (by rw [e]; exact h0)
                rw [fset_same, fset_ne _ _ hne]
                have := h.ti.lowle x hxp
                have := (h.ti.pos x).2
                omega
          · exact t.frk f (by simp [hf])
      · have := t.chain
        simpa using this
     refine ⟨_, h2, ?_⟩
     have h4 := (muU_out nb s.num (nb x)[k] (s.cnt + 1) (by omega) h0 U hU).1 hyU
     unfold mu muW
     rw [hw]
     show (List.map _ (((nb x)[k], 0) :: (x, k + 1) :: rest)).sum + muU nb (fset s.num (nb x)[k] (s.cnt + 1)) U + 1 = _
     simp only [List.map_cons, List.sum_cons, Nat.sub_zero]
     omega
   · obtain ⟨low', hl⟩ : ∃ low', low' = if s.on (nb x)[k] = true then fset s.low x (min (s.low x) (s.num (nb x)[k])) else s.low := ⟨_, rfl⟩
     have hb := h.bump hk h0 low' hl
     rw [← hr] at hb
     have he : tStep nb s = { s with low := low', work := (x, k + 1) :: rest } := by
      cases h1 : s.on (nb x)[k] with
      | true => rw [tStep_on hw hk h0 h1, hl, if_pos h1]
      | false => rw [tStep_off hw hk h0 h1, hl, if_neg (by simp [h1])]
     rw [he]
     refine ⟨_, hb, ?_⟩
     unfold mu muW
     rw [hw]
     simp only [List.map_cons, List.sum_cons]
     omega
 · have hk' : (nb x).length ≤ k := by omega
   rw [tStep_pop hw hk]
   have hmu : ∀ s' : Tj, s'.work = rest → s'.num = s.num → mu nb U s' + 1 = mu nb U s := fun s' e1 e2 => by
    unfold mu muW
    rw [e1, e2, hw]
    simp only [List.map_cons, List.sum_cons]
    omega
   have hle := h.ti.lowle x hxp
   cases fs with
   | nil =>
     have hr0 : rest = [] := hr
     subst hr0
     have heq : s.low x = s.num x := by
      obtain ⟨u, hu, h1, h2⟩ := h.ti.lowr x hxp
      have hso := h.ti.sorted
      rw [hp] at hso hu
      simp only [pathOf, List.nil_append, List.pairwise_cons] at hso hu
      rcases List.mem_cons.1 hu with rfl | hu
      · exact h1.symm
      · have := hso.1 u hu; omega
     have hl := (h.ti.leave hk' heq s.low (fun _ _ => rfl)).1
     have e : tPop s x [] = tLeave { s with low := s.low, work := ([] : List Fr).map fun f => (f.x, f.k) } x := by
      unfold tPop tUp
      simp only [if_pos heq, List.map_nil]
     rw [e]
     exact ⟨_, tLeave_TV hl h.inU h.cnt, hmu _ rfl rfl⟩
   | cons g gs =>
     have hr1 : rest = (g.x, g.k) :: gs.map fun f => (f.x, f.k) := hr
     have hgp : g.x ∈ s.path := by rw [hp]; simp [pathOf]
     have hgx : x ≠ g.x := fun e => hx (by rw [e]; simp [pathOf])
     have hlt : s.num g.x < s.num x := by
      have hso := h.ti.sorted
      rw [hp] at hso
      exact (List.pairwise_append.1 hso).2.2 g.x (by simp [pathOf]) x (by simp)
     have hgl := h.ti.lowle g.x hgp
     have hs2 : tUp { s with work := rest } x rest = { s with low := fset s.low g.x (min (s.low g.x) (s.low x)), work := rest } := by rw [hr1]; rfl
     unfold tPop
     simp only [hs2, fset_ne _ _ hgx]
     by_cases he : s.low x = s.num x
     · rw [if_pos he]
       have hl := (h.ti.leave hk' he (fset s.low g.x (min (s.low g.x) (s.low x))) (fun v _ => by
        by_cases e : v = g.x
        · rw [e, fset_same]; omega
        · rw [fset_ne _ _ e])).1
       rw [← hr] at hl
       exact ⟨_, tLeave_TV hl h.inU h.cnt, hmu _ rfl rfl⟩
     · rw [if_neg he]
       have hm := h.ti.merge hk' (by omega)
       have hm2 : TI nb { s with low := fset s.low g.x (min (s.low g.x) (s.low x)), work := rest } (⟨g.x, g.k, g.r ++ x :: r⟩ :: gs) := by rw [hr]; exact hm
       exact ⟨_, ⟨hm2, h.inU, h.cnt⟩, hmu _ rfl rfl⟩
end
end Go.Proofs.YtjecjaihficcdaaGreat
namespace Go.Proofs.YtjecjaihficcdaaGreat
open Go.RowKit
def encW (work : List (Int × Nat)) : List Value := work.reverse.flatMap fun p => [.int .i64 p.1, .int .i64 (p.2 : Int)]
theorem encW_cons (p : Int × Nat) (rest : List (Int × Nat)) : encW (p :: rest) = encW rest ++ [.int .i64 p.1, .int .i64 (p.2 : Int)] := by
 unfold encW; rw [List.reverse_cons, List.flatMap_append]; simp
theorem encW_len : ∀ work : List (Int × Nat), (encW work).length = work.length * 2
 | [] => rfl
 | p :: rest => by rw [encW_cons, List.length_append, encW_len rest, List.length_cons]; simp; omega
def WS (w : World) (base g cap : Nat) (work : List (Int × Nat)) : Prop :=
 w.ownsRow base 113 2 (.slice (some ⟨g, 0, none⟩) work.length cap) work.length (encW work)
section
variable {w w' : World} {base g cap : Nat} {x : Int} {k : Nat} {rest work : List (Int × Nat)}
theorem WS.raw (h : WS w base g cap work) : ∃ cur : Array Value, w.heap[g]? = some (.cells cur 113 (0, 0)) ∧ base ≤ g ∧ work.length ≤ cap ∧ cap ≤ maxLen ∧ cur.size = cap * 2 ∧ cur.toList.take (work.length * 2) = encW work := by
 obtain ⟨-, ⟨h1, -⟩ | ⟨g', cap', cur, he, hb, hg, hn, hm, hs, ht⟩⟩ := h
 · cases h1
 · injection he with e1 e2 e3
   injection e1 with e1
   injection e1 with e1
   subst e1 e3
   exact ⟨cur, hg, hb, hn, hm, hs, ht⟩
theorem WS.mk' {cur : Array Value} (hg : w.heap[g]? = some (.cells cur 113 (0, 0))) (hb : base ≤ g) (hn : work.length ≤ cap) (hm : cap ≤ maxLen) (hs : cur.size = cap * 2) (ht : cur.toList.take (work.length * 2) = encW work) : WS w base g cap work :=
 ⟨encW_len work, .inr ⟨g, cap, cur, rfl, hb, hg, hn, hm, hs, ht⟩⟩
theorem WS.kp {b0 : Nat} (h : WS w base g cap work) (k : Kp b0 w w') : WS w' base g cap work := by
 obtain ⟨cur, hg, hb, hn, hm, hs, ht⟩ := h.raw
 exact WS.mk' ((k.row g cur hg).trans hg) hb hn hm hs ht
theorem WS.ext (h : WS w base g cap work) (k : Ext w w') : WS w' base g cap work := own_ext h k
theorem WS.chg {S : Nat → Prop} (h : WS w base g cap work) (k : Chg S w w') (hn : ¬ S g) : WS w' base g cap work := k.own h (fun b hb => by simp [Value.ownBlock] at hb; subst hb; exact hn)
theorem WS.cellsOf (h : WS w base g cap ((x, k) :: rest)) : w.cell? ⟨g, rest.length * 2, none⟩ = some (.int .i64 x) ∧ w.cell? ⟨g, rest.length * 2 + 1, none⟩ = some (.int .i64 (k : Int)) ∧ w.frozen? ⟨g, rest.length * 2 + 1, none⟩ = false := by
 obtain ⟨cur, hg, hb, hn, hm, hs, ht⟩ := h.raw
 rw [encW_cons] at ht
 have h0 := congrArg (fun l => l[rest.length * 2]?) ht
 have h1 := congrArg (fun l => l[rest.length * 2 + 1]?) ht
 simp only [List.length_cons] at h0 h1
 rw [List.getElem?_take_of_lt (by omega), List.getElem?_append_right (by rw [encW_len]; omega), encW_len, Nat.sub_self] at h0
 rw [List.getElem?_take_of_lt (by omega), List.getElem?_append_right (by rw [encW_len]; omega), encW_len, show rest.length * 2 + 1 - rest.length * 2 = 1 by omega] at h1
 simp only [List.getElem?_cons_zero, List.getElem?_cons_succ, Array.getElem?_toList] at h0 h1
 refine ⟨?_, ?_, ?_⟩
 · rw [cell_of_row w g _ cur _ (0, 0) hg]; exact h0
 · rw [cell_of_row w g _ cur _ (0, 0) hg]; exact h1
 · have hl := World.block_lt_of_cell? w ⟨g, rest.length * 2 + 1, none⟩ (by rw [cell_of_row w g _ cur _ (0, 0) hg]; exact h1)
   show w.frozen? ⟨g, rest.length * 2 + 1, none⟩ = false
   unfold World.frozen?
   simp [hg]
theorem WS.bump (h : WS w base g cap ((x, k) :: rest)) : WS (w.setCell ⟨g, rest.length * 2 + 1, none⟩ (.int .i64 ((k : Int) + 1))) base g cap ((x, k + 1) :: rest) := by
 obtain ⟨cur, hg, hb, hn, hm, hs, ht⟩ := h.raw
 have hh : (w.setCell ⟨g, rest.length * 2 + 1, none⟩ (.int .i64 ((k : Int) + 1))).heap[g]? = some (.cells (cur.setIfInBounds (rest.length * 2 + 1) (.int .i64 ((k : Int) + 1))) 113 (0, 0)) := heap_setCell_same w g _ cur _ _ hg
 refine WS.mk' hh hb hn hm (by simpa using hs) ?_
 rw [encW_cons] at ht ⊢
 rw [Array.toList_setIfInBounds, List.take_set]
 have ht' : List.take (((x, k + 1) :: rest).length * 2) cur.toList = encW rest ++ [.int .i64 x, .int .i64 (k : Int)] := ht
 rw [ht', List.set_append_right _ _ (by rw [encW_len]; omega), encW_len, show rest.length * 2 + 1 - rest.length * 2 = 1 by omega]
 rfl
theorem WS.pop (h : WS w base g cap ((x, k) :: rest)) : WS w base g cap rest := by
 obtain ⟨cur, hg, hb, hn, hm, hs, ht⟩ := h.raw
 rw [List.length_cons] at hn ht
 refine WS.mk' hg hb (by omega) hm hs ?_
 have := congrArg (List.take (rest.length * 2)) ht
 rw [List.take_take, Nat.min_eq_left (by omega), encW_cons, List.take_left' (encW_len rest)] at this
 exact this
theorem WS.one (w : World) (base : Nat) (x : Int) (hb : base ≤ w.heap.size) : WS (w.alloc (.cells #[.int .i64 x, .int .i64 0] 113)) base w.heap.size 1 [(x, 0)] :=
 WS.mk' (heap_alloc_new w _) hb (by simp) (by decide) (by simp) (by simp [encW])
theorem WS.push (h : w.ownsRow base 113 2 (.slice (some ⟨g, 0, none⟩) (work.length + 1) cap) (work.length + 1) (encW work ++ [.int .i64 x, .int .i64 (k : Int)])) : WS w base g cap ((x, k) :: work) := by
 unfold WS; rw [encW_cons, List.length_cons]; exact h
theorem TW.step {b0 : Nat} {f : List (List Int)} {B : FB} {pv cv : Value} {vs : List Value} {s : Tj} {S : Nat → Prop} (h : TW b0 f B w pv cv vs s) (hc : Chg S w w') (hS : ∀ i, S i → b0 ≤ i ∧ ∃ cur : Array Value, w.heap[i]? = some (.cells cur 113 (0, 0))) : TW b0 f B w' pv cv vs s := by
 obtain ⟨kn, n1, n2⟩ := h.num
 obtain ⟨kl, l1, l2⟩ := h.low
 obtain ⟨ko, o1, o2⟩ := h.on
 have hmap : ∀ g ks, MapK kvI w g ks → ¬ S g := fun g ks hm hs => by
  obtain ⟨-, cur, h1⟩ := hS g hs
  exact map_ne_step hm cur h1
 have hown : ∀ {e : TypeId} {n : Nat} {v : Value} {xs : List Value}, e ≠ 113 → w.ownsRow b0 e 1 v n xs → ∀ k, v.ownBlock = some k → ¬ S k := fun he ho k hk hs => by
  obtain ⟨-, cur, h1⟩ := hS k hs
  exact int_ne_step he ho hk cur h1
 obtain ⟨v1, v2, v3, v4, v5⟩ := h.cls
 refine ⟨hc.blk h.fb (fun hs => ?_), h.gr.chg hc (fun k hk hs => by have := h.gb k hk; have := (hS k hs).1; omega), h.gb, ⟨kn, n1.keep hc (hmap _ _ n1), n2⟩, ⟨kl, l1.keep hc (hmap _ _ l1), l2⟩, ⟨ko, o1.keep hc (hmap _ _ o1), o2⟩,
  hc.own h.path (hown (by decide) h.path), ⟨hc.own v1 (hown (by decide) v1), v2, fun j hj hj' => hc.own (v3 j hj hj') (hown (by decide) (v3 j hj hj')), v4, v5⟩, h.ne, h.bs, Nat.le_trans h.sz hc.size, hc.own h.lit (hown (by decide) h.lit), h.litp⟩
 obtain ⟨-, cur, h1⟩ := hS _ hs
 have := h.fb
 unfold Blk at this
 rw [this] at h1
 injection h1 with h1
 injection h1 with _ h1
 exact absurd h1 (by decide)
end
end Go.Proofs.YtjecjaihficcdaaGreat
namespace Go.Proofs.YtjecjaihficcdaaGreat
open Go.RowKit
theorem idxI_mid (P r : List Int) (x : Int) (h : x ∉ P) : idxI (P ++ x :: r) x = (P.length : Int) := by
 unfold idxI
 rw [if_pos (by simp), idxOf_mid _ _ _ h]
theorem onSet_step (on : Int → Bool) (cl : List Int) (k : Nat) (hk : k < cl.length) : (fun y => if y ∈ cl.take (k + 1) then false else on y) = fset (fun y => if y ∈ cl.take k then false else on y) cl[k] false := by
 have hm : ∀ z, z ∈ cl.take (k + 1) ↔ z ∈ cl.take k ∨ z = cl[k] := fun z => by rw [List.take_succ_eq_append_getElem hk, List.mem_append, List.mem_singleton]
 funext y
 by_cases h : y = cl[k]
 · subst h; rw [fset_same, if_pos ((hm _).2 (.inr rfl))]
 · rw [fset_ne _ _ h]
   by_cases h2 : y ∈ cl.take k
   · rw [if_pos ((hm _).2 (.inl h2)), if_pos h2]
   · rw [if_neg (fun h3 => ((hm _).1 h3).elim h2 h), if_neg h2]
set_option maxRecDepth 100000 in
set_option maxHeartbeats 4000000 in
theorem leave_any (base : Nat) (f : List (List Int)) (B : FB) (w : World) (pv cv : Value) (vs : List Value) (s : Tj) (h : TW base f B w pv cv vs s) (x : Int) (P r : List Int) (hp : s.path = P ++ x :: r) (hx : x ∉ P) (hnum : ∀ y ∈ s.path, s.num y ≠ 0) (hpl : s.path.length ≤ 1000000) (hcl : s.cls.length ≤ 1000000) :
 Calls Tryz.prog 99 #[.pointer (some ⟨B.F, 0, none⟩), .int .i64 x] w fun e w' => ∃ pv' cv' vs', e = .returned (.tuple #[]) ∧ TW base f B w' pv' cv' vs' (tLeave s x) ∧ Kp base w w' := by
 have H := Lib.hid h
 have hidx : s.path.idxOf x = P.length := by rw [hp, idxOf_mid _ _ _ hx]
 have htl : tLeave s x = { s with on := fun y => if y ∈ x :: r then false else s.on y, path := P, cls := s.cls ++ [x :: r] } := by
  unfold tLeave
  rw [hidx, hp, List.drop_left', List.take_left'] <;> rfl
 have HTL := Lib.hid htl
 obtain ⟨A, c, hpve, q1, q2, -⟩ := OwnI.reads h.path
 obtain ⟨A5, cc5, hcve, k1, k2⟩ : ∃ A5 c5, cv = .slice A5 vs.length c5 ∧ vs.length ≤ c5 ∧ vs.length ≤ 1000000 := by
  obtain ⟨h1, h2, -⟩ := h.cls
  obtain ⟨A, c, e, h3, h4, -⟩ := own_row h1
  exact ⟨A, c, e, h3, by omega⟩
 have c4 := h.fb.cell 4
 have f4 := h.fb.free 4
 have f5 := h.fb.free 5
 simp only [List.getElem?_cons_zero, List.getElem?_cons_succ] at c4
 have hpath := h.path
 rw [hpve] at c4
 have HPV := Lib.hid hpve
 have HCV := Lib.hid hcve
 obtain ⟨N, hN⟩ : ∃ N, N = s.path.length := ⟨_, rfl⟩
 rw [← hN] at c4 q1 q2
 obtain ⟨j, hj⟩ : ∃ j, j = P.length := ⟨_, rfl⟩
 have hN1 : N ≤ 1000000 := by omega
 have hjN : j ≤ N := by rw [hj, hN, hp]; simp
 have hL : N - j = (x :: r).length := by rw [hj, hN, hp]; simp
 have hIX := Lib.hid (fun w' (hE : Ext w w') => Index_any s.path x pv w' (OwnI.reads (own_ext h.path hE)))
 rw [show idxI s.path x = (j : Int) by rw [hp, hj]; exact idxI_mid P r x hx, hpve, ← hN] at hIX
 have hsl1 := slice_from (P := Tryz.prog) Tryz.underlying24 info_int A N c j hjN
 rw [Nat.mul_one] at hsl1
 obtain ⟨TA, hTA⟩ : ∃ TA, (if c = j then A else A.map (·.add j)) = TA := ⟨_, rfl⟩
 have hsl : ∀ W : World, (Instr.slice 24 (.slice A N c) (some (.int .i64 (j : Int))) none none).run Tryz.prog W = .ok (.slice TA (N - j) (c - j)) W := fun W => by rw [← hTA]; exact hsl1 W
 have hRT : ∀ w', Ext w w' → RI w' (.slice TA (N - j) (c - j)) (x :: r) := fun w' hE => by
  obtain ⟨A', c', e1, -, -, e4⟩ := OwnI.reads (own_ext h.path hE)
  rw [hpve] at e1
  injection e1 with a1 a2 a3
  subst a1 a3
  refine ⟨TA, c - j, by rw [hL], by rw [← hL]; omega, by rw [← hL]; omega, fun i hi => ?_⟩
  rw [List.length_map] at hi
  have hne : ¬ c = j := fun e => by
   have : (x :: r).length = 0 := by rw [← hL]; omega
   simp at this
  rw [← hTA, if_neg hne]
  have hij : j + i < s.path.length := by rw [← hN]; have := hL; omega
  obtain ⟨ad, rfl, hc⟩ := e4 (j + i) (by simpa using hij)
  refine ⟨ad.add j, rfl, ?_⟩
  rw [show (ad.add j).add i = ad.add (j + i) by unfold Addr.add; split <;> split <;> simp_all <;> omega, hc]
  simp only [List.getElem_map]
  congr 2
  have he : s.path[j + i]? = (x :: r)[i]? := by rw [hp, List.getElem?_append_right (by omega)]; congr 1; omega
  rw [List.getElem?_eq_getElem hij, List.getElem?_eq_getElem hi] at he
  exact Option.some.inj he
 have hst := slice_to (P := Tryz.prog) Tryz.underlying24 info_int A N c j (by omega)
 have HRT := Lib.hid hRT
 have HL := Lib.hid hL
 have HJ := Lib.hid hj
 have HN := Lib.hid hN
 have HP := Lib.hid hp
 clear h htl hidx hpve hcve hpath hj hRT hL hN hTA hsl1 hp
 go_enter Tryz.func99, Tryz.ntmps99
 go_upto_region 3 with (first
  | (go_at_call 128; refine (hIX.out _ (Ext.refl _)).mono ?_; rintro e w1 ⟨rfl, hE⟩; have HE1 := Lib.hid hE; have c4b := hE.cell c4; have f4b := (by rw [Below.frozen hE (World.block_lt_of_cell? _ _ c4)]; exact f4 : w1.frozen? ⟨B.F, 4, none⟩ = false); clear hE)
  | (go_at_call 59; refine (cloneI_any _ (x :: r) _ (HRT.out _ HE1.out) (by rw [← HL.out]; omega)).mono ?_; rintro e w2 ⟨v2, rfl, ho, hE⟩; have HE2 := Lib.hid (HE1.out.trans hE); have HO2 := Lib.hid ho; have c4c := hE.cell c4b; have f4c := (by rw [Below.frozen hE (World.block_lt_of_cell? _ _ c4b)]; exact f4b : w2.frozen? ⟨B.F, 4, none⟩ = false); clear hE ho))
 have hset := Chg.set w2 B.F 4 (.slice A j c)
 have hTW2 := H.out.ext HE2.out
 have hpathT : OwnI w2 base (.slice A j c) P := by
  have h1 := hTW2.path
  rw [HPV.out] at h1
  unfold OwnI at h1
  rw [← HN.out] at h1
  have h2 := own_shorter h1 hjN (fun e => by
   subst e
   have := OwnI.reads hTW2.path
   obtain ⟨A', c', e1, e2, e3, e4⟩ := this
   rw [HPV.out] at e1
   injection e1 with a1 a2 a3
   subst a1
   have h5 : s.path.length = 0 := by
    by_cases h0 : s.path.length = 0
    · exact h0
    · obtain ⟨ad, h6, -⟩ := e4 0 (by simp; omega)
      cases h6
   have := HP.out
   rw [this] at h5
   simp at h5)
  have h3 : s.path.take j = P := by rw [HP.out, HJ.out, List.take_left']; rfl
  rw [← List.map_take, h3] at h2
  unfold OwnI
  rw [← HJ.out]; exact h2
 have hnp := hTW2.newPath (S := fun i => i = B.F) hset (fun _ h => .inl h) (.slice A j c) P (hset.own hpathT (fun b hb e => fin_ne_own (by decide) hTW2.fb hpathT hb e)) (fun k hk => .inl (by rw [HPV.out]; cases A with | none => simp [Value.ownBlock] at hk | some a => exact hk)) (hTW2.fb.set 4 _)
 have hO3 : OwnI (w2.setCell ⟨B.F, 4, none⟩ (.slice A j c)) base v2 (x :: r) := own_lower (hset.own HO2.out (fun b hb e => fin_ne_own (by decide) hTW2.fb HO2.out hb e)) (Nat.le_trans H.out.sz HE1.out.size)
 have hv2lo : ∀ k, v2.ownBlock = some k → w.heap.size ≤ k := fun k hk => by have := (own_typed HO2.out hk).1; have := HE1.out.size; omega
 generalize w2.setCell ⟨B.F, 4, none⟩ (.slice A j c) = w3 at hnp hO3 ⊢
 obtain ⟨A2, c2, hv2e, r1, r2, -⟩ := OwnI.reads hO3
 obtain ⟨L, hLe⟩ : ∃ L, L = (x :: r).length := ⟨_, rfl⟩
 rw [← hLe] at hv2e r1 r2
 have HLE := Lib.hid hLe
 have HV2E := Lib.hid hv2e
 have HT3 := Lib.hid hnp.1
 have HK3 := Lib.hid ((Kp.ext HE2.out).trans hnp.2)
 have HO3 := Lib.hid hO3
 have HLO := Lib.hid hv2lo
 have hL1 : L ≤ 1000000 := by have := HL.out; rw [hLe, ← this]; omega
 subst hv2e
 clear hnp hO3 hv2lo hLe hset hTW2 hpathT c4 f4 f5 c4c f4c c4b f4b
 go_wp2
 go_loopg [32] L (fun gn i wr => ∃ k : Nat, k ≤ L ∧ gn + k = L ∧ i = .int .i64 k ∧ Hid (TW base f B wr (.slice A j c) cv vs { s with path := P, on := fun y => if y ∈ (x :: r).take k then false else s.on y }) ∧ Hid (Kp base w wr) ∧ Hid (OwnI wr base (.slice A2 L c2) (x :: r)))
 case atStart => exact ⟨0, Nat.zero_le _, by omega, rfl, by simpa using HT3, HK3, HO3⟩
 case round =>
  obtain ⟨k, hk, hgk, rfl, HT, HK, HO⟩ := hrel
  obtain ⟨w4, rfl⟩ : ∃ w4 : World, w4 = wr := ⟨_, rfl⟩
  by_cases hlt : k < L
  · have hkf : k < (x :: r).length := by rw [← HLE.out]; exact hlt
    obtain ⟨ad, rfl, hcell⟩ := (OwnI.reads HO.out).row.2.2.2.int k hkf
    have c3 := HT.out.fb.cell 3
    simp only [List.getElem?_cons_zero, List.getElem?_cons_succ] at c3
    obtain ⟨ko, o1, o2, o3⟩ := HT.out.on
    obtain ⟨d1, d2, d3⟩ := HT.out.ne
    have hyp : (x :: r)[k] ∈ s.path := by rw [HP.out]; exact List.mem_append_right _ (List.getElem_mem hkf)
    have hony := onSet_step s.on (x :: r) k hkf
    generalize (x :: r)[k] = y at hcell hyp hony
    obtain ⟨w5, hup, m5, hc5, -⟩ := o1.update (P := Tryz.prog) fam_kvI Tryz.underlying78 y (.bool false)
    unfold kvI at hup
    obtain ⟨T5, K5⟩ := HT.out.upd (s' := { s with path := P, on := fun z => if z ∈ (x :: r).take (k + 1) then false else s.on z }) (hc5.mono fun i hi => .inr (.inr hi)) rfl rfl
     (by obtain ⟨kn, n1, n2⟩ := HT.out.num; exact ⟨kn, n1.keep hc5 (fun e => d2 e), n2⟩)
     (by obtain ⟨kl, l1, l2⟩ := HT.out.low; exact ⟨kl, l1.keep hc5 (fun e => d3 e), l2⟩)
     ⟨_, m5, fun n => by
      rw [lkp_kput]
      show _ = Value.bool ((fun z => if z ∈ (x :: r).take (k + 1) then false else s.on z) n)
      rw [hony]
      by_cases e : n = y
      · subst e; rw [if_pos rfl, fset_same]; rfl
      · rw [if_neg e, fset_ne _ _ e]; exact o2 n, fun n hn => by
      rw [lkp_kput, if_neg (fun e => by subst e; exact hnum _ hyp hn)]; exact o3 n hn⟩
    have HT5 := Lib.hid T5
    have HK5 := Lib.hid (HK.out.trans K5)
    have HO5 := Lib.hid (hc5.own HO.out (fun b hb => row_ne_map HO.out o1 b hb))
    clear o1 o2 o3 d1 d2 d3 hyp hony m5 hc5 T5 K5
    go_wp2
    go_roundg (L - (k + 1))
    case measure => omega
    case rel => exact ⟨k + 1, by omega, by omega, by go_num, HT5, HK5, HO5⟩
  · obtain rfl : k = L := by omega
    have hfull : (x :: r).take k = x :: r := by rw [HLE.out, List.take_length]
    rw [hfull] at HT
    have c5 := HT.out.fb.cell 5
    have f5 := HT.out.fb.free 5
    simp only [List.getElem?_cons_zero, List.getElem?_cons_succ] at c5
    rw [HCV.out] at c5
    clear hfull
    obtain ⟨i0, hi, hz0, hz1, hz2⟩ := info_parts info_ints
    have HI := Lib.hid hi
    have HZ := Lib.hid hz0
    have HZ1 := Lib.hid hz1
    have HZ2 := Lib.hid hz2
    clear hi hz0 hz1 hz2
    have f5' := HT.out.fb.free 5
    go_wp2_with (at_builtin; refine wpList_append_own _ rfl (.tmp 46) (.tmp 48) 22 rfl base 24 i0 (.slice none 0 0) 1 24 Tryz.underlying22 HI.out HZ.out HZ1.out HZ2.out rfl (by decide) _ vs.length vs rfl (own_ext (by rw [← HCV.out]; exact HT.out.cls.1) (Ext.alloc w4 _)) ⟨w4.heap.size, 0, none⟩ 1 1 [.slice A2 k c2] rfl rfl (one_cell w4 _ _) (by simp [Value.oneCell']) (by unfold maxLen; omega) (by omega) (by have := HT.out.sz; simp; omega) ?_; intro v' w6 ho6 hg6 _; obtain ⟨A7, c7, hv7, -⟩ := own_row (vs := vs ++ [.slice A2 k c2]) (by rw [List.length_append]; exact ho6); have hv8 : v' = .slice A7 (vs.length + 1) c7 := (by rw [hv7, List.length_append]; rfl); clear hv7; subst hv8; have HO6 := Lib.hid ho6; have HC6 := Lib.hid (grown_chg hg6); clear ho6 hg6
                 have hch2 : Chg (fun i => some i = cv.ownBlock) w4 w6 := ((Ext.alloc w4 _).chg _).trans (by rw [HCV.out]; exact HC6.out)
                 have hb6 := hch2.blk HT.out.fb (fun h => fin_ne_own (by decide) HT.out.fb HT.out.cls.1 h.symm rfl)
                 have b65 := hb6.cell 5
                 have f65 := hb6.free 5
                 simp only [List.getElem?_cons_zero, List.getElem?_cons_succ] at b65
                 have HB6 := Lib.hid hb6
                 have HCH := Lib.hid hch2
                 clear hch2 hb6)
    have hset := Chg.set w6 B.F 5 (.slice A7 (vs.length + 1) c7)
    have HT' := HT.out
    have hcl5 : OwnI w4 base (.slice A2 k c2) (x :: r) := HO.out
    have hfin := HT'.newCls (S := fun i => i = B.F ∨ cv.ownBlock = some i) ((HCH.out.mono fun i hi => .inr hi.symm).trans (hset.mono fun i hi => .inl hi)) (fun _ h => h) (.slice A7 (vs.length + 1) c7) (.slice A2 k c2) (x :: r) hcl5
     (fun b hb hp => by
      have h1 := HLO.out b hb
      have h2 := (own_typed H.out.path (g := b) (by rw [HPV.out]; cases A with | none => simp [Value.ownBlock] at hp | some a => exact hp)).2.1
      omega)
     (fun v hv b hb hp => by
      obtain ⟨v1, v2, v3, -, -⟩ := H.out.cls
      obtain ⟨i, hi, rfl⟩ := List.getElem_of_mem hv
      have h1 := HLO.out b hp
      have h2 := (own_typed (v3 i hi (by omega)) hb).2.1
      omega)
     (hset.own HO6.out (fun b hb e => fin_ne_own (by decide) HB6.out HO6.out hb e)) (HB6.out.set 5 _)
    rw [HTL.out]
    go_end0
    exact ⟨_, _, _, rfl, hfin.1, HK.out.trans hfin.2⟩
end Go.Proofs.YtjecjaihficcdaaGreat
