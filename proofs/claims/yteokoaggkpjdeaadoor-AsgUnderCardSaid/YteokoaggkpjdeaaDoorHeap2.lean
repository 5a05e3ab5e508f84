/- Walks of heap.Push and heap.Pop over asg.numbers. -/
import Derived.Test.YteokoaggkpjdeaaDoorHeap
namespace Go.Proofs.YteokoaggkpjdeaaDoor
open Go.RowKit

theorem m_LenH (U off : Nat) (w : World) {eU : TypeId} {cells : List Value} {g c : Nat} {xs : List Int} (h : HpS w U off eU cells g c xs) : ∀ k, (method (k + 1) 83 (.pointer (some ⟨U, off, none⟩)) "Len").run Tryd.prog w = .ok (149, .slice (some ⟨g, 0, none⟩) xs.length c) w := m_Len _ w h.cell

def PostPush (w : World) (U off : Nat) (eU : TypeId) (cells : List Value) (B : Nat) (v : Value) (xs : List Int) (n : Int) (e : Ending) (w' : World) : Prop :=
  ∃ (g c : Nat) (ys : List Int), e = .returned (.tuple #[]) ∧ HpS w' U off eU (cells.set off (.slice (some ⟨g, 0, none⟩) ys.length c)) g c ys ∧ ys.Perm (xs ++ [n]) ∧ HeapOn ys ys.length ∧
    B ≤ g ∧ (v.ownBlock = some g ∨ w.heap.size ≤ g) ∧ Chg (fun k => k = U ∨ some k = v.ownBlock) w w'

set_option maxHeartbeats 1000000 in
theorem heapPush_any (U off : Nat) (eU : TypeId) (cells : List Value) (B : Nat) (v : Value) (xs : List Int) (n : Int) (w : World) (hU : Blk w U eU cells) (hne : eU ≠ 3) (hv : cells[off]? = some v)
    (hown : w.ownsRow B 3 1 v xs.length (xs.map (Value.int .i64))) (hB : B ≤ w.heap.size) (hl : xs.length ≤ 100000000) (hh : HeapOn xs xs.length) :
    Calls Tryd.prog 68 #[.iface 83 (.pointer (some ⟨U, off, none⟩)), .iface 3 (.int .i64 n)] w (PostPush w U off eU cells B v xs n) := by
  have HP := Lib.hid (numPush_any U off eU cells B v xs n w hU hne hv hown hB (by omega))
  have HH := Lib.hid hh
  have HV := Lib.hid hv
  have HNE := Lib.hid hne
  clear hU hv hown hh hne
  go_enter Tryd.func68, Tryd.ntmps68
  go_wp2_with (first
    | ((with_reducible refine at_dst 6 rfl ?_); refine wpList_invoke (.tmp 4) "Push" #[.tmp 5] _ rfl (by rfl) rfl (m_push ⟨U, off, none⟩ _) fv_NPush #[.pointer (some ⟨U, off, none⟩), .iface 3 (.int .i64 n)] (by simp only [List.map_toArray, List.map_cons, List.map_nil, List.append_toArray, List.cons_append, List.nil_append]; rfl) ?_
       refine HP.out.mono ?_
       rintro e w1 ⟨g, c, rfl, h⟩
       have H1 := Lib.hid h
       clear h
       have hoff : off < cells.length := (List.getElem?_eq_some_iff.1 HV.out).1
       have hs1 : HpS w1 U off eU (cells.set off (.slice (some ⟨g, 0, none⟩) (xs ++ [n]).length c)) g c (xs ++ [n]) := ⟨by simpa using H1.out.1, by simp [hoff], H1.out.2.2.2.1, HNE.out⟩
       have HS1 := Lib.hid hs1
       have HUP := Lib.hid (up_any U off eU _ g c (xs ++ [n]) xs.length w1 hs1 (by simp) (HH.out.snoc n) (by simp; omega))
       have HLN := Lib.hid (m_LenH U off w1 hs1)
       obtain ⟨m, hm⟩ : ∃ m, m = (xs ++ [n]).length := ⟨_, rfl⟩
       have hm2 : ((xs.length : Nat) : Int) = (m : Int) - 1 := by rw [hm]; simp
       have hm3 : 1 ≤ m := by rw [hm]; simp
       have hm4 : m ≤ 100000001 := by rw [hm]; simp; omega
       rw [hm2] at HUP
       rw [← hm] at HLN
       clear hs1 hm2 hm hoff
       refine ⟨_, rfl, ?_⟩; simp only [Act.put, List.setIfInBounds_toArray, List.set_cons_zero, List.set_cons_succ])
    | ((with_reducible refine at_dst 9 rfl ?_); refine wpList_invoke (.tmp 8) "Len" #[] _ rfl (by rfl) rfl HLN.out fv_Len #[.slice (some ⟨g, 0, none⟩) m c] (by simp only [List.map_toArray, List.map_nil, List.append_toArray, List.cons_append, List.nil_append]) ?_; refine (numLen_any _ _ _ _).mono ?_; rintro e w2 ⟨rfl, rfl⟩; refine ⟨_, rfl, ?_⟩; simp only [Act.put, List.setIfInBounds_toArray, List.set_cons_zero, List.set_cons_succ])
    | (go_at_call 90; refine HUP.out.mono ?_; rintro e w2 ⟨ys, rfl, hy⟩; have HY := Lib.hid hy; clear hy))
  go_end0
  obtain ⟨hp, hho, hr2, hu2⟩ := HY.out
  obtain ⟨hb1, hBg, hat, hrow, hchg⟩ := H1.out
  have hyl := hp.length_eq
  have hs2 := HS1.out.upd hu2 hr2 hyl
  rw [← hyl] at hho
  refine ⟨g, c, ys, rfl, ?_, hp, hho, hBg, hat, ?_⟩
  · rw [hyl]; exact hs2
  · refine hchg.then hu2.chg (fun i hi => ?_)
    subst hi
    rcases hat with h | h
    · exact .inl (.inr h.symm)
    · exact .inr h

def PostPop (w : World) (U off : Nat) (eU : TypeId) (cells : List Value) (g c : Nat) (xs : List Int) (e : Ending) (w' : World) : Prop :=
  ∃ (x : Int) (ys : List Int), e = .returned (.iface 3 (.int .i64 x)) ∧ HpS w' U off eU (cells.set off (.slice (some ⟨g, 0, none⟩) ys.length c)) g c ys ∧ xs.Perm (x :: ys) ∧ HeapOn ys ys.length ∧
    (∀ y ∈ xs, x ≤ y) ∧ Chg (fun k => k = U ∨ k = g) w w'

set_option maxHeartbeats 1000000 in
theorem heapPop_any (U off : Nat) (eU : TypeId) (cells : List Value) (g c : Nat) (xs : List Int) (w : World) (h : HpS w U off eU cells g c xs) (h0 : 0 < xs.length) (hl : xs.length ≤ 100000000) (hh : HeapOn xs xs.length) :
    Calls Tryd.prog 70 #[.iface 83 (.pointer (some ⟨U, off, none⟩))] w (PostPop w U off eU cells g c xs) := by
  obtain ⟨n, hn⟩ : ∃ n, xs.length = n + 1 := ⟨xs.length - 1, by omega⟩
  have hn2 : (n : Int) = (xs.length : Int) - 1 := by omega
  have H := Lib.hid h
  have HH := Lib.hid hh
  have HN := Lib.hid hn
  have HN2 := Lib.hid hn2
  have HLN := Lib.hid (m_LenH U off w h)
  have HSW := Lib.hid (numSwap_any g c xs 0 n (by omega) (by omega) w h.row)
  rw [hn2] at HSW
  have hc0 := h.cell
  have HDN := Lib.hid (fun (w1 : World) (hr : RowAt w1 g c (swp xs 0 n)) (hu : Upd g w w1) =>
    down_any U off eU cells g c (swp xs 0 n) n w1 (h.upd hu hr (swp_length xs 0 n)) (by rw [swp_length]; omega) (hh.swap0 hn) (by rw [swp_length]; omega))
  rw [hn2] at HDN
  have HPP := Lib.hid (fun (w1 w2 : World) (hr : RowAt w1 g c (swp xs 0 n)) (hu : Upd g w w1) {ys : List Int} (hy : ys.Perm (swp xs 0 n) ∧ HeapOn ys n ∧ (∀ q, n ≤ q → ys.getD q 0 = (swp xs 0 n).getD q 0) ∧ RowAt w2 g c ys ∧ Upd g w1 w2) =>
    have hyl : ys.length = n + 1 := by rw [hy.1.length_eq, swp_length]; exact hn
    numPop_any U off eU cells g c (ys.take n) (ys.getD n 0) w2 (by
      have := (h.upd hu hr (swp_length xs 0 n)).upd hy.2.2.2.2 hy.2.2.2.1 (hy.1.length_eq)
      rwa [take_last hyl] at this) (by rw [List.length_take]; omega))
  clear h hh hn hn2
  go_enter Tryd.func70, Tryd.ntmps70
  go_wp2_with (first
    | ((with_reducible refine at_dst 5 rfl ?_); refine wpList_invoke (.tmp 4) "Len" #[] _ rfl (by rfl) rfl HLN.out fv_Len #[.slice (some ⟨g, 0, none⟩) xs.length c] (by simp only [List.map_toArray, List.map_nil, List.append_toArray, List.cons_append, List.nil_append]) ?_; refine (numLen_any _ _ _ _).mono ?_; rintro e w2 ⟨rfl, rfl⟩; refine ⟨_, rfl, ?_⟩; simp only [Act.put, List.setIfInBounds_toArray, List.set_cons_zero, List.set_cons_succ])
    | ((with_reducible refine at_dst 9 rfl ?_); refine wpList_invoke (.tmp 7) "Swap" #[.const (.int .i64 0), .tmp 8] _ rfl (by rfl) rfl (m_Swap ⟨U, off, none⟩ _ hc0) fv_Swap #[.slice (some ⟨g, 0, none⟩) xs.length c, .int .i64 0, .int .i64 ((xs.length : Int) - 1)] (by simp only [List.map_toArray, List.map_cons, List.map_nil, List.append_toArray, List.cons_append, List.nil_append]; rfl) ?_; refine HSW.out.mono ?_; rintro e w1 ⟨rfl, hr, hu⟩; have HR := Lib.hid hr; have HU := Lib.hid hu; clear hr hu; refine ⟨_, rfl, ?_⟩; simp only [Act.put, List.setIfInBounds_toArray, List.set_cons_zero, List.set_cons_succ])
    | (go_at_call 91; refine (HDN.out _ HR.out HU.out).mono ?_; rintro e w2 ⟨ys, b, rfl, hy⟩; have HY := Lib.hid hy; clear hy)
    | ((with_reducible refine at_dst 14 rfl ?_); refine wpList_invoke (.tmp 13) "Pop" #[] _ rfl (by rfl) rfl (m_pop ⟨U, off, none⟩ _) fv_NPop #[.pointer (some ⟨U, off, none⟩)] (by simp only [List.map_toArray, List.map_nil, List.append_toArray, List.cons_append, List.nil_append]) ?_; refine (HPP.out _ _ HR.out HU.out HY.out).mono ?_; rintro e w3 ⟨rfl, hs3, hc3⟩; have HS3 := Lib.hid hs3; have HC3 := Lib.hid hc3; clear hs3 hc3; refine ⟨_, rfl, ?_⟩; simp only [Act.put, List.setIfInBounds_toArray, List.set_cons_zero, List.set_cons_succ]))
  go_ret
  obtain ⟨hp, hho, hk, hr2, hu2⟩ := HY.out
  have hsl : (swp xs 0 n).length = n + 1 := by rw [swp_length]; exact HN.out
  have hyl : ys.length = n + 1 := by rw [hp.length_eq, hsl]
  have hg0 : ys.getD n 0 = xs.getD 0 0 := by
    have := HN.out
    rw [hk n (Nat.le_refl _), swp_get xs (by omega) (by omega), if_pos rfl]
  refine ⟨xs.getD 0 0, ys.take n, ?_, ?_, ?_, ?_, ?_, ?_⟩
  · rw [hg0]; rfl
  · exact HS3.out
  · have h1 : xs.Perm ys := (hp.trans (swp_perm xs (by have := HN.out; omega) (by have := HN.out; omega))).symm
    rw [take_last hyl, hg0] at h1
    exact h1.trans (List.perm_append_comm)
  · exact hho.take (by omega)
  · intro y hy
    obtain ⟨k, hk1, rfl⟩ := List.getElem_of_mem hy
    have := HH.out.least k hk1
    simpa [hk1] using this
  · exact ((HU.out.chg.mono fun i h => .inr h).trans (hu2.chg.mono fun i h => .inr h)).trans (HC3.out.mono fun i h => .inl h)

end Go.Proofs.YteokoaggkpjdeaaDoor
