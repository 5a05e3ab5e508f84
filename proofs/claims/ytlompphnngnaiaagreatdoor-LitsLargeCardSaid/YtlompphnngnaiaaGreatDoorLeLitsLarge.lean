/- What LitsLarge says, in plain words: when its lists are a CNF. Rows of the call's own, by their blocks; copies of lists; lists that are written over. The walk of the law LitsLarge. -/
import Derived.Test.YtlompphnngnaiaaGreatDoorLa
import Derived.Test.YtlompphnngnaiaaGreatDoorLc
import Derived.Test.YtlompphnngnaiaaGreatDoorLb
import Derived.OwnWalk
import Derived.Test.YtlompphnngnaiaaGreatDoorLd
namespace Go.Proofs.YtlompphnngnaiaaGreatDoor

def tenL : List Int := [1, -2, 3, 4, 5, 6, 7, 8, 9, 4096]
def largeF (n k m : Nat) : List (List Int) := List.replicate k tenL ++ (List.replicate (n - 1 - k) [] ++ [tenL.take m])
theorem largeF_len {n k m : Nat} (hk : k < n) : (largeF n k m).length = n := by unfold largeF; simp; omega
theorem ten_may : ∀ m, m ≤ 10 → mayB (tenL.take m) = true := by decide
theorem ten_len : ∀ m, m ≤ 10 → (tenL.take m).length = m := by decide
theorem largeF_may {n k m : Nat} (hm : m ≤ 10) : ∀ c ∈ largeF n k m, mayB c = true := by
  intro c hc
  unfold largeF at hc
  rcases List.mem_append.1 hc with h | h
  · rw [List.eq_of_mem_replicate h]; exact ten_may 10 (by decide)
  · rcases List.mem_append.1 h with h | h
    · rw [List.eq_of_mem_replicate h]; rfl
    · rw [List.mem_singleton.1 h]; exact ten_may m hm
theorem total_eq (f : List (List Int)) : total f = (f.map List.length).sum := by
  unfold total lens
  rw [List.take_of_length_le (Nat.le_refl _)]
theorem largeF_total {n k m : Nat} (hm : m ≤ 10) : total (largeF n k m) = k * 10 + m := by
  rw [total_eq]
  unfold largeF
  rw [List.map_append, List.map_append, List.sum_append, List.sum_append, List.map_replicate, List.map_replicate, List.sum_replicate_nat, List.sum_replicate_nat]
  have := ten_len m hm
  simp [this]
  rfl
theorem large_may {n k m : Nat} (hk : k < n) (hm : m ≤ 10) : mayCnfB (largeF n k m) = decide (n ≤ 20000 ∧ k * 10 + m ≤ 200000) := by
  have hl := largeF_len (m := m) hk
  rw [Bool.eq_iff_iff, decide_eq_true_eq]
  unfold mayCnfB
  rw [Bool.and_eq_true, decide_eq_true_eq, List.all_eq_true, hl]
  constructor
  · rintro ⟨h1, h2⟩
    refine ⟨h1, ?_⟩
    have h3 := h2 (n - 1) (by simp; omega)
    rw [Bool.and_eq_true, decide_eq_true_eq] at h3
    have h4 := h3.1
    rw [show n - 1 + 1 = n by omega] at h4
    have h5 : total (largeF n k m) = lens (largeF n k m) n := by unfold total; rw [hl]
    rw [largeF_total hm] at h5
    omega
  · rintro ⟨h1, h2⟩
    refine ⟨h1, fun j hj => ?_⟩
    have hj' : j < (largeF n k m).length := by rw [hl]; simpa using hj
    rw [Bool.and_eq_true, decide_eq_true_eq, getD_of _ j hj']
    refine ⟨?_, largeF_may hm _ (List.getElem_mem hj')⟩
    have := lens_le (largeF n k m) (j + 1)
    rw [largeF_total hm] at this
    omega
end Go.Proofs.YtlompphnngnaiaaGreatDoor
namespace Go.Proofs.YtlompphnngnaiaaGreatDoor
open Go.RowKit

/-- The row of a slice of the call's own: its block's cells. -/
theorem own_blk {w : World} {base : Nat} {e : TypeId} {v : Value} {vs : List Value} (h : w.ownsRow base e 1 v vs.length vs) (h0 : 0 < vs.length) :
    ∃ g c cur, v = .slice (some ⟨g, 0, none⟩) vs.length c ∧ base ≤ g ∧ Blk w g e cur ∧ vs.length ≤ c ∧ c ≤ maxLen ∧ cur.length = c ∧ cur.take vs.length = vs := by
  obtain ⟨-, ⟨-, h⟩ | ⟨g, c, cur, h1, h2, h3, h4, h5, h6, h7⟩⟩ := h
  · omega
  · exact ⟨g, c, cur.toList, h1, h2, by unfold Blk; simpa using h3, h4, h5, by simpa using h6, by simpa using h7⟩

theorem blk_own {w : World} {base : Nat} {e : TypeId} {g c : Nat} {vs cur : List Value} (h2 : base ≤ g) (h3 : Blk w g e cur) (h4 : vs.length ≤ c) (h5 : c ≤ maxLen) (h6 : cur.length = c) (h7 : cur.take vs.length = vs) :
    w.ownsRow base e 1 (.slice (some ⟨g, 0, none⟩) vs.length c) vs.length vs :=
  ⟨by simp, .inr ⟨g, c, cur.toArray, rfl, h2, h3, h4, h5, by simpa using h6, by simpa using h7⟩⟩

/-- A row of one-cell elements of the call's own, by its block: an element's cell; an element stored. -/
theorem own_at {α : Type} (enc : α → Value) {w : World} {B : Nat} {e : TypeId} {v : Value} {xs : List α} (h : w.ownsRow B e 1 v xs.length (xs.map enc)) (i : Nat) (hi : i < xs.length) :
    ∃ g c, v = .slice (some ⟨g, 0, none⟩) xs.length c ∧ B ≤ g ∧ w.cell? ⟨g, i, none⟩ = some (enc xs[i]) ∧ w.frozen? ⟨g, i, none⟩ = false ∧
      ∀ x : α, (w.setCell ⟨g, i, none⟩ (enc x)).ownsRow B e 1 v xs.length ((xs.set i x).map enc) := by
  have hl : (xs.map enc).length = xs.length := List.length_map ..
  rw [← hl] at h
  obtain ⟨g, c, cur, rfl, hb, hblk, h1, h2, h3, h4⟩ := own_blk h (by omega)
  rw [hl] at h1 h4
  refine ⟨g, c, by rw [hl], hb, ?_, hblk.free i, fun x => ?_⟩
  · rw [hblk.cell]
    have := congrArg (fun l => l[i]?) h4
    simp only [List.getElem?_take, if_pos hi, List.getElem?_map, List.getElem?_eq_getElem hi] at this
    exact this
  · have := blk_own (vs := (xs.set i x).map enc) hb (hblk.set i (enc x)) (by simpa using h1) h2 (by simpa using h3) (by
      simp only [List.length_map, List.length_set]
      rw [List.take_set, h4, List.map_set])
    simpa using this

/-- Own rows of integers, whatever is in them. -/
theorem own_set_any {w : World} {B g k : Nat} {v : Value} {xs : List Int} (x : Int) (h : OwnI w B v xs) : ∃ ys, OwnI (w.setCell ⟨g, k, none⟩ (.int .i64 x)) B v ys ∧ ys.length = xs.length := by
  unfold OwnI at *
  by_cases hg : v.ownBlock = some g
  · refine ⟨xs.set k x, ?_, by simp⟩
    rcases Nat.eq_zero_or_pos xs.length with h0 | h0
    · have : xs = [] := List.length_eq_zero_iff.1 h0
      subst this
      obtain ⟨h1, ⟨rfl, -⟩ | ⟨g', c, cur, rfl, h3, h4, h5, h6, h7, h8⟩⟩ := h
      · simp [Value.ownBlock] at hg
      · have hgg : g' = g := by simpa [Value.ownBlock] using hg
        subst hgg
        have hb : Blk w g' 3 cur.toList := by unfold Blk; simpa using h4
        have := blk_own (vs := []) h3 (hb.set k (.int .i64 x)) (by simp) h6 (by simpa using h7) (by simp)
        simpa using this
    · have h' : w.ownsRow B 3 1 v (xs.map (Value.int .i64)).length (xs.map (Value.int .i64)) := by rw [List.length_map]; exact h
      obtain ⟨g', c, cur, rfl, h3, h4, h5, h6, h7, h8⟩ := own_blk h' (by simpa using h0)
      have hgg : g' = g := by simpa [Value.ownBlock] using hg
      subst hgg
      have := blk_own (vs := (xs.set k x).map (Value.int .i64)) h3 (h4.set k (.int .i64 x)) (by simpa using h5) h6 (by simpa using h7) (by
        simp only [List.length_map, List.length_set]
        rw [List.length_map] at h8
        rw [List.take_set, h8, List.map_set])
      simpa using this
  · exact ⟨xs, (Chg.set w g k _).own h (fun i hi e => hg (e ▸ hi)), rfl⟩

/-- The copies that are made: the first k are there. -/
def MadeLL (w0 w : World) (v : Value) (n : Nat) (f : List (List Int)) (k : Nat) : Prop :=
  ∃ vs, w.ownsRow w0.heap.size 22 1 v n vs ∧ vs.length = n ∧ ∀ j (h : j < vs.length) (h' : j < f.length), j < k → OwnI w w0.heap.size vs[j] f[j]

theorem MadeLL.set {w0 w w1 : World} {v cl : Value} {n k : Nat} {f : List (List Int)} (h : MadeLL w0 w v n f k) (hn : n = f.length) (hk : k < f.length) (hE : Ext w w1) (hc : OwnI w1 w.heap.size cl f[k]) (h0 : w0.heap.size ≤ w.heap.size) :
    ∃ g c, v = .slice (some ⟨g, 0, none⟩) n c ∧ (∃ u, w1.cell? ⟨g, k, none⟩ = some u) ∧ w1.frozen? ⟨g, k, none⟩ = false ∧ w0.heap.size ≤ g ∧ MadeLL w0 (w1.setCell ⟨g, k, none⟩ cl) v n f (k + 1) := by
  subst hn
  obtain ⟨vs, ho, hl, he⟩ := h
  have ho1 := own_ext ho hE
  rw [← hl] at ho1
  obtain ⟨g, c, cur, rfl, h3, h4, h5, h6, h7, h8⟩ := own_blk ho1 (by omega)
  have hch := Chg.set w1 g k cl
  have hne : ∀ {B : Nat} {v' : Value} {xs : List Int}, OwnI w1 B v' xs → OwnI (w1.setCell ⟨g, k, none⟩ cl) B v' xs := fun {B v' xs} hx => hch.own hx (fun i hi e => by
    subst e
    obtain ⟨-, -, cur2, hq⟩ := own_typed hx hi
    unfold Blk at h4
    rw [h4] at hq
    injection hq with hq
    injection hq with _ hq
    exact absurd hq (by decide))
  refine ⟨g, c, by rw [hl], ⟨cur[k]'(by omega), by rw [h4.cell, List.getElem?_eq_getElem]⟩, h4.free k, h3, vs.set k cl, ?_, by simp [hl], fun j hj hj' hjk => ?_⟩
  · have := blk_own (vs := vs.set k cl) h3 (h4.set k cl) (by simpa using h5) h6 (by simpa using h7) (by rw [List.length_set, List.take_set, h8])
    simp only [List.length_set] at this
    rw [hl] at this ⊢
    exact this
  · rw [List.length_set] at hj
    by_cases e : k = j
    · subst e
      simp only [List.getElem_set_self]
      exact hne (own_lower hc h0)
    · rw [List.getElem_set_ne e]
      exact hne (own_ext (he j hj hj' (by omega)) hE)

theorem MadeLL.done {w0 w : World} {v : Value} {n : Nat} {f : List (List Int)} (h : MadeLL w0 w v n f f.length) (hn : n = f.length) : OwnLL w w0.heap.size v f := by
  subst hn
  obtain ⟨vs, ho, hl, he⟩ := h
  exact ⟨vs, by rw [hl]; exact ho, hl, fun j hj hj' => he j hj hj' hj'⟩

/-- The lists that are written over. -/
def Wiped (w1 w : World) (v : Value) (vs : List Value) (r : List (List Int)) : Prop :=
  w.ownsRow w1.heap.size 22 1 v vs.length vs ∧ (∀ j (h : j < vs.length) (h' : j < r.length), ∃ ys, OwnI w w1.heap.size vs[j] ys ∧ ys.length = r[j].length) ∧ Ext w1 w

theorem Wiped.set {w1 w : World} {v : Value} {vs : List Value} {r : List (List Int)} (h : Wiped w1 w v vs r) {j : Nat} (hj : j < vs.length) (hj' : j < r.length) {k : Nat} (hk : k < r[j].length) :
    ∃ g c u, vs[j] = .slice (some ⟨g, 0, none⟩) r[j].length c ∧ w.cell? ⟨g, k, none⟩ = some u ∧ w.frozen? ⟨g, k, none⟩ = false ∧ Wiped w1 (w.setCell ⟨g, k, none⟩ (.int .i64 0)) v vs r := by
  obtain ⟨h1, h2, h3⟩ := h
  obtain ⟨ys, hy, hyl⟩ := h2 j hj hj'
  obtain ⟨g, c, hv, hB, hcell, hfree, -⟩ := own_at (Value.int .i64) hy k (by omega)
  refine ⟨g, c, _, by rw [hv, hyl], hcell, hfree, ?_, fun i hi hi' => ?_, (Chg.set w g k _).toExt h3 (fun i hi => hi ▸ hB)⟩
  · refine (Chg.set w g k _).own h1 (fun i hi e => ?_)
    subst e
    obtain ⟨-, -, cur, hq⟩ := own_typed h1 hi
    obtain ⟨-, -, cur2, hq2⟩ := own_typed hy (show vs[j].ownBlock = some i by rw [hv]; rfl)
    rw [hq] at hq2
    injection hq2 with hq2
    injection hq2 with _ hq2
    exact absurd hq2 (by decide)
  · obtain ⟨zs, hz, hzl⟩ := h2 i hi hi'
    obtain ⟨ys', hy', hyl'⟩ := own_set_any (g := g) (k := k) 0 hz
    exact ⟨ys', hy', by omega⟩

theorem SameAll_same (r : List (List Int)) (v u : Value) (w : World) (hr : RLL w v r) (kr : RLL w u r) : Calls Tryz.prog 48 #[v, u] w fun e w' => e = .returned (.bool true) ∧ Ext w w' := by
  have := SameAll_any r r v u w hr kr
  rw [decide_eq_true rfl] at this
  exact this

theorem Wiped.start {w1 w : World} {v : Value} {r : List (List Int)} (h : OwnLL w w1.heap.size v r) (hE : Ext w1 w) : ∃ A c vs, v = .slice A vs.length c ∧ vs.length = r.length ∧ Wiped w1 w v vs r := by
  obtain ⟨vs, h1, h2, h3⟩ := h
  obtain ⟨A, c, h4, -⟩ := own_row h1
  exact ⟨A, c, vs, h4, h2, h1, fun j hj hj' => ⟨_, h3 j hj hj', rfl⟩, hE⟩
theorem Wiped.ext {w1 w w' : World} {v : Value} {vs : List Value} {r : List (List Int)} (h : Wiped w1 w v vs r) (k : Ext w w') : Wiped w1 w' v vs r :=
  ⟨own_ext h.1 k, fun j hj hj' => by obtain ⟨ys, h1, h2⟩ := h.2.1 j hj hj'; exact ⟨ys, own_ext h1 k, h2⟩, h.2.2.trans k⟩
theorem Wiped.row {w1 w : World} {A : Option Addr} {c : Nat} {vs : List Value} {r : List (List Int)} (h : Wiped w1 w (.slice A vs.length c) vs r) (hl : vs.length = r.length) (k : Nat) (hk : k < vs.length) :
    ∃ ad EA ec, A = some ad ∧ vs[k] = .slice EA (r[k]'(by omega)).length ec ∧ w.cell? (ad.add k) = some (.slice EA (r[k]'(by omega)).length ec) ∧ (r[k]'(by omega)).length ≤ 9223372036854775807 := by
  obtain ⟨A', c', he, -, -, hrow⟩ := own_row h.1
  injection he with e1 _ _
  subst e1
  obtain ⟨ad, hA, hc⟩ := hrow k hk
  obtain ⟨ys, hy, hyl⟩ := h.2.1 k hk (by omega)
  obtain ⟨EA, ec, hv, -, hm, -⟩ := hy.reads
  rw [hyl] at hv hm
  exact ⟨ad, EA, ec, hA, hv, by rw [hc, hv], hm⟩

end Go.Proofs.YtlompphnngnaiaaGreatDoor
namespace Go.Proofs.YtlompphnngnaiaaGreatDoor
open Go.RowKit

/-- A row of slices of the call's own. -/
def LgI (w0 wr : World) (v : Value) (n : Nat) (vs : List Value) : Prop := wr.ownsRow w0.heap.size 22 1 v n vs ∧ vs.length = n
theorem LgI.set {w0 w : World} {v cl : Value} {n k : Nat} {vs : List Value} (h : LgI w0 w v n vs) (hk : k < n) :
    ∃ g c, v = .slice (some ⟨g, 0, none⟩) n c ∧ (∃ u, w.cell? ⟨g, k, none⟩ = some u) ∧ w.frozen? ⟨g, k, none⟩ = false ∧ w0.heap.size ≤ g ∧ LgI w0 (w.setCell ⟨g, k, none⟩ cl) v n (vs.set k cl) := by
  obtain ⟨ho, hl⟩ := h
  rw [← hl] at ho hk
  obtain ⟨g, c, cur, rfl, h3, h4, h5, h6, h7, h8⟩ := own_blk ho (by omega)
  refine ⟨g, c, by rw [hl], ⟨cur[k]'(by omega), by rw [h4.cell, List.getElem?_eq_getElem]⟩, h4.free k, h3, ?_, by simp [hl]⟩
  have := blk_own (vs := vs.set k cl) h3 (h4.set k cl) (by simpa using h5) h6 (by simpa using h7) (by rw [List.length_set, List.take_set, h8])
  simp only [List.length_set] at this
  rw [hl] at this ⊢
  exact this

def lgv (T : Value) (n k : Nat) : List Value := List.replicate k T ++ List.replicate (n - k) (.slice none 0 0)
theorem lgv_set (T : Value) {n k : Nat} (hk : k < n) : (lgv T n k).set k T = lgv T n (k + 1) := by
  unfold lgv
  obtain ⟨d, rfl⟩ : ∃ d, n = k + 1 + d := ⟨n - (k + 1), by omega⟩
  rw [show k + 1 + d - k = d + 1 by omega, show k + 1 + d - (k + 1) = d by omega, List.replicate_succ, List.set_append_right _ _ (by simp), List.length_replicate, Nat.sub_self, List.set_cons_zero, List.replicate_succ', List.append_assoc]
  rfl
theorem lgv_last (T M : Value) {n k : Nat} (hk : k < n) : (lgv T n k).set (n - 1) M = List.replicate k T ++ (List.replicate (n - 1 - k) (.slice none 0 0) ++ [M]) := by
  unfold lgv
  obtain ⟨d, rfl⟩ : ∃ d, n = k + 1 + d := ⟨n - (k + 1), by omega⟩
  rw [show k + 1 + d - k = d + 1 by omega, show k + 1 + d - 1 - k = d by omega, show k + 1 + d - 1 = k + d by omega, List.set_append_right _ _ (by simp), List.length_replicate, show k + d - k = d by omega, List.replicate_succ', List.set_append_right _ _ (by simp), List.length_replicate, Nat.sub_self, List.set_cons_zero]
theorem lg_RLL {w0 w : World} {v T M : Value} {n k m : Nat} {X : List Value} (h : LgI w0 w v n X) (hX : X = List.replicate k T ++ (List.replicate (n - 1 - k) (.slice none 0 0) ++ [M])) (hT : RI w T tenL) (hM : RI w M (tenL.take m)) : RLL w v (largeF n k m) := by
  have key : ∀ (cs : List Nat), (cs.map fun c => if c = 0 then T else if c = 1 then (.slice none 0 0 : Value) else M).length = (cs.map fun c => if c = 0 then tenL else if c = 1 then [] else tenL.take m).length ∧
      ∀ j (h : j < (cs.map fun c => if c = 0 then T else if c = 1 then (.slice none 0 0 : Value) else M).length) (h' : j < (cs.map fun c => if c = 0 then tenL else if c = 1 then [] else tenL.take m).length), RI w (cs.map fun c => if c = 0 then T else if c = 1 then (.slice none 0 0 : Value) else M)[j] (cs.map fun c => if c = 0 then tenL else if c = 1 then [] else tenL.take m)[j] := fun cs => by
    refine ⟨by simp, fun j h h' => ?_⟩
    simp only [List.getElem_map]
    split
    · exact hT
    · split
      · exact RI.none w
      · exact hM
  have e1 : (List.replicate k 0 ++ (List.replicate (n - 1 - k) 1 ++ [2])).map (fun c => if c = 0 then T else if c = 1 then (.slice none 0 0 : Value) else M) = X := by rw [hX]; simp
  have e2 : (List.replicate k 0 ++ (List.replicate (n - 1 - k) 1 ++ [2])).map (fun c => if c = 0 then tenL else if c = 1 then [] else tenL.take m) = largeF n k m := by unfold largeF; simp
  obtain ⟨k1, k2⟩ := key (List.replicate k 0 ++ (List.replicate (n - 1 - k) 1 ++ [2]))
  simp only [e1, e2] at k1 k2
  obtain ⟨ho, hl⟩ := h
  subst hl
  obtain ⟨A, c, rfl, h1, h2, h3⟩ := own_row ho
  exact ⟨A, c, _, rfl, h1, h2, h3, k1, k2⟩
theorem large_64 (n k m : Nat) (hm : m ≤ 10) : All64L (largeF n k m) := fun c hc x hx => by
  have := lit_small (((mayB_iff c).1 (largeF_may hm c hc)).2 x hx)
  unfold I64; omega
theorem and3 : ∀ m : Fin 256, Go.bits .and .u8 (m.1 : Int) 3 = ((m.1 % 4 : Nat) : Int) := by decide +kernel
theorem made_nil (n : Nat) : (madeCells (Value.slice none 0 0).cells (n * 1)).toList = List.replicate n (.slice none 0 0) := by
  unfold madeCells
  apply List.ext_getElem
  · simp
  · intro i h1 h2
    simp [Value.cells, Nat.mod_one]

set_option maxRecDepth 100000 in
set_option maxHeartbeats 20000000 in
theorem large_law (m q p : Int) (hm : 0 ≤ m ∧ m < 256) (hq : 0 ≤ q ∧ q < 65536) (hp : 0 ≤ p ∧ p < 256) (w : World) (hL : LW w) :
    Calls Tryz.prog 5 #[.int .u8 m, .int .u16 q, .int .u8 p] w fun e w' => e = .returned (.bool true) ∧ Ext w w' := by
  have HL := Lib.hid hL
  clear hL
  obtain ⟨m, rfl⟩ : ∃ m' : Nat, m = (m' : Int) := ⟨m.toNat, by omega⟩
  obtain ⟨q, rfl⟩ : ∃ m' : Nat, q = (m' : Int) := ⟨q.toNat, by omega⟩
  obtain ⟨p, rfl⟩ : ∃ m' : Nat, p = (m' : Int) := ⟨p.toNat, by omega⟩
  obtain ⟨i0, hi, hz0, hz1, hz2⟩ := info_parts info_ints
  have HI := Lib.hid hi
  have HZ := Lib.hid hz0
  have HZ1 := Lib.hid hz1
  have HZ2 := Lib.hid hz2
  clear hi hz0 hz1 hz2
  have hand := and3 ⟨m, by omega⟩
  simp only at hand
  obtain ⟨r, hr⟩ : ∃ r, r = m % 4 := ⟨_, rfl⟩
  rw [← hr] at hand
  have hr4 : r < 4 := by omega
  clear hr
  have HTN := Lib.hid (lit0 w tenL (by decide))
  go_enter Tryz.func5, Tryz.ntmps5
  go_upto_region 3 with fail
  obtain ⟨N, hN⟩ : ∃ N : Nat, N = 19997 + r := ⟨_, rfl⟩
  have hnm : (19998 + (r : Int)) = (N : Int) + 1 := by omega
  have hn1 : 19997 ≤ N ∧ N ≤ 20000 := by omega
  obtain ⟨K, hK⟩ : ∃ K, K = min (q % 20002) N := ⟨_, rfl⟩
  obtain ⟨P, hP⟩ : ∃ P, P = p % 11 := ⟨_, rfl⟩
  have hKn : K < N + 1 := by omega
  have hP10 : P ≤ 10 := by omega
  rw [hnm]
  clear hnm hN
  have hE1 := Ext.alloc w (.cells #[.int .i64 1, .int .i64 (-2), .int .i64 3, .int .i64 4, .int .i64 5, .int .i64 6, .int .i64 7, .int .i64 8, .int .i64 9, .int .i64 4096] 3)
  have HTN1 : Hid (RI (w.alloc (.cells #[.int .i64 1, .int .i64 (-2), .int .i64 3, .int .i64 4, .int .i64 5, .int .i64 6, .int .i64 7, .int .i64 8, .int .i64 9, .int .i64 4096] 3)) (slV w.heap.size 10) tenL) := HTN
  have HE1 := Lib.hid hE1
  generalize (w.alloc (.cells #[.int .i64 1, .int .i64 (-2), .int .i64 3, .int .i64 4, .int .i64 5, .int .i64 6, .int .i64 7, .int .i64 8, .int .i64 9, .int .i64 4096] 3)) = w1 at HTN1 HE1 ⊢
  generalize w.heap.size = tb at HTN1 ⊢
  clear hE1 HTN hm
  go_upto_region 4 with ((with_reducible refine at_dst 18 rfl ?_)
                         refine wpList_make_full _ rfl (.tmp 17) (.tmp 17) 33 rfl w1.heap.size 22 i0 (.slice none 0 0) 1 Tryz.underlying33 HI.out HZ.out HZ1.out .i64 .i64 _ _ (N + 1) rfl rfl (by omega) (by omega) (by rw [HZ2.out]; omega) (by unfold maxLen; omega) (Nat.le_refl _) ?_
                         intro w2 hown hg
                         have HE2 : Hid (Ext w1 w2) := Lib.hid ((Ext.refl w1).grown hg (fun k hk => by cases hk))
                         have HLG : Hid (LgI w1 w2 (.slice (some ⟨w1.heap.size, 0, none⟩) (N + 1) (N + 1)) (N + 1) (lgv (slV tb 10) (N + 1) 0)) := Lib.hid ⟨by rw [made_nil] at hown; exact hown, by simp [lgv]⟩
                         clear hown hg)
  generalize hgb : w1.heap.size = gb at HLG ⊢
  clear hgb
  go_wp2_with fail
  go_loopg [10] K (fun gn i wr => ∃ k : Nat, k ≤ K ∧ gn + k = K ∧ i = .int .i64 k ∧ Hid (Ext w1 wr ∧ LgI w1 wr (.slice (some ⟨gb, 0, none⟩) (N + 1) (N + 1)) (N + 1) (lgv (slV tb 10) (N + 1) k)))
  case atStart => exact ⟨0, Nat.zero_le _, by omega, rfl, HE2.out, HLG.out⟩
  case round =>
    obtain ⟨k, hk, hgk, rfl, HS⟩ := hrel
    obtain ⟨w3, rfl⟩ : ∃ w3 : World, w3 = wr := ⟨_, rfl⟩
    by_cases hlt : k < K
    · obtain ⟨g, c, hv, ⟨u0, hcell⟩, hfree, hB, hlg⟩ := HS.out.2.set (cl := slV tb 10) (k := k) (by omega)
      injection hv with e1 e2 e3
      injection e1 with e1
      injection e1 with e1
      subst e1
      rw [lgv_set _ (by omega)] at hlg
      have HE4 : Hid (Ext w1 (w3.setCell ⟨gb, k, none⟩ (slV tb 10))) := Lib.hid ((Chg.set w3 gb k _).toExt HS.out.1 (fun i hi => hi ▸ hB))
      have HLG4 := Lib.hid hlg
      clear hlg hB e2 e3
      go_wp2
      all_goals
        go_roundg (K - (k + 1))
        case measure => omega
        case rel => exact ⟨k + 1, by omega, by omega, by go_num, HE4.out, HLG4.out⟩
    · obtain rfl : k = K := by omega
      have hpm : (p : Int) % 11 = (P : Int) := by omega
      obtain ⟨g, c, hv, ⟨u0, hcell⟩, hfree, hB, hlg⟩ := HS.out.2.set (cl := .slice (some ⟨tb, 0, none⟩) P 10) (k := N) (by omega)
      injection hv with e1 e2 e3
      injection e1 with e1
      injection e1 with e1
      subst e1
      have HE4 : Hid (Ext w1 (w3.setCell ⟨gb, N, none⟩ (.slice (some ⟨tb, 0, none⟩) P 10))) := Lib.hid ((Chg.set w3 gb N _).toExt HS.out.1 (fun i hi => hi ▸ hB))
      have HLG4 := Lib.hid hlg
      clear hlg hB e2 e3 hP
      have HMC : ∀ (d1 d2 : Bool), decide ((N : Int) + 1 ≤ 20000) = d1 → decide ((k : Int) * 10 + (P : Int) ≤ 200000) = d2 → Hid (Calls Tryz.prog 17 #[.slice (some ⟨gb, 0, none⟩) (N + 1) (N + 1)] (w3.setCell ⟨gb, N, none⟩ (.slice (some ⟨tb, 0, none⟩) P 10)) fun e w' => e = .returned (.bool (d1 && d2)) ∧ Ext w1 w') := fun d1 d2 h1 h2 => Lib.hid (by
        have hm := mayCnf_any _ (largeF (N + 1) k P) _ (lg_RLL (T := slV tb 10) HLG4.out (by rw [← lgv_last _ _ hKn]; rfl) (HTN1.out.ext HE4.out) (by
          obtain ⟨A, c, e, g1, g2, g3⟩ := HTN1.out.ext HE4.out
          injection e with e1 e2 e3
          subst e1 e3
          refine ⟨_, _, by rw [ten_len P hP10], by rw [ten_len P hP10]; exact hP10, by rw [ten_len P hP10]; omega, fun j hj => ?_⟩
          rw [List.length_map, ten_len P hP10] at hj
          obtain ⟨ad, ha, hc⟩ := g3 j (by rw [List.length_map]; exact Nat.lt_of_lt_of_le hj hP10)
          refine ⟨ad, ha, ?_⟩
          rw [hc]
          simp)) (large_64 _ _ _ hP10) (fun _ => by rw [largeF_total hP10]; omega)
        rw [large_may hKn hP10] at hm
        refine hm.mono fun e w' ⟨he, hE⟩ => ⟨?_, HE4.out.trans hE⟩
        rw [he, ← h1, ← h2, ← Bool.decide_and]
        congr 2
        rw [decide_eq_decide]
        omega)
      clear HLG4
      by_cases hmn : (N : Int) < (q : Int) % 20002
      · have hkN : N = k := by omega
        subst hkN
        clear hK hlt hgk hk hKn
        by_cases c1 : (N : Int) + 1 ≤ 20000 <;> by_cases c2 : (N : Int) * 10 + (P : Int) ≤ 200000
        · have b1 : decide ((N : Int) + 1 ≤ 20000) = true := decide_eq_true c1
          have b2 : decide ((N : Int) * 10 + (P : Int) ≤ 200000) = true := decide_eq_true c2
          have HMD := HMC _ _ b1 b2
          clear HMC
          go_wp2_with (first
            | (go_at_call 17; refine HMD.out.mono ?_; rintro e w5 ⟨rfl, hE⟩; have HE5 := Lib.hid (HE1.out.trans hE); clear hE HMD)
            | (go_at_call 11; refine (awake_any _ (HL.out.ext HE5.out)).mono ?_; rintro e w6 ⟨rfl, hE⟩; have HE6 := Lib.hid (HE5.out.trans hE); clear hE))
          all_goals first
            | (exfalso; omega)
            | (go_ret; exact ⟨rfl, HE6.out⟩)
        · have b1 : decide ((N : Int) + 1 ≤ 20000) = true := decide_eq_true c1
          have b2 : decide ((N : Int) * 10 + (P : Int) ≤ 200000) = false := decide_eq_false c2
          have HMD := HMC _ _ b1 b2
          clear HMC
          go_wp2_with (first
            | (go_at_call 17; refine HMD.out.mono ?_; rintro e w5 ⟨rfl, hE⟩; have HE5 := Lib.hid (HE1.out.trans hE); clear hE HMD)
            | (go_at_call 11; refine (awake_any _ (HL.out.ext HE5.out)).mono ?_; rintro e w6 ⟨rfl, hE⟩; have HE6 := Lib.hid (HE5.out.trans hE); clear hE))
          all_goals first
            | (exfalso; omega)
            | (go_ret; exact ⟨rfl, HE6.out⟩)
        · have b1 : decide ((N : Int) + 1 ≤ 20000) = false := decide_eq_false c1
          have b2 : decide ((N : Int) * 10 + (P : Int) ≤ 200000) = true := decide_eq_true c2
          have HMD := HMC _ _ b1 b2
          clear HMC
          go_wp2_with (first
            | (go_at_call 17; refine HMD.out.mono ?_; rintro e w5 ⟨rfl, hE⟩; have HE5 := Lib.hid (HE1.out.trans hE); clear hE HMD)
            | (go_at_call 11; refine (awake_any _ (HL.out.ext HE5.out)).mono ?_; rintro e w6 ⟨rfl, hE⟩; have HE6 := Lib.hid (HE5.out.trans hE); clear hE))
          all_goals first
            | (exfalso; omega)
            | (go_ret; exact ⟨rfl, HE6.out⟩)
        · have b1 : decide ((N : Int) + 1 ≤ 20000) = false := decide_eq_false c1
          have b2 : decide ((N : Int) * 10 + (P : Int) ≤ 200000) = false := decide_eq_false c2
          have HMD := HMC _ _ b1 b2
          clear HMC
          go_wp2_with (first
            | (go_at_call 17; refine HMD.out.mono ?_; rintro e w5 ⟨rfl, hE⟩; have HE5 := Lib.hid (HE1.out.trans hE); clear hE HMD)
            | (go_at_call 11; refine (awake_any _ (HL.out.ext HE5.out)).mono ?_; rintro e w6 ⟨rfl, hE⟩; have HE6 := Lib.hid (HE5.out.trans hE); clear hE))
          all_goals first
            | (exfalso; omega)
            | (go_ret; exact ⟨rfl, HE6.out⟩)
      · have hkq : (q : Int) % 20002 = (k : Int) := by omega
        have hkl : ¬ ((N : Int) < (k : Int)) := by omega
        clear hK hlt hgk hk hmn
        by_cases c1 : (N : Int) + 1 ≤ 20000 <;> by_cases c2 : (k : Int) * 10 + (P : Int) ≤ 200000
        · have b1 : decide ((N : Int) + 1 ≤ 20000) = true := decide_eq_true c1
          have b2 : decide ((k : Int) * 10 + (P : Int) ≤ 200000) = true := decide_eq_true c2
          have HMD := HMC _ _ b1 b2
          clear HMC
          go_wp2_with (first
            | (go_at_call 17; refine HMD.out.mono ?_; rintro e w5 ⟨rfl, hE⟩; have HE5 := Lib.hid (HE1.out.trans hE); clear hE HMD)
            | (go_at_call 11; refine (awake_any _ (HL.out.ext HE5.out)).mono ?_; rintro e w6 ⟨rfl, hE⟩; have HE6 := Lib.hid (HE5.out.trans hE); clear hE))
          all_goals first
            | (exfalso; omega)
            | (go_ret; exact ⟨rfl, HE6.out⟩)
        · have b1 : decide ((N : Int) + 1 ≤ 20000) = true := decide_eq_true c1
          have b2 : decide ((k : Int) * 10 + (P : Int) ≤ 200000) = false := decide_eq_false c2
          have HMD := HMC _ _ b1 b2
          clear HMC
          go_wp2_with (first
            | (go_at_call 17; refine HMD.out.mono ?_; rintro e w5 ⟨rfl, hE⟩; have HE5 := Lib.hid (HE1.out.trans hE); clear hE HMD)
            | (go_at_call 11; refine (awake_any _ (HL.out.ext HE5.out)).mono ?_; rintro e w6 ⟨rfl, hE⟩; have HE6 := Lib.hid (HE5.out.trans hE); clear hE))
          all_goals first
            | (exfalso; omega)
            | (go_ret; exact ⟨rfl, HE6.out⟩)
        · have b1 : decide ((N : Int) + 1 ≤ 20000) = false := decide_eq_false c1
          have b2 : decide ((k : Int) * 10 + (P : Int) ≤ 200000) = true := decide_eq_true c2
          have HMD := HMC _ _ b1 b2
          clear HMC
          go_wp2_with (first
            | (go_at_call 17; refine HMD.out.mono ?_; rintro e w5 ⟨rfl, hE⟩; have HE5 := Lib.hid (HE1.out.trans hE); clear hE HMD)
            | (go_at_call 11; refine (awake_any _ (HL.out.ext HE5.out)).mono ?_; rintro e w6 ⟨rfl, hE⟩; have HE6 := Lib.hid (HE5.out.trans hE); clear hE))
          all_goals first
            | (exfalso; omega)
            | (go_ret; exact ⟨rfl, HE6.out⟩)
        · have b1 : decide ((N : Int) + 1 ≤ 20000) = false := decide_eq_false c1
          have b2 : decide ((k : Int) * 10 + (P : Int) ≤ 200000) = false := decide_eq_false c2
          have HMD := HMC _ _ b1 b2
          clear HMC
          go_wp2_with (first
            | (go_at_call 17; refine HMD.out.mono ?_; rintro e w5 ⟨rfl, hE⟩; have HE5 := Lib.hid (HE1.out.trans hE); clear hE HMD)
            | (go_at_call 11; refine (awake_any _ (HL.out.ext HE5.out)).mono ?_; rintro e w6 ⟨rfl, hE⟩; have HE6 := Lib.hid (HE5.out.trans hE); clear hE))
          all_goals first
            | (exfalso; omega)
            | (go_ret; exact ⟨rfl, HE6.out⟩)
end Go.Proofs.YtlompphnngnaiaaGreatDoor
