/- Rows of the call's own, by their blocks; copies of lists; lists that are written over. The zero of the array [65537]bool: all its cells are false. Walk of skolemref01.Vars (an array of 65,537 marks). The walk of the law LitsMany. -/
import Derived.Test.YtlompphnngnaiaaGreatDoorLc
import Derived.Test.YtlompphnngnaiaaGreatDoorLb
import Derived.OwnWalk
import Derived.Test.YtlompphnngnaiaaGreatDoorLa
import Derived.Test.YtlompphnngnaiaaGreatDoorLeLitsMany
import Derived.Deep.CutRange
import Derived.Test.YtlompphnngnaiaaGreatDoorLd
import Derived.Test.YtlompphnngnaiaaGreatDoorLfLitsMany
namespace Go.Proofs.YtlompphnngnaiaaGreatDoor
open Go.RowKit

/-- The row of a slice of the call's own: its block's cells. -/
theorem own_blk {w : World} {base : Nat} {e : TypeId} {v : Value} {vs : List Value} (h : w.ownsRow base e 1 v vs.length vs) (h0 : 0 < vs.length) :
    ∃ g c cur, v = .slice (some ⟨g, 0, none⟩) vs.length c ∧ base ≤ g ∧ Blk w g e cur ∧ vs.length ≤ c ∧ c ≤ maxLen ∧ cur.length = c ∧ cur.take vs.length = vs := by
  obtain ⟨-, ⟨-, h⟩ | ⟨g, c, cur, h1, h2, h3, h4, h5, h6, h7⟩⟩ := h
  · omega
  · exact ⟨g, c, cur.toList, h1, h2, by unfold Blk; simpa using h3, h4, h5, by simpa using h6, by simpa using h7⟩

theorem blk_own {w : World} {base : Nat} {e : TypeId} {g c : Nat} {vs cur : List Value} (h2 : base ≤ g) (h3 : Blk w g e cur) (h4 : vs.length ≤ c) (h5 : c ≤ maxLen) (h6 : cur.length = c) (h7 : cur.take vs.length = vs) :
    w.ownsRow base e 1 (.slice (some ⟨g, 0, none⟩) vs.length c) vs.length vs :=
  ⟨by simp, .inr ⟨g, c, cur.toArray, rfl, h2, h3, h4, h5, by simpa using h6, by simpa using h7⟩⟩

/-- A row of one-cell elements of the call's own, by its block: an element's cell; an element stored. -/
theorem own_at {α : Type} (enc : α → Value) {w : World} {B : Nat} {e : TypeId} {v : Value} {xs : List α} (h : w.ownsRow B e 1 v xs.length (xs.map enc)) (i : Nat) (hi : i < xs.length) :
    ∃ g c, v = .slice (some ⟨g, 0, none⟩) xs.length c ∧ B ≤ g ∧ w.cell? ⟨g, i, none⟩ = some (enc xs[i]) ∧ w.frozen? ⟨g, i, none⟩ = false ∧
      ∀ x : α, (w.setCell ⟨g, i, none⟩ (enc x)).ownsRow B e 1 v xs.length ((xs.set i x).map enc) := by
  have hl : (xs.map enc).length = xs.length := List.length_map ..
  rw [← hl] at h
  obtain ⟨g, c, cur, rfl, hb, hblk, h1, h2, h3, h4⟩ := own_blk h (by omega)
  rw [hl] at h1 h4
  refine ⟨g, c, by rw [hl], hb, ?_, hblk.free i, fun x => ?_⟩
  · rw [hblk.cell]
    have := congrArg (fun l => l[i]?) h4
    simp only [List.getElem?_take, if_pos hi, List.getElem?_map, List.getElem?_eq_getElem hi] at this
    exact this
  · have := blk_own (vs := (xs.set i x).map enc) hb (hblk.set i (enc x)) (by simpa using h1) h2 (by simpa using h3) (by
      simp only [List.length_map, List.length_set]
      rw [List.take_set, h4, List.map_set])
    simpa using this

/-- Own rows of integers, whatever is in them. -/
theorem own_set_any {w : World} {B g k : Nat} {v : Value} {xs : List Int} (x : Int) (h : OwnI w B v xs) : ∃ ys, OwnI (w.setCell ⟨g, k, none⟩ (.int .i64 x)) B v ys ∧ ys.length = xs.length := by
  unfold OwnI at *
  by_cases hg : v.ownBlock = some g
  · refine ⟨xs.set k x, ?_, by simp⟩
    rcases Nat.eq_zero_or_pos xs.length with h0 | h0
    · have : xs = [] := List.length_eq_zero_iff.1 h0
      subst this
      obtain ⟨h1, ⟨rfl, -⟩ | ⟨g', c, cur, rfl, h3, h4, h5, h6, h7, h8⟩⟩ := h
      · simp [Value.ownBlock] at hg
      · have hgg : g' = g := by simpa [Value.ownBlock] using hg
        subst hgg
        have hb : Blk w g' 3 cur.toList := by unfold Blk; simpa using h4
        have := blk_own (vs := []) h3 (hb.set k (.int .i64 x)) (by simp) h6 (by simpa using h7) (by simp)
        simpa using this
    · have h' : w.ownsRow B 3 1 v (xs.map (Value.int .i64)).length (xs.map (Value.int .i64)) := by rw [List.length_map]; exact h
      obtain ⟨g', c, cur, rfl, h3, h4, h5, h6, h7, h8⟩ := own_blk h' (by simpa using h0)
      have hgg : g' = g := by simpa [Value.ownBlock] using hg
      subst hgg
      have := blk_own (vs := (xs.set k x).map (Value.int .i64)) h3 (h4.set k (.int .i64 x)) (by simpa using h5) h6 (by simpa using h7) (by
        simp only [List.length_map, List.length_set]
        rw [List.length_map] at h8
        rw [List.take_set, h8, List.map_set])
      simpa using this
  · exact ⟨xs, (Chg.set w g k _).own h (fun i hi e => hg (e ▸ hi)), rfl⟩

/-- The copies that are made: the first k are there. -/
def MadeLL (w0 w : World) (v : Value) (n : Nat) (f : List (List Int)) (k : Nat) : Prop :=
  ∃ vs, w.ownsRow w0.heap.size 22 1 v n vs ∧ vs.length = n ∧ ∀ j (h : j < vs.length) (h' : j < f.length), j < k → OwnI w w0.heap.size vs[j] f[j]

theorem MadeLL.set {w0 w w1 : World} {v cl : Value} {n k : Nat} {f : List (List Int)} (h : MadeLL w0 w v n f k) (hn : n = f.length) (hk : k < f.length) (hE : Ext w w1) (hc : OwnI w1 w.heap.size cl f[k]) (h0 : w0.heap.size ≤ w.heap.size) :
    ∃ g c, v = .slice (some ⟨g, 0, none⟩) n c ∧ (∃ u, w1.cell? ⟨g, k, none⟩ = some u) ∧ w1.frozen? ⟨g, k, none⟩ = false ∧ w0.heap.size ≤ g ∧ MadeLL w0 (w1.setCell ⟨g, k, none⟩ cl) v n f (k + 1) := by
  subst hn
  obtain ⟨vs, ho, hl, he⟩ := h
  have ho1 := own_ext ho hE
  rw [← hl] at ho1
  obtain ⟨g, c, cur, rfl, h3, h4, h5, h6, h7, h8⟩ := own_blk ho1 (by omega)
  have hch := Chg.set w1 g k cl
  have hne : ∀ {B : Nat} {v' : Value} {xs : List Int}, OwnI w1 B v' xs → OwnI (w1.setCell ⟨g, k, none⟩ cl) B v' xs := fun {B v' xs} hx => hch.own hx (fun i hi e => by
    subst e
    obtain ⟨-, -, cur2, hq⟩ := own_typed hx hi
    unfold Blk at h4
    rw [h4] at hq
    injection hq with hq
    injection hq with _ hq
    exact absurd hq (by decide))
  refine ⟨g, c, by rw [hl], ⟨cur[k]'(by omega), by rw [h4.cell, List.getElem?_eq_getElem]⟩, h4.free k, h3, vs.set k cl, ?_, by simp [hl], fun j hj hj' hjk => ?_⟩
  · have := blk_own (vs := vs.set k cl) h3 (h4.set k cl) (by simpa using h5) h6 (by simpa using h7) (by rw [List.length_set, List.take_set, h8])
    simp only [List.length_set] at this
    rw [hl] at this ⊢
    exact this
  · rw [List.length_set] at hj
    by_cases e : k = j
    · subst e
      simp only [List.getElem_set_self]
      exact hne (own_lower hc h0)
    · rw [List.getElem_set_ne e]
      exact hne (own_ext (he j hj hj' (by omega)) hE)

theorem MadeLL.done {w0 w : World} {v : Value} {n : Nat} {f : List (List Int)} (h : MadeLL w0 w v n f f.length) (hn : n = f.length) : OwnLL w w0.heap.size v f := by
  subst hn
  obtain ⟨vs, ho, hl, he⟩ := h
  exact ⟨vs, by rw [hl]; exact ho, hl, fun j hj hj' => he j hj hj' hj'⟩

/-- The lists that are written over. -/
def Wiped (w1 w : World) (v : Value) (vs : List Value) (r : List (List Int)) : Prop :=
  w.ownsRow w1.heap.size 22 1 v vs.length vs ∧ (∀ j (h : j < vs.length) (h' : j < r.length), ∃ ys, OwnI w w1.heap.size vs[j] ys ∧ ys.length = r[j].length) ∧ Ext w1 w

theorem Wiped.set {w1 w : World} {v : Value} {vs : List Value} {r : List (List Int)} (h : Wiped w1 w v vs r) {j : Nat} (hj : j < vs.length) (hj' : j < r.length) {k : Nat} (hk : k < r[j].length) :
    ∃ g c u, vs[j] = .slice (some ⟨g, 0, none⟩) r[j].length c ∧ w.cell? ⟨g, k, none⟩ = some u ∧ w.frozen? ⟨g, k, none⟩ = false ∧ Wiped w1 (w.setCell ⟨g, k, none⟩ (.int .i64 0)) v vs r := by
  obtain ⟨h1, h2, h3⟩ := h
  obtain ⟨ys, hy, hyl⟩ := h2 j hj hj'
  obtain ⟨g, c, hv, hB, hcell, hfree, -⟩ := own_at (Value.int .i64) hy k (by omega)
  refine ⟨g, c, _, by rw [hv, hyl], hcell, hfree, ?_, fun i hi hi' => ?_, (Chg.set w g k _).toExt h3 (fun i hi => hi ▸ hB)⟩
  · refine (Chg.set w g k _).own h1 (fun i hi e => ?_)
    subst e
    obtain ⟨-, -, cur, hq⟩ := own_typed h1 hi
    obtain ⟨-, -, cur2, hq2⟩ := own_typed hy (show vs[j].ownBlock = some i by rw [hv]; rfl)
    rw [hq] at hq2
    injection hq2 with hq2
    injection hq2 with _ hq2
    exact absurd hq2 (by decide)
  · obtain ⟨zs, hz, hzl⟩ := h2 i hi hi'
    obtain ⟨ys', hy', hyl'⟩ := own_set_any (g := g) (k := k) 0 hz
    exact ⟨ys', hy', by omega⟩

theorem SameAll_same (r : List (List Int)) (v u : Value) (w : World) (hr : RLL w v r) (kr : RLL w u r) : Calls Tryz.prog 48 #[v, u] w fun e w' => e = .returned (.bool true) ∧ Ext w w' := by
  have := SameAll_any r r v u w hr kr
  rw [decide_eq_true rfl] at this
  exact this

theorem Wiped.start {w1 w : World} {v : Value} {r : List (List Int)} (h : OwnLL w w1.heap.size v r) (hE : Ext w1 w) : ∃ A c vs, v = .slice A vs.length c ∧ vs.length = r.length ∧ Wiped w1 w v vs r := by
  obtain ⟨vs, h1, h2, h3⟩ := h
  obtain ⟨A, c, h4, -⟩ := own_row h1
  exact ⟨A, c, vs, h4, h2, h1, fun j hj hj' => ⟨_, h3 j hj hj', rfl⟩, hE⟩
theorem Wiped.ext {w1 w w' : World} {v : Value} {vs : List Value} {r : List (List Int)} (h : Wiped w1 w v vs r) (k : Ext w w') : Wiped w1 w' v vs r :=
  ⟨own_ext h.1 k, fun j hj hj' => by obtain ⟨ys, h1, h2⟩ := h.2.1 j hj hj'; exact ⟨ys, own_ext h1 k, h2⟩, h.2.2.trans k⟩
theorem Wiped.row {w1 w : World} {A : Option Addr} {c : Nat} {vs : List Value} {r : List (List Int)} (h : Wiped w1 w (.slice A vs.length c) vs r) (hl : vs.length = r.length) (k : Nat) (hk : k < vs.length) :
    ∃ ad EA ec, A = some ad ∧ vs[k] = .slice EA (r[k]'(by omega)).length ec ∧ w.cell? (ad.add k) = some (.slice EA (r[k]'(by omega)).length ec) ∧ (r[k]'(by omega)).length ≤ 9223372036854775807 := by
  obtain ⟨A', c', he, -, -, hrow⟩ := own_row h.1
  injection he with e1 _ _
  subst e1
  obtain ⟨ad, hA, hc⟩ := hrow k hk
  obtain ⟨ys, hy, hyl⟩ := h.2.1 k hk (by omega)
  obtain ⟨EA, ec, hv, -, hm, -⟩ := hy.reads
  rw [hyl] at hv hm
  exact ⟨ad, EA, ec, hA, hv, by rw [hc, hv], hm⟩

end Go.Proofs.YtlompphnngnaiaaGreatDoor
namespace Go.Proofs.YtlompphnngnaiaaGreatDoor
open Go.RowKit

def isF : Value → Bool
  | .bool false => true
  | _ => false
theorem isF_eq {v : Value} (h : isF v = true) : v = .bool false := by
  unfold isF at h
  split at h
  · rfl
  · cases h
/-- The first 2^k elements are false: what is behind them. -/
def chkF : Nat → List Value → Option (List Value)
  | 0, [] => none
  | 0, x :: xs => if isF x = true then some xs else none
  | k + 1, l => (chkF k l).bind (chkF k)
theorem chkF_spec : ∀ k l r, chkF k l = some r → l = List.replicate (2 ^ k) (.bool false) ++ r
  | 0, [], r, h => by simp [chkF] at h
  | 0, x :: xs, r, h => by
    unfold chkF at h
    split at h
    · rename_i hx
      cases h
      rw [isF_eq hx]; simp
    · cases h
  | k + 1, l, r, h => by
    rw [chkF] at h
    obtain ⟨m, h1, h2⟩ := Option.bind_eq_some_iff.1 h
    rw [chkF_spec k l m h1, chkF_spec k m r h2, ← List.append_assoc, List.replicate_append_replicate]
    congr 2
    omega

theorem zarr_chk : ((chkF 16 Tryz.zeroCells76.toList).bind (chkF 0)) = some [] := by kernel_rfl
theorem zarr_eq : Tryz.zeroCells76 = (List.replicate 65537 (.bool false)).toArray := by
  obtain ⟨m, h1, h2⟩ := Option.bind_eq_some_iff.1 zarr_chk
  have : Tryz.zeroCells76.toList = List.replicate 65537 (.bool false) := by
    rw [chkF_spec 16 _ m h1, chkF_spec 0 m [] h2, List.append_nil, List.replicate_append_replicate]
  rw [← this]
end Go.Proofs.YtlompphnngnaiaaGreatDoor
namespace Go.Proofs.YtlompphnngnaiaaGreatDoor
open Go.RowKit

def markP (f : List (List Int)) (i j v : Nat) : Bool := markB (f.take i) v || ((f.getD i []).take j).any (fun x => varOf x == (v : Int))
theorem markP_zero (f : List (List Int)) (v : Nat) : markP f 0 0 v = false := by simp [markP, markB]
theorem markP_step (f : List (List Int)) (i j v : Nat) (hi : i < f.length) (hj : j < f[i].length) : markP f i (j + 1) v = (markP f i j v || (varOf f[i][j] == (v : Int))) := by
  unfold markP
  rw [getD_of f i hi, List.take_succ_eq_append_getElem hj, List.any_append, Bool.or_assoc]
  simp
theorem markP_next (f : List (List Int)) (i v : Nat) (hi : i < f.length) : markP f i f[i].length v = markP f (i + 1) 0 v := by
  unfold markP markB
  rw [getD_of f i hi, List.take_length, List.take_succ_eq_append_getElem hi, List.any_append]
  simp
theorem markP_end (f : List (List Int)) (v : Nat) : markP f f.length 0 v = markB f v := by
  unfold markP
  rw [List.take_length]; simp

/-- The marks after i lists and j elements. -/
def VS (w wr : World) (f : List (List Int)) (i j : Nat) : Prop :=
  ∃ marks : List Bool, marks.length = 65537 ∧ Blk wr w.heap.size 76 (marks.map Value.bool) ∧ Ext w wr ∧ ∀ v, v < 65537 → marks[v]? = some (markP f i j v)

section
variable {w wr wr' : World} {f : List (List Int)} {i j v : Nat}
theorem VS.cell (h : VS w wr f i j) (hv : v < 65537) : wr.cell? ⟨w.heap.size, v, none⟩ = some (.bool (markP f i j v)) ∧ wr.frozen? ⟨w.heap.size, v, none⟩ = false := by
  obtain ⟨marks, h1, h2, h3, h4⟩ := h
  refine ⟨?_, h2.free v⟩
  rw [h2.cell, List.getElem?_map, h4 v hv]; rfl
theorem VS.ext (h : VS w wr f i j) : Ext w wr := h.choose_spec.2.2.1
theorem VS.step (h : VS w wr f i j) (hi : i < f.length) (hj : j < f[i].length) (hv : varOf f[i][j] = (v : Int)) : VS w (wr.setCell ⟨w.heap.size, v, none⟩ (.bool true)) f i (j + 1) := by
  obtain ⟨marks, h1, h2, h3, h4⟩ := h
  refine ⟨marks.set v true, by simp [h1], ?_, (Chg.set wr w.heap.size v _).toExt h3 (fun k hk => by omega), fun u hu => ?_⟩
  · rw [List.map_set]; exact h2.set v _
  · rw [markP_step f i j u hi hj, hv]
    by_cases e : v = u
    · subst e
      rw [List.getElem?_set_self (by omega)]; simp
    · rw [List.getElem?_set_ne e, h4 u hu]
      congr 1
      rw [show ((v : Int) == (u : Int)) = false by simp; omega, Bool.or_false]
theorem VS.next (hi : i < f.length) (h : VS w wr f i f[i].length) : VS w wr f (i + 1) 0 := by
  obtain ⟨marks, h1, h2, h3, h4⟩ := h
  exact ⟨marks, h1, h2, h3, fun u hu => by rw [h4 u hu, markP_next f i u hi]⟩
theorem VS.start (w : World) (f : List (List Int)) : VS w (w.alloc (.cells Tryz.zeroCells76 76)) f 0 0 := by
  refine ⟨List.replicate 65537 false, by rw [List.length_replicate], ?_, Ext.alloc w _, fun u hu => ?_⟩
  · rw [List.map_replicate, zarr_eq]; exact Blk.new w _ _
  · rw [List.getElem?_replicate, if_pos hu, markP_zero]
theorem VS.keep (h : VS w wr f i j) {S : Nat → Prop} (hc : Chg S wr wr') (hS : ∀ k, S k → w.heap.size < k) : VS w wr' f i j := by
  obtain ⟨marks, h1, h2, h3, h4⟩ := h
  exact ⟨marks, h1, hc.blk h2 (fun hs => by have := hS _ hs; omega), hc.toExt h3 (fun k hk => by have := hS k hk; omega), h4⟩
theorem VS.lt (h : VS w wr f i j) : w.heap.size + 1 ≤ wr.heap.size := by
  obtain ⟨marks, h1, h2, h3, h4⟩ := h
  exact h2.lt
end

theorem refVar_nat (x : Int) (hx : I64 x) (q : Nat) (hq : varOf x = (q : Int)) (w : World) : Calls Tryz.prog 34 #[.int .i64 x] w fun e w' => e = .returned (.int .i64 (q : Int)) ∧ ∃ n, w' = w.drewN n := by
  have := PLitsMany.skolemref01_Var.calls x (varOf x) w (PLitsMany.Var_f x hx)
  rw [hq] at this
  refine this.mono ?_
  rintro e w' ⟨rfl, ⟨⟨n, rfl⟩⟩⟩
  exact ⟨rfl, n, rfl⟩

def PostVars (w : World) (r : List Int) (e : Ending) (w' : World) : Prop := ∃ v', e = .returned v' ∧ OwnI w' w.heap.size v' r ∧ Ext w w'

set_option maxRecDepth 100000 in
set_option maxHeartbeats 4000000 in
theorem refVars_any (f : List (List Int)) (u : Value) (w : World) (h64 : All64L f) (kr : RLL w u f) : Calls Tryz.prog 46 #[u] w (PostVars w (VarsV f)) := by
  have hmx := kr.max
  obtain ⟨A, c, vs, rfl, h1, h2, h3, h4, h5⟩ := kr
  have H4 := Lib.hid h4
  have H5 := Lib.hid h5
  have H3 := Lib.hid h3
  have HMX := Lib.hid hmx
  clear h4 h5 h3 hmx
  have HV0 := Lib.hid (VS.start w f)
  go_enter Tryz.func46, Tryz.ntmps46
  go_wp2_with fail
  go_loopg [4] vs.length (fun gn i wr => ∃ k : Nat, k ≤ vs.length ∧ gn + k = vs.length ∧ i = .int .i64 k ∧ Hid (VS w wr f k 0))
  case atStart => exact ⟨0, Nat.zero_le _, by omega, rfl, HV0⟩
  case round =>
    obtain ⟨k, hk, hgk, rfl, HS⟩ := hrel
    by_cases hlt : k < vs.length
    · have hkf : k < f.length := by rw [← H4.out]; exact hlt
      obtain ⟨w1, rfl⟩ : ∃ w1 : World, w1 = wr := ⟨_, rfl⟩
      have HRK := Lib.hid (H5.out k hlt hkf)
      obtain ⟨E, ce, he, he1, he2, he3⟩ := H5.out k hlt hkf
      obtain ⟨L, hL⟩ : ∃ L, L = f[k].length := ⟨_, rfl⟩
      rw [← hL] at he he1 he2
      have HE3 := Lib.hid he3
      have HE := Lib.hid he
      have HL := Lib.hid hL
      have hk64 := h64 _ (List.getElem_mem hkf)
      have HROW := Lib.hid (fun (w' : World) (x : Ext w w') => (H3.out.ext x) k hlt)
      clear he3 he hL HV0
      go_wp2_with fail
      go_loopg [5] L (fun gn j wr => ∃ m : Nat, m ≤ L ∧ gn + m = L ∧ j = .int .i64 m ∧ Hid (VS w wr f k m))
      case atStart => exact ⟨0, Nat.zero_le _, by omega, rfl, HS⟩
      case round =>
        obtain ⟨m, hm, hgm, rfl, HS2⟩ := hrel
        obtain ⟨w2, rfl⟩ : ∃ w2 : World, w2 = wr := ⟨_, rfl⟩
        obtain ⟨ad, rfl, hrow⟩ := HROW.out _ HS2.out.ext
        rw [HE.out] at hrow
        by_cases hml : m < L
        · have hmf : m < f[k].length := by rw [← HL.out]; exact hml
          obtain ⟨bd, rfl, hy⟩ := (HE3.out.ext HS2.out.ext).int m hmf
          have hx := hk64 _ (List.getElem_mem hmf)
          have hvr := varOf_range f[k][m]
          obtain ⟨x, hxe⟩ : ∃ x, x = f[k][m] := ⟨_, rfl⟩
          rw [← hxe] at hy hx hvr
          obtain ⟨q, hq⟩ : ∃ q : Nat, varOf x = (q : Int) := ⟨(varOf x).toNat, by omega⟩
          have hq1 : q < 65537 := by omega
          obtain ⟨hcell, hfree⟩ := HS2.out.cell hq1
          have hst := fun n : Nat => (HS2.out.keep (S := fun _ => False) ((Ext.drewN w2 n).chg _) (fun _ h => h.elim)).step hkf hmf (v := q) (by rw [← hxe]; exact hq)
          have HST := Lib.hid hst
          have HVR := Lib.hid (refVar_nat x hx q hq)
          clear hst hxe hq hvr
          go_wp2_with (go_at_call 34; refine (HVR.out _).mono ?_; rintro e w3 ⟨rfl, nd, rfl⟩)
          go_roundg (L - (m + 1))
          case measure => omega
          case rel => exact ⟨m + 1, by omega, by omega, by go_num, HST.out nd⟩
        · obtain rfl : m = L := by omega
          have hnx := VS.next hkf (HL.out ▸ HS2.out)
          have HNX := Lib.hid hnx
          clear hnx
          go_wp2
          go_roundg (vs.length - (k + 1))
          case measure => omega
          case rel => exact ⟨k + 1, by omega, by omega, by go_num, HNX⟩
    · obtain rfl : k = vs.length := by omega
      have hsv : VS w wr f f.length 0 := H4.out ▸ HS.out
      obtain ⟨w1, rfl⟩ : ∃ w1 : World, w1 = wr := ⟨_, rfl⟩
      have HSV := Lib.hid hsv
      clear hsv HS hgk hk HV0
      go_wp2_with fail
      obtain ⟨M, hM⟩ : ∃ M : Nat, M = 65536 := ⟨_, rfl⟩
      have HM1 : Hid (M = 65536) := Lib.hid hM
      clear hM
      go_loopg [6, 7] M (fun gn o i wr => ∃ k : Nat, k ≤ M ∧ gn + k = M ∧ i = .int .i64 ((k : Int) + 1) ∧ Hid (VS w wr f f.length 0 ∧ OwnI wr (w.heap.size + 1) o (varsTo f (k + 1))))
      case atStart => exact ⟨0, by omega, by omega, rfl, HSV.out, by rw [varsTo_one]; exact OwnI.nil _ _⟩
      case round =>
        obtain ⟨k, hk, hgk, rfl, HS⟩ := hrel
        have hM1 := HM1.out
        by_cases hlt : k < M
        · obtain ⟨hcell, hfree⟩ := HS.out.1.cell (v := k + 1) (by omega)
          have hle : (k : Int) + 1 ≤ 65536 := by omega
          rw [markP_end] at hcell
          have hvl := varsTo_len f (k + 1)
          have hvs := varsTo_succ f (k + 1) (by omega)
          cases hmk : markB f (k + 1)
          · rw [hmk] at hcell
            rw [hmk, if_neg (by decide), List.append_nil] at hvs
            have HVS := Lib.hid hvs
            clear hvs hmk hvl hM1
            go_wp2_with fail
            go_roundg (M - (k + 1))
            case measure => omega
            case rel => exact ⟨k + 1, by omega, by omega, by go_num, HS.out.1, by rw [HVS.out]; exact HS.out.2⟩
          · rw [hmk] at hcell
            rw [hmk, if_pos rfl] at hvs
            have hvb : (varsTo f (k + 1)).length ≤ 10000000 := by omega
            have HVS := Lib.hid hvs
            clear hvs hmk hvl hM1
            obtain ⟨w2, rfl⟩ : ∃ w2 : World, w2 = wr := ⟨_, rfl⟩
            go_wp2_with (at_builtin
                         refine app_1 rfl (.tmp 39) (.tmp 41) rfl (base := w.heap.size + 1) (xs := varsTo f (k + 1)) (y := (k : Int) + 1) rfl rfl HS.out.2 hvb HS.out.1.lt ?_
                         intro v' w3 hown hg
                         have HOW := Lib.hid hown
                         have HSV2 := Lib.hid (HS.out.1.keep hg (fun i hi => (own_typed HS.out.2 hi.symm).1))
                         clear hown hg)
            go_roundg (M - (k + 1))
            case measure => omega
            case rel => exact ⟨k + 1, by omega, by omega, by go_num, HSV2.out, by rw [HVS.out]; exact HOW.out⟩
        · have hle : ¬ (k : Int) + 1 ≤ 65536 := by omega
          have hke : k + 1 = 65537 := by omega
          have HKE := Lib.hid hke
          clear hke hM1
          go_wp2
          go_ret
          have := HS.out.2
          rw [HKE.out] at this
          exact ⟨_, rfl, own_lower this (by omega), HS.out.1.ext⟩
end Go.Proofs.YtlompphnngnaiaaGreatDoor
namespace Go.Proofs.YtlompphnngnaiaaGreatDoor
open Go.RowKit

theorem fv_MayCnf : Fv Tryz.prog 17 := ⟨_, Tryz.func17, by kernel_rfl, by kernel_rfl⟩
theorem fv_refMayCnf : Fv Tryz.prog 44 := ⟨_, Tryz.func44, by kernel_rfl, by kernel_rfl⟩
theorem fv_refVars : Fv Tryz.prog 46 := ⟨_, Tryz.func46, by kernel_rfl, by kernel_rfl⟩
theorem wrap64_add (a b : Int) : wrap64 (wrap64 a + b) = wrap64 (a + b) := by unfold wrap64; omega
theorem wrap64_rng (a : Int) : -9223372036854775808 ≤ wrap64 a ∧ wrap64 a ≤ 9223372036854775807 := by unfold wrap64; omega

set_option maxRecDepth 100000 in
set_option maxHeartbeats 20000000 in
theorem many_law (f : List (List Int)) (u : Value) (w : World) (k64 : All64L f) (kr : RLL w u f) (hfl : f.length ≤ 5864062014634) (hfe : ∀ c ∈ f, c.length ≤ 17592186043904) (hL : LW w) :
    Calls Tryz.prog 9 #[u] w fun e w' => e = .returned (.bool true) ∧ Ext w w' := by
  have KR := Lib.hid kr
  have HL := Lib.hid hL
  obtain ⟨A, c, us, rfl, k1, k2, k3, k4, k5⟩ := kr
  have K3 := Lib.hid k3
  have K4 := Lib.hid k4
  have K5 := Lib.hid k5
  have HFE := Lib.hid hfe
  have hul : us.length ≤ 5864062014634 := by omega
  clear k3 k4 k5 hL hfe hfl
  go_enter Tryz.func9, Tryz.ntmps9
  go_wp2_with fail
  go_loopg [3, 17] us.length (fun gn s i wr => ∃ k : Nat, k ≤ us.length ∧ gn + k = us.length ∧ i = .int .i64 k ∧ s = .int .i64 (wrap64 (lens f k)) ∧ w = wr)
  case atStart => exact ⟨0, Nat.zero_le _, by omega, rfl, by rw [show wrap64 ((lens f 0 : Nat) : Int) = 0 from by rw [show lens f 0 = 0 from rfl]; unfold wrap64; omega], rfl⟩
  case round =>
    obtain ⟨k, hk, hgk, rfl, rfl, rfl⟩ := hrel
    by_cases hlt : k < us.length
    · have hkf : k < f.length := by have := K4.out; omega
      obtain ⟨ad, rfl, hck⟩ := K3.out k hlt
      obtain ⟨EA, ec, hee, e1, e2, -⟩ := K5.out k hlt hkf
      rw [hee] at hck
      have hls := lens_succ f k hkf
      obtain ⟨L, hLe⟩ : ∃ L, L = f[k].length := ⟨_, rfl⟩
      rw [← hLe] at hck e1 e2 hls
      obtain ⟨q, hq⟩ : ∃ q, q = wrap64 (lens f k) := ⟨_, rfl⟩
      have hqr := wrap64_rng (lens f k)
      rw [← hq] at hqr
      have hqw : wrap64 (q + (L : Int)) = wrap64 (lens f (k + 1)) := by rw [hq, wrap64_add, hls]; rfl
      rw [← hq]
      have HQW := Lib.hid hqw
      clear hee hls hLe hq hqw
      go_wp2
      go_roundg (us.length - (k + 1))
      case measure => omega
      case rel => exact ⟨k + 1, by omega, by omega, by go_num, by rw [HQW.out], rfl⟩
    · obtain rfl : k = us.length := by omega
      clear hgk hk hlt
      by_cases hbig : us.length > 300
      · have hbi : (300 : Int) < (us.length : Int) := by omega
        have hbd : decide ((300 : Int) < (us.length : Int)) = true := decide_eq_true hbi
        clear hbig
        go_wp2_with (go_at_call 11; refine (awake_any _ HL.out).mono ?_; rintro e w1 ⟨rfl, hE⟩)
        go_ret
        exact ⟨rfl, hE⟩
      · have hbi : ¬ (300 : Int) < (us.length : Int) := by omega
        have hbd : decide ((300 : Int) < (us.length : Int)) = false := decide_eq_false hbi
        have hlb : ∀ k, k ≤ f.length → lens f k ≤ k * 17592186043904 := by
          intro k
          induction k with
          | zero => intro _; simp [lens]
          | succ k ih =>
            intro hk
            have h1 := ih (by omega)
            have h2 := HFE.out _ (List.getElem_mem (show k < f.length by omega))
            rw [lens_succ f k (by omega)]
            omega
        have hlf := hlb f.length (Nat.le_refl _)
        have hq : wrap64 ((lens f us.length : Nat) : Int) = (total f : Int) := by
          have e : lens f us.length = total f := by unfold total; rw [K4.out]
          have h1 : total f = lens f f.length := rfl
          have h2 := K4.out
          rw [e]
          unfold wrap64
          omega
        rw [hq]
        clear hlb hlf hq hbig
        by_cases htot : total f > 3000
        · have hti : (3000 : Int) < (total f : Int) := by omega
          have htd : decide ((3000 : Int) < (total f : Int)) = true := decide_eq_true hti
          clear htot
          go_wp2_with (go_at_call 11; refine (awake_any _ HL.out).mono ?_; rintro e w1 ⟨rfl, hE⟩)
          go_ret
          exact ⟨rfl, hE⟩
        · have hti : ¬ (3000 : Int) < (total f : Int) := by omega
          have htd : decide ((3000 : Int) < (total f : Int)) = false := decide_eq_false hti
          have htf : total f ≤ 3000 := by omega
          have HTF := Lib.hid htf
          have HFL : Hid (∀ j (hj : j < f.length), f[j].length ≤ 3000) := Lib.hid (fun j hj => by
            have h1 := lens_succ f j hj
            have h2 := lens_le f (j + 1)
            have := HTF.out
            omega)
          obtain ⟨i0, hi, hz0, hz1, hz2⟩ := info_parts info_ints
          have HI := Lib.hid hi
          have HZ := Lib.hid hz0
          have HZ1 := Lib.hid hz1
          have HZ2 := Lib.hid hz2
          clear hi hz0 hz1 hz2 htf htot
          go_upto_region 10 with ((with_reducible refine at_dst 36 rfl ?_)
                                  refine wpList_make_full _ rfl (.tmp 35) (.tmp 35) 33 rfl w.heap.size 22 i0 (.slice none 0 0) 1 Tryz.underlying33 HI.out HZ.out HZ1.out .i64 .i64 _ _ us.length rfl rfl rfl rfl (by rw [HZ2.out]; omega) (by unfold maxLen; omega) (Nat.le_refl _) ?_
                                  intro w2 hown hg
                                  have HE2 : Hid (Ext w w2) := Lib.hid ((Ext.refl w).grown hg (fun k hk => by cases hk))
                                  have HMD : Hid (MadeLL w w2 (.slice (some ⟨w.heap.size, 0, none⟩) us.length us.length) us.length f 0) := Lib.hid ⟨_, hown, by simp [madeCells], fun j _ _ h => absurd h (Nat.not_lt_zero j)⟩
                                  clear hown hg)
          clear hti htd hbi hbd
          generalize hgb : w.heap.size = gb at HMD ⊢
          have HGB := Lib.hid hgb
          clear hgb
          go_wp2_with fail
          go_loopg [39] us.length (fun gn i wr => ∃ k : Nat, k ≤ us.length ∧ gn + k = us.length ∧ i = .int .i64 k ∧ Hid (Ext w wr ∧ MadeLL w wr (.slice (some ⟨gb, 0, none⟩) us.length us.length) us.length f k))
          case atStart => exact ⟨0, Nat.zero_le _, by omega, rfl, HE2.out, HMD.out⟩
          case round =>
            obtain ⟨k, hk, hgk, rfl, HS⟩ := hrel
            by_cases hlt : k < us.length
            · have hkf : k < f.length := by have := K4.out; omega
              obtain ⟨ad, rfl, hvk⟩ := (K3.out.ext HS.out.1) k hlt
              have HCL := Lib.hid (cloneI_any us[k] f[k] wr ((K5.out k hlt hkf).ext HS.out.1) (by have := HFL.out k hkf; omega))
              go_wp2_with (go_at_call 43
                           refine HCL.out.mono ?_
                           rintro e w3 ⟨cl, rfl, hcl, hE⟩
                           obtain ⟨g, c', hv, ⟨u0, hcell⟩, hfree, hB, hmd⟩ := HS.out.2.set K4.out hkf hE hcl HS.out.1.size
                           injection hv with e1 e2 e3
                           injection e1 with e1
                           injection e1 with e1
                           subst e1 e3
                           obtain ⟨CA, cc, hce, -⟩ := hcl.reads
                           rw [hce] at hmd ⊢
                           have HMD2 := Lib.hid hmd
                           have HE3 : Hid (Ext w (w3.setCell ⟨gb, k, none⟩ (.slice CA f[k].length cc))) := Lib.hid ((Chg.set w3 gb k _).toExt (HS.out.1.trans hE) (fun i hi => hi ▸ hB))
                           clear hcl hE hmd e2 hce hB)
              go_roundg (us.length - (k + 1))
              case measure => omega
              case rel => exact ⟨k + 1, by omega, by omega, by go_num, HE3.out, HMD2.out⟩
            · have hke : k = f.length := by have := K4.out; omega
              obtain ⟨hEr, hmr⟩ := HS.out
              rw [hke] at hmr
              have hown := hmr.done K4.out
              obtain ⟨w3, rfl⟩ : ∃ w3 : World, w3 = wr := ⟨_, rfl⟩
              have HE3 := Lib.hid hEr
              have HOL := Lib.hid hown
              have HO6 := Lib.hid hown.reads
              have HF3 := Lib.hid (KR.out.ext' hEr)
              clear hke hmr hEr hown HS HMD hgk hk
              obtain ⟨M, hM⟩ : ∃ M, M = mayCnfB f := ⟨_, rfl⟩
              have HMC := Lib.hid (fun (w' : World) (u : Value) (h : RLL w' u f) => mayCnf_any u f w' h k64 (fun _ => by have := HTF.out; omega))
              have HRM := Lib.hid (fun (w' : World) (u : Value) (h : RLL w' u f) => refMayCnf_any f u w' k64 h (by have := HTF.out; omega))
              have HVA := Lib.hid (fun (w' : World) (u : Value) (h : RLL w' u f) => Vars_any f u w' k64 h (by have := HTF.out; omega))
              have HRV := Lib.hid (fun (w' : World) (u : Value) (h : RLL w' u f) => refVars_any f u w' k64 h)
              rw [← hM] at HMC HRM
              clear hM
              have cg : w3.cell? ⟨0, 0, Option.none⟩ = some (.func (.func 86) #[] #[]) := HL.out.same.ext HE3.out
              go_upto_region 15 with fail
              go_cut [9] from 50 to 62 (fun s wy => s = .bool true ∧ Hid (Ext w3 wy))
              case first =>
                rename_i J K1 hRJ hMK
                refine wp_region_mono (W := w3) rfl (Kd.at [.rows f, .val (.bool M), .rows f, .val (.bool M), .val (.bool true), .val (.bool true), .fv 86, .rows f, .row (VarsV f), .rows f, .row (VarsV f), .val (.bool true), .val (.bool true), .val (.bool true)]) (Kd.at_mono _) 97 rfl (by decide) (by decide) (by decide) ?_ ?_
                · refine ⟨?_, ?_, ?_, ?_, ?_, ?_, ?_, ?_, ?_, ?_, ?_, ?_, ?_, ?_, trivial⟩
                  · intro a' w' hE hK hd
                    have hi6 : a'.tmps[6]? = some (.slice (some ⟨gb, 0, none⟩) us.length us.length) := hK.get 6 (by decide)
                    exact st_move (wanted_none rfl) rfl hi6 (HO6.out.ext' hE)
                  · intro a' w' hE hK hd
                    obtain ⟨u0, h0, p0⟩ := got (hd ⟨0, .data⟩ (by simp) rfl) rfl rfl
                    have r0 : RLL w' u0 f := p0
                    exact st_call _ _ _ rfl (wanted_none rfl) rfl fv_MayCnf _ (by simp only [List.map_toArray, List.map_cons, List.map_nil, eval_of h0]) ((HMC.out _ _ r0).mono fun e w'' ⟨H1, H2⟩ => ⟨_, H1, H2, rfl⟩)
                  · intro a' w' hE hK hd
                    have hi0 : a'.tmps[0]? = some (.slice A us.length c) := hK.get 0 (by decide)
                    exact st_move (wanted_none rfl) rfl hi0 (HF3.out.ext' hE)
                  · intro a' w' hE hK hd
                    obtain ⟨u2, h2, p2⟩ := got (hd ⟨2, .data⟩ (by simp) rfl) rfl rfl
                    have r2 : RLL w' u2 f := p2
                    exact st_call _ _ _ rfl (wanted_none rfl) rfl fv_refMayCnf _ (by simp only [List.map_toArray, List.map_cons, List.map_nil, eval_of h2]) ((HRM.out _ _ r2).mono fun e w'' ⟨H1, H2⟩ => ⟨_, H1, H2, rfl⟩)
                  · intro a' w' hE hK hd
                    obtain ⟨u1, h1, p1⟩ := got (hd ⟨1, .data⟩ (by simp) rfl) rfl rfl
                    obtain rfl : u1 = .bool M := p1
                    obtain ⟨u3, h3, p3⟩ := got (hd ⟨3, .data⟩ (by simp) rfl) rfl rfl
                    obtain rfl : u3 = .bool M := p3
                    exact st_run (wanted_none rfl) (v := .bool true) (by unfold execOp; cases M <;> simp [h1, h3, go_sem] <;> kernel_rfl) rfl
                  · intro a' w' hE hK hd
                    obtain ⟨u4, h4, p4⟩ := got (hd ⟨4, .data⟩ (by simp) rfl) rfl rfl
                    obtain rfl : u4 = .bool true := p4
                    exact st_move (wanted_none rfl) rfl h4 rfl
                  · intro a' w' hE hK hd
                    obtain ⟨ug, hg, pg⟩ := got (hd ⟨5, .guard⟩ (by simp) rfl) rfl rfl
                    obtain rfl : ug = .bool true := pg
                    exact st_run ((wanted_b rfl rfl rfl hg).trans rfl) (v := .func (.func 86) #[] #[]) (by have cg' := hE.cell cg; unfold execOp; simp [go_sem, cg']; done) rfl
                  · intro a' w' hE hK hd
                    obtain ⟨ug, hg, pg⟩ := got (hd ⟨5, .guard⟩ (by simp) rfl) rfl rfl
                    obtain rfl : ug = .bool true := pg
                    have hi6 : a'.tmps[6]? = some (.slice (some ⟨gb, 0, none⟩) us.length us.length) := hK.get 6 (by decide)
                    exact st_move ((wanted_b rfl rfl rfl hg).trans rfl) rfl hi6 (HO6.out.ext' hE)
                  · intro a' w' hE hK hd
                    obtain ⟨ug, hg, pg⟩ := got (hd ⟨5, .guard⟩ (by simp) rfl) rfl rfl
                    obtain rfl : ug = .bool true := pg
                    obtain ⟨u7, h7, p7⟩ := got (hd ⟨7, .data⟩ (by simp) rfl) rfl rfl
                    have r7 : RLL w' u7 f := p7
                    exact st_call _ _ _ rfl ((wanted_b rfl rfl rfl hg).trans rfl) rfl fv_vars _ (by simp only [List.map_toArray, List.map_cons, List.map_nil, eval_of h7]) ((HVA.out _ _ r7).mono fun e w'' ⟨v, H1, H2, H3⟩ => ⟨v, H1, H3, H2.reads⟩)
                  · intro a' w' hE hK hd
                    obtain ⟨ug, hg, pg⟩ := got (hd ⟨5, .guard⟩ (by simp) rfl) rfl rfl
                    obtain rfl : ug = .bool true := pg
                    have hi0 : a'.tmps[0]? = some (.slice A us.length c) := hK.get 0 (by decide)
                    exact st_move ((wanted_b rfl rfl rfl hg).trans rfl) rfl hi0 (HF3.out.ext' hE)
                  · intro a' w' hE hK hd
                    obtain ⟨ug, hg, pg⟩ := got (hd ⟨5, .guard⟩ (by simp) rfl) rfl rfl
                    obtain rfl : ug = .bool true := pg
                    obtain ⟨u9, h9, p9⟩ := got (hd ⟨9, .data⟩ (by simp) rfl) rfl rfl
                    have r9 : RLL w' u9 f := p9
                    exact st_call _ _ _ rfl ((wanted_b rfl rfl rfl hg).trans rfl) rfl fv_refVars _ (by simp only [List.map_toArray, List.map_cons, List.map_nil, eval_of h9]) ((HRV.out _ _ r9).mono fun e w'' ⟨v, H1, H2, H3⟩ => ⟨v, H1, H3, H2.reads⟩)
                  · intro a' w' hE hK hd
                    obtain ⟨ug, hg, pg⟩ := got (hd ⟨5, .guard⟩ (by simp) rfl) rfl rfl
                    obtain rfl : ug = .bool true := pg
                    obtain ⟨u6, h6, p6⟩ := got (hd ⟨6, .data⟩ (by simp) rfl) rfl rfl
                    obtain rfl : u6 = .func (.func 86) #[] #[] := p6
                    obtain ⟨u8, h8, p8⟩ := got (hd ⟨8, .data⟩ (by simp) rfl) rfl rfl
                    have r8 : RI w' u8 (VarsV f) := p8
                    obtain ⟨u10, h10, p10⟩ := got (hd ⟨10, .data⟩ (by simp) rfl) rfl rfl
                    have r10 : RI w' u10 (VarsV f) := p10
                    exact st_call _ _ _ rfl ((wanted_b rfl rfl rfl hg).trans rfl) (eval_of h6) fv_same _ (by simp only [List.map_toArray, List.map_cons, List.map_nil, eval_of h8, eval_of h10]) ((Same_refl (VarsV f) _ _ _ r8 r10).mono fun e w'' ⟨H1, H2⟩ => ⟨_, H1, H2, rfl⟩)
                  · intro a' w' hE hK hd
                    obtain ⟨u5, h5, p5⟩ := got (hd ⟨5, .data⟩ (by simp) rfl) rfl rfl
                    obtain rfl : u5 = .bool true := p5
                    obtain ⟨u11, h11, p11⟩ := got (hd ⟨11, .data⟩ (by simp) rfl) rfl rfl
                    obtain rfl : u11 = .bool true := p11
                    exact st_pickv (wanted_none rfl) rfl h5 (eval_of h11) rfl
                  · intro a' w' hE hK hd
                    obtain ⟨u12, h12, p12⟩ := got (hd ⟨12, .data⟩ (by simp) rfl) rfl rfl
                    obtain rfl : u12 = .bool true := p12
                    exact st_assign (wanted_none rfl) rfl h12 rfl
                · intro a' w' hE hK hG
                  obtain ⟨u, h13, p13⟩ := got (hG 13 (by decide)) rfl rfl
                  obtain rfl : u = .bool true := p13
                  refine hMK a' w' (Met.intro (hRJ a' w' ?_))
                  refine ⟨_, _, _, _, _, _, _, _, _, _, _, _, _, _, ?_, Kep.reP hK rfl (fun i => Nat.beq i 9 || (Nat.ble 50 i && Nat.ble i 62)) (by decide)⟩
                  refine ⟨?_, Lib.hid hE⟩
                  show (a'.tmps[9]?).getD undef = _
                  rw [h13]; rfl
              case rest =>
                obtain ⟨rfl, HCT⟩ := hcut
                obtain ⟨w4, rfl⟩ : ∃ w4 : World, w4 = wc := ⟨_, rfl⟩
                have HE4 := Lib.hid (HE3.out.trans HCT.out)
                have HOL4 := Lib.hid (HOL.out.ext HCT.out)
                have HF4 := Lib.hid (HF3.out.ext' HCT.out)
                have HSO := Lib.hid (Sort_any f _ w4 k64 HOL4.out.reads (fun _ => by have := HTF.out; omega))
                clear HOL HO6 HF3 HMC HRM HVA HRV cg hlt
                go_upto_region 17 with (go_at_call 47
                                        refine HSO.out.mono ?_
                                        rintro e w5 ⟨v8, rfl, hu8, hE⟩
                                        have HU8 := Lib.hid hu8
                                        have HE5 := Lib.hid hE
                                        clear hu8 hE)
                obtain ⟨A8, c8, vs8, hv8, hl8, hw8⟩ := Wiped.start HU8.out HE5.out
                subst hv8
                have HL8 := Lib.hid hl8
                have HWI := Lib.hid hw8
                clear hw8 hl8
                go_upto_region 18 with (first
                  | (go_at_call 49
                     refine (refSort_any f _ _ k64 (HF4.out.ext' HE5.out) (by have := HTF.out; omega)).mono ?_
                     rintro e w6 ⟨v9, rfl, hu9, hE⟩
                     have HU9 := Lib.hid hu9
                     have HE6 := Lib.hid hE
                     clear hu9 hE)
                  | (go_at_call 48
                     refine (SameAll_same _ _ _ _ (HU8.out.reads.ext' HE6.out) HU9.out).mono ?_
                     rintro e w7 ⟨rfl, hE⟩
                     have HE7 := Lib.hid (HE6.out.trans hE)
                     clear hE))
                have HW := Lib.hid (HWI.out.ext HE7.out)
                have hm8 : vs8.length ≤ 9223372036854775807 := by obtain ⟨_, _, _, _, h, _⟩ := own_row HW.out.1; exact h
                clear HWI HSO HU8 HU9 HE5 HE6 HE7
                go_wp2_with fail
                go_loopg [71] vs8.length (fun gn i wr => ∃ k : Nat, k ≤ vs8.length ∧ gn + k = vs8.length ∧ i = .int .i64 k ∧ Hid (Wiped w4 wr (.slice A8 vs8.length c8) vs8 (SortV f)))
                case atStart => exact ⟨0, Nat.zero_le _, by omega, rfl, HW⟩
                case round =>
                  obtain ⟨k, hk, hgk, rfl, HS⟩ := hrel
                  by_cases hlt : k < vs8.length
                  · obtain ⟨ad, EA, ec, rfl, hve, hcell, hmx⟩ := HS.out.row HL8.out k hlt
                    have hkr : k < (SortV f).length := by have := HL8.out; omega
                    obtain ⟨L, hL⟩ : ∃ L, L = (SortV f)[k].length := ⟨_, rfl⟩
                    rw [← hL] at hcell hve hmx
                    have HVE := Lib.hid hve
                    have HLL := Lib.hid hL
                    obtain ⟨w9, rfl⟩ : ∃ w9 : World, w9 = wr := ⟨_, rfl⟩
                    clear hve hL HW
                    go_wp2_with fail
                    go_loopg [77] L (fun gn i wr => ∃ m : Nat, m ≤ L ∧ gn + m = L ∧ i = .int .i64 m ∧ Hid (Wiped w4 wr (.slice (some ad) vs8.length c8) vs8 (SortV f)))
                    case atStart => exact ⟨0, Nat.zero_le _, by omega, rfl, HS⟩
                    case round =>
                      obtain ⟨m, hm, hgm, rfl, HS2⟩ := hrel
                      by_cases hml : m < L
                      · obtain ⟨g, cg, u0, hv0, hcell0, hfree0, hwp⟩ := HS2.out.set hlt hkr (k := m) (by rw [← HLL.out]; exact hml)
                        have hv1 := HVE.out.symm.trans hv0
                        injection hv1 with e1 e2 e3
                        subst e1 e3
                        have HWP := Lib.hid hwp
                        clear e2 hv0 hwp
                        go_wp2
                        go_roundg (L - (m + 1))
                        case measure => omega
                        case rel => exact ⟨m + 1, by omega, by omega, by go_num, HWP⟩
                      · go_wp2
                        go_roundg (vs8.length - (k + 1))
                        case measure => omega
                        case rel => exact ⟨k + 1, by omega, by omega, by go_num, HS2⟩
                  · clear hgk hk
                    go_wp2_with (first
                      | (go_at_call 48
                         refine (SameAll_same f _ _ _ (HOL4.out.reads.ext' HS.out.2.2) (HF4.out.ext' HS.out.2.2)).mono ?_
                         rintro e w10 ⟨rfl, hE⟩
                         have HE10 := Lib.hid ((HE4.out.trans HS.out.2.2).trans hE)
                         clear hE)
                      | (go_at_call 11; refine (awake_any _ (HL.out.ext HE10.out)).mono ?_; rintro e w11 ⟨rfl, hE⟩; have HE11 := Lib.hid hE; clear hE))
                    go_ret
                    exact ⟨rfl, HE10.out.trans HE11.out⟩
end Go.Proofs.YtlompphnngnaiaaGreatDoor
