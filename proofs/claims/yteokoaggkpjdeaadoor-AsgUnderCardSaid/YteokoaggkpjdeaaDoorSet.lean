/- The state of asg.unit, and the walk of (*unit).set. -/
import Derived.Test.YteokoaggkpjdeaaDoorHeap2
import Derived.Test.YteokoaggkpjdeaaDoorMaps
import Derived.StillTailTactics
namespace Go.Proofs.YteokoaggkpjdeaaDoor
open Go.RowKit

/-- Which part of a unit a block belongs to. -/
inductive Lab where
  | u | mv | ma | left | held | wait
  | at_ (x : Int)
  deriving DecidableEq

/-- What a unit holds: the true literal of each variable, the literals that are left, which clauses are held, the clauses of each literal, those that wait. -/
structure Unit1 where
  val : Int → Option Value
  left : List Int
  held : List Bool
  at_ : Int → List Int
  wait : List Int

structure USt (w : World) (B : Nat) (lab : Nat → Option Lab) (U mv ma : Nat) (fv lv hv wv : Value) (atv : Int → Option Value) (s : Unit1) : Prop where
  blk : Blk w U 81 [fv, .map (some mv), lv, hv, .map (some ma), wv]
  mval : MapAt w mv s.val
  mat : MapAt w ma atv
  rleft : w.ownsRow B 3 1 lv s.left.length (s.left.map (Value.int .i64))
  rheld : w.ownsRow B 4 1 hv s.held.length (s.held.map Value.bool)
  rwait : w.ownsRow B 3 1 wv s.wait.length (s.wait.map (Value.int .i64))
  rat : ∀ x, w.ownsRow B 3 1 ((atv x).getD (.slice none 0 0)) (s.at_ x).length ((s.at_ x).map (Value.int .i64))
  heap : HeapOn s.wait s.wait.length
  lU : lab U = some .u
  lmv : lab mv = some .mv
  lma : lab ma = some .ma
  lleft : ∀ k, lv.ownBlock = some k → lab k = some .left
  lheld : ∀ k, hv.ownBlock = some k → lab k = some .held
  lwait : ∀ k, wv.ownBlock = some k → lab k = some .wait
  lat : ∀ x k, ((atv x).getD (.slice none 0 0)).ownBlock = some k → lab k = some (.at_ x)
  low : ∀ k c, lab k = some c → B ≤ k ∧ k < w.heap.size

/-- The literals of the unit are set: the held clauses, those that lose a literal. -/
def heldS (h : List Bool) (is : List Int) : List Bool := is.foldl (fun h i => h.set i.toNat true) h

section
variable {w w' : World} {B : Nat} {lab : Nat → Option Lab} {U mv ma : Nat} {fv lv hv wv : Value} {atv : Int → Option Value} {s : Unit1} {S : Nat → Prop} {c : Lab}

/-- What is not of label c is as it was. -/
theorem USt.keepBlk (h : USt w B lab U mv ma fv lv hv wv atv s) (k : Chg S w w') (hS : ∀ i, S i → lab i = some c) (hc : c ≠ .u) : Blk w' U 81 [fv, .map (some mv), lv, hv, .map (some ma), wv] :=
  k.blk h.blk fun hs => hc (by have := hS _ hs; rw [h.lU] at this; injection this with this; exact this.symm)
theorem USt.keepMv (h : USt w B lab U mv ma fv lv hv wv atv s) (k : Chg S w w') (hS : ∀ i, S i → lab i = some c) (hc : c ≠ .mv) : MapAt w' mv s.val :=
  h.mval.keep k fun hs => hc (by have := hS _ hs; rw [h.lmv] at this; injection this with this; exact this.symm)
theorem USt.keepMa (h : USt w B lab U mv ma fv lv hv wv atv s) (k : Chg S w w') (hS : ∀ i, S i → lab i = some c) (hc : c ≠ .ma) : MapAt w' ma atv :=
  h.mat.keep k fun hs => hc (by have := hS _ hs; rw [h.lma] at this; injection this with this; exact this.symm)
theorem keepRow {base : Nat} {e : TypeId} {size n : Nat} {v : Value} {xs : List Value} {d : Lab} (hr : w.ownsRow base e size v n xs) (hl : ∀ k, v.ownBlock = some k → lab k = some d) (k : Chg S w w') (hS : ∀ i, S i → lab i = some c) (hc : c ≠ d) : w'.ownsRow base e size v n xs :=
  k.own hr fun i hi hs => hc (by have := hS _ hs; rw [hl i hi] at this; injection this with this; exact this.symm)
theorem USt.keepLow (h : USt w B lab U mv ma fv lv hv wv atv s) (k : Chg S w w') : ∀ i c, lab i = some c → B ≤ i ∧ i < w'.heap.size := fun i c hi => ⟨(h.low i c hi).1, Nat.lt_of_lt_of_le (h.low i c hi).2 k.size⟩

theorem USt.setVal (h : USt w B lab U mv ma fv lv hv wv atv s) (k : Chg (fun i => i = mv) w w') {m : Int → Option Value} (hm : MapAt w' mv m) : USt w' B lab U mv ma fv lv hv wv atv { s with val := m } := by
  have hS : ∀ i, i = mv → lab i = some .mv := fun i hi => hi ▸ h.lmv
  exact ⟨h.keepBlk k hS (by decide), hm, h.keepMa k hS (by decide), keepRow h.rleft h.lleft k hS (by decide), keepRow h.rheld h.lheld k hS (by decide), keepRow h.rwait h.lwait k hS (by decide),
    fun x => keepRow (h.rat x) (h.lat x) k hS (by simp), h.heap, h.lU, h.lmv, h.lma, h.lleft, h.lheld, h.lwait, h.lat, h.keepLow k⟩

theorem USt.ext (h : USt w B lab U mv ma fv lv hv wv atv s) (k : Ext w w') : USt w' B lab U mv ma fv lv hv wv atv s := by
  have k' : Chg (fun i => i = mv ∧ False) w w' := k.chg _
  have hS : ∀ i, i = mv ∧ False → lab i = some Lab.mv := fun i hi => hi.2.elim
  exact ⟨h.keepBlk k' hS (by decide), h.mval.ext k, h.keepMa k' hS (by decide), keepRow h.rleft h.lleft k' hS (by decide), keepRow h.rheld h.lheld k' hS (by decide), keepRow h.rwait h.lwait k' hS (by decide),
    fun x => keepRow (h.rat x) (h.lat x) k' hS (by simp), h.heap, h.lU, h.lmv, h.lma, h.lleft, h.lheld, h.lwait, h.lat, h.keepLow k'⟩
end

/-- A row of one-cell elements of the call's own, by its block: an element's cell; an element stored. -/
theorem own_at {α : Type} (enc : α → Value) {w : World} {B : Nat} {e : TypeId} {v : Value} {xs : List α} (h : w.ownsRow B e 1 v xs.length (xs.map enc)) (i : Nat) (hi : i < xs.length) :
    ∃ g c, v = .slice (some ⟨g, 0, none⟩) xs.length c ∧ B ≤ g ∧ w.cell? ⟨g, i, none⟩ = some (enc xs[i]) ∧ w.frozen? ⟨g, i, none⟩ = false ∧
      ∀ x : α, (w.setCell ⟨g, i, none⟩ (enc x)).ownsRow B e 1 v xs.length ((xs.set i x).map enc) := by
  have hl : (xs.map enc).length = xs.length := List.length_map ..
  rw [← hl] at h
  obtain ⟨g, c, cur, rfl, hb, hblk, h1, h2, h3, h4⟩ := own_blk h (by omega)
  rw [hl] at h1 h4
  refine ⟨g, c, by rw [hl], hb, ?_, hblk.free i, fun x => ?_⟩
  · rw [hblk.cell]
    have := congrArg (fun l => l[i]?) h4
    simp only [List.getElem?_take, if_pos hi, List.getElem?_map, List.getElem?_eq_getElem hi] at this
    exact this
  · have := blk_own (vs := (xs.set i x).map enc) hb (hblk.set i (enc x)) (by simpa using h1) h2 (by simpa using h3) (by
      simp only [List.length_map, List.length_set]
      rw [List.take_set, h4, List.map_set])
    simpa using this

theorem USt.setHeld {w : World} {B : Nat} {lab : Nat → Option Lab} {U mv ma : Nat} {fv lv wv : Value} {atv : Int → Option Value} {s : Unit1} {g n c i : Nat}
    (h : USt w B lab U mv ma fv lv (.slice (some ⟨g, 0, none⟩) n c) wv atv s) {b : List Bool} {x : Value} (hr : (w.setCell ⟨g, i, none⟩ x).ownsRow B 4 1 (.slice (some ⟨g, 0, none⟩) n c) b.length (b.map Value.bool)) :
    USt (w.setCell ⟨g, i, none⟩ x) B lab U mv ma fv lv (.slice (some ⟨g, 0, none⟩) n c) wv atv { s with held := b } := by
  have k := Chg.set w g i x
  have hS : ∀ i, i = g → lab i = some .held := fun i hi => hi ▸ h.lheld g rfl
  exact ⟨h.keepBlk k hS (by decide), h.keepMv k hS (by decide), h.keepMa k hS (by decide), keepRow h.rleft h.lleft k hS (by decide), hr, keepRow h.rwait h.lwait k hS (by decide),
    fun x => keepRow (h.rat x) (h.lat x) k hS (by simp), h.heap, h.lU, h.lmv, h.lma, h.lleft, h.lheld, h.lwait, h.lat, h.keepLow k⟩

theorem USt.setLeft {w : World} {B : Nat} {lab : Nat → Option Lab} {U mv ma : Nat} {fv hv wv : Value} {atv : Int → Option Value} {s : Unit1} {g n c i : Nat}
    (h : USt w B lab U mv ma fv (.slice (some ⟨g, 0, none⟩) n c) hv wv atv s) {b : List Int} {x : Value} (hr : (w.setCell ⟨g, i, none⟩ x).ownsRow B 3 1 (.slice (some ⟨g, 0, none⟩) n c) b.length (b.map (Value.int .i64))) :
    USt (w.setCell ⟨g, i, none⟩ x) B lab U mv ma fv (.slice (some ⟨g, 0, none⟩) n c) hv wv atv { s with left := b } := by
  have k := Chg.set w g i x
  have hS : ∀ i, i = g → lab i = some .left := fun i hi => hi ▸ h.lleft g rfl
  exact ⟨h.keepBlk k hS (by decide), h.keepMv k hS (by decide), h.keepMa k hS (by decide), hr, keepRow h.rheld h.lheld k hS (by decide), keepRow h.rwait h.lwait k hS (by decide),
    fun x => keepRow (h.rat x) (h.lat x) k hS (by simp), h.heap, h.lU, h.lmv, h.lma, h.lleft, h.lheld, h.lwait, h.lat, h.keepLow k⟩

theorem zeroValue_ints (w : World) : (zeroValue 22).run Tryd.prog w = .ok (.slice none 0 0) w := by kernel_rfl

/-- What the unit may have turned: blocks with a label; a label stays, a new one stands on a new block. -/
structure Own (lab lab' : Nat → Option Lab) (w w' : World) : Prop where
  chg : Chg (fun k => ∃ c, lab k = some c) w w'
  le : ∀ k d, lab k = some d → lab' k = some d
  grow : ∀ k d, lab' k = some d → lab k = some d ∨ w.heap.size ≤ k

theorem Own.same {lab : Nat → Option Lab} {w w' : World} (h : Chg (fun k => ∃ c, lab k = some c) w w') : Own lab lab w w' := ⟨h, fun _ _ h => h, fun _ _ h => .inl h⟩
theorem Own.refl (lab : Nat → Option Lab) (w : World) : Own lab lab w w := .same (Chg.refl _ _)
theorem Own.trans {l1 l2 l3 : Nat → Option Lab} {a b c : World} (h : Own l1 l2 a b) (k : Own l2 l3 b c) : Own l1 l3 a c :=
  ⟨h.chg.then k.chg fun i ⟨d, hd⟩ => (h.grow i d hd).imp (fun h => ⟨d, h⟩) id, fun i d hd => k.le i d (h.le i d hd), fun i d hd => (k.grow i d hd).elim (h.grow i d) (fun hs => .inr (Nat.le_trans h.chg.size hs))⟩
theorem Own.ext {l1 l2 : Nat → Option Lab} {a b c : World} (h : Own l1 l2 a b) (k : Ext b c) : Own l1 l2 a c := h.trans (.same (k.chg _))

/-- A label more. -/
def upd (lab : Nat → Option Lab) (g : Nat) (c : Lab) : Nat → Option Lab := fun k => if k = g then some c else lab k
theorem upd_at (lab : Nat → Option Lab) (g : Nat) (c : Lab) : upd lab g c g = some c := if_pos rfl
theorem upd_le {lab : Nat → Option Lab} {g : Nat} {c : Lab} (h : lab g = some c ∨ lab g = none) (k : Nat) (d : Lab) (hk : lab k = some d) : upd lab g c k = some d := by
  unfold upd
  by_cases e : k = g
  · rw [if_pos e]
    subst e
    rcases h with h | h
    · rw [← h, hk]
    · rw [h] at hk; cases hk
  · rw [if_neg e]; exact hk
theorem upd_own {lab : Nat → Option Lab} {g : Nat} {c : Lab} {w w' : World} {S : Nat → Prop} (h : lab g = some c ∨ (lab g = none ∧ w.heap.size ≤ g)) (k : Chg S w w') (hS : ∀ i, S i → (∃ d, lab i = some d)) : Own lab (upd lab g c) w w' := by
  refine ⟨k.mono hS, upd_le (h.imp id (·.1)), fun i d hi => ?_⟩
  unfold upd at hi
  by_cases e : i = g
  · rw [if_pos e] at hi
    injection hi with hi
    subst e hi
    exact h.imp id (·.2)
  · rw [if_neg e] at hi; exact .inl hi
theorem upd_low {lab : Nat → Option Lab} {g B : Nat} {c : Lab} {w w' : World} (h : ∀ k c, lab k = some c → B ≤ k ∧ k < w.heap.size) (hs : w.heap.size ≤ w'.heap.size) (hB : B ≤ g) (hg : g < w'.heap.size) :
    ∀ k d, upd lab g c k = some d → B ≤ k ∧ k < w'.heap.size := fun k d hk => by
  unfold upd at hk
  by_cases e : k = g
  · rw [e]; exact ⟨hB, hg⟩
  · rw [if_neg e] at hk
    have := h k d hk
    omega
/-- A block that is new, or the row's own: its label. -/
theorem newlab {lab : Nat → Option Lab} {g B : Nat} {c : Lab} {w : World} {v : Value} (h : ∀ k c, lab k = some c → B ≤ k ∧ k < w.heap.size) (hl : ∀ k, v.ownBlock = some k → lab k = some c) (hg : v.ownBlock = some g ∨ w.heap.size ≤ g) :
    lab g = some c ∨ (lab g = none ∧ w.heap.size ≤ g) := by
  rcases hg with hg | hg
  · exact .inl (hl g hg)
  · right
    refine ⟨?_, hg⟩
    cases e : lab g with
    | none => rfl
    | some d => have := (h g d e).2; omega

theorem rowAt_own {w : World} {g c B : Nat} {xs : List Int} (h : RowAt w g c xs) (hb : B ≤ g) : w.ownsRow B 3 1 (.slice (some ⟨g, 0, none⟩) xs.length c) xs.length (xs.map (Value.int .i64)) := by
  obtain ⟨cur, h1, h2, h3, h4, h5⟩ := h
  have := blk_own (vs := xs.map (Value.int .i64)) hb h1 (by simpa using h2) (by unfold maxLen; omega) h4 (by simpa using h5)
  simpa using this

/-- Behind heap.Push on the unit's own heap. -/
theorem USt.push {w w' : World} {B : Nat} {lab : Nat → Option Lab} {U mv ma : Nat} {fv lv hv wv : Value} {atv : Int → Option Value} {s : Unit1} {n : Int} {e : Ending}
    (h : USt w B lab U mv ma fv lv hv wv atv s) (hp : PostPush w U 5 81 [fv, .map (some mv), lv, hv, .map (some ma), wv] B wv s.wait n e w') :
    ∃ lab' wv' ys, e = .returned (.tuple #[]) ∧ ys.Perm (s.wait ++ [n]) ∧ USt w' B lab' U mv ma fv lv hv wv' atv { s with wait := ys } ∧ Own lab lab' w w' := by
  obtain ⟨g, c, ys, he, hs, hperm, hh, hBg, hg, hc⟩ := hp
  have hnl := newlab h.low h.lwait hg
  have hle := fun k d => upd_le (c := Lab.wait) (hnl.imp id (·.1)) k d
  have hnS : ∀ k c, lab k = some c → c ≠ .wait → c ≠ .u → ¬ (k = U ∨ some k = wv.ownBlock) := fun k c hk h1 h2 hs => by
    rcases hs with rfl | hs
    · rw [h.lU] at hk; injection hk with hk; exact h2 hk.symm
    · have := h.lwait k hs.symm; rw [this] at hk; injection hk with hk; exact h1 hk.symm
  have hgw : g < w'.heap.size := by
    obtain ⟨cur, hb, -⟩ := hs.row
    exact hb.lt
  refine ⟨upd lab g .wait, .slice (some ⟨g, 0, none⟩) ys.length c, ys, he, hperm, ⟨hs.blk, h.mval.keep hc (hnS _ _ h.lmv (by decide) (by decide)), h.mat.keep hc (hnS _ _ h.lma (by decide) (by decide)),
    hc.own h.rleft (fun k hk => hnS k _ (h.lleft k hk) (by decide) (by decide)), hc.own h.rheld (fun k hk => hnS k _ (h.lheld k hk) (by decide) (by decide)), rowAt_own hs.row hBg,
    fun x => hc.own (h.rat x) (fun k hk => hnS k _ (h.lat x k hk) (by simp) (by simp)), hh, hle _ _ h.lU, hle _ _ h.lmv, hle _ _ h.lma, fun k hk => hle _ _ (h.lleft k hk), fun k hk => hle _ _ (h.lheld k hk), ?_,
    fun x k hk => hle _ _ (h.lat x k hk), upd_low h.low hc.size hBg hgw⟩, upd_own hnl hc ?_⟩
  · intro k hk; simp [Value.ownBlock] at hk; rw [← hk]; exact upd_at ..
  · intro k hk
    rcases hk with rfl | hk
    · exact ⟨_, h.lU⟩
    · exact ⟨_, h.lwait k hk.symm⟩

/-- Behind heap.Pop on the unit's own heap. -/
theorem USt.pop {w w' : World} {B : Nat} {lab : Nat → Option Lab} {U mv ma : Nat} {fv lv hv : Value} {atv : Int → Option Value} {s : Unit1} {g c : Nat} {xs : List Int} {e : Ending}
    (h : USt w B lab U mv ma fv lv hv (.slice (some ⟨g, 0, none⟩) xs.length c) atv s) (hp : PostPop w U 5 81 [fv, .map (some mv), lv, hv, .map (some ma), .slice (some ⟨g, 0, none⟩) xs.length c] g c s.wait e w') :
    ∃ wv' x ys, e = .returned (.iface 3 (.int .i64 x)) ∧ s.wait.Perm (x :: ys) ∧ (∀ y ∈ s.wait, x ≤ y) ∧ USt w' B lab U mv ma fv lv hv wv' atv { s with wait := ys } ∧ Own lab lab w w' := by
  obtain ⟨x, ys, he, hs, hperm, hh, hmin, hc⟩ := hp
  have hgl := h.lwait g rfl
  have hnS : ∀ k c, lab k = some c → c ≠ .wait → c ≠ .u → ¬ (k = U ∨ k = g) := fun k c hk h1 h2 hs => by
    rcases hs with rfl | rfl
    · rw [h.lU] at hk; injection hk with hk; exact h2 hk.symm
    · rw [hgl] at hk; injection hk with hk; exact h1 hk.symm
  refine ⟨.slice (some ⟨g, 0, none⟩) ys.length c, x, ys, he, hperm, hmin, ⟨hs.blk, h.mval.keep hc (hnS _ _ h.lmv (by decide) (by decide)), h.mat.keep hc (hnS _ _ h.lma (by decide) (by decide)),
    hc.own h.rleft (fun k hk => hnS k _ (h.lleft k hk) (by decide) (by decide)), hc.own h.rheld (fun k hk => hnS k _ (h.lheld k hk) (by decide) (by decide)), rowAt_own hs.row (h.low _ _ hgl).1,
    fun x => hc.own (h.rat x) (fun k hk => hnS k _ (h.lat x k hk) (by simp) (by simp)), hh, h.lU, h.lmv, h.lma, h.lleft, h.lheld, ?_,
    h.lat, fun k d hk => ⟨(h.low k d hk).1, Nat.lt_of_lt_of_le (h.low k d hk).2 hc.size⟩⟩, .same (hc.mono ?_)⟩
  · intro k hk; simp [Value.ownBlock] at hk; rw [← hk]; exact hgl
  · intro k hk
    rcases hk with rfl | rfl
    · exact ⟨_, h.lU⟩
    · exact ⟨_, hgl⟩

/-- Its left is another row. -/
theorem USt.newLeft {w w' : World} {B : Nat} {lab : Nat → Option Lab} {U mv ma : Nat} {fv lv hv wv lv' : Value} {atv : Int → Option Value} {s : Unit1} {g : Nat} {left : List Int}
    (h : USt w B lab U mv ma fv lv hv wv atv s) (hc : Chg (fun k => k = U ∨ some k = lv.ownBlock) w w') (hb : Blk w' U 81 [fv, .map (some mv), lv', hv, .map (some ma), wv])
    (hr : w'.ownsRow B 3 1 lv' left.length (left.map (Value.int .i64))) (hg' : lv'.ownBlock = some g) (hg : lv.ownBlock = some g ∨ w.heap.size ≤ g) (hBg : B ≤ g) (hgw : g < w'.heap.size) :
    ∃ lab', USt w' B lab' U mv ma fv lv' hv wv atv { s with left := left } ∧ Own lab lab' w w' := by
  have hnl := newlab h.low h.lleft hg
  have hle := fun k d => upd_le (c := Lab.left) (hnl.imp id (·.1)) k d
  have hnS : ∀ k c, lab k = some c → c ≠ .left → c ≠ .u → ¬ (k = U ∨ some k = lv.ownBlock) := fun k c hk h1 h2 hs => by
    rcases hs with rfl | hs
    · rw [h.lU] at hk; injection hk with hk; exact h2 hk.symm
    · have := h.lleft k hs.symm; rw [this] at hk; injection hk with hk; exact h1 hk.symm
  refine ⟨upd lab g .left, ⟨hb, h.mval.keep hc (hnS _ _ h.lmv (by decide) (by decide)), h.mat.keep hc (hnS _ _ h.lma (by decide) (by decide)),
    hr, hc.own h.rheld (fun k hk => hnS k _ (h.lheld k hk) (by decide) (by decide)), hc.own h.rwait (fun k hk => hnS k _ (h.lwait k hk) (by decide) (by decide)),
    fun x => hc.own (h.rat x) (fun k hk => hnS k _ (h.lat x k hk) (by simp) (by simp)), h.heap, hle _ _ h.lU, hle _ _ h.lmv, hle _ _ h.lma, ?_, fun k hk => hle _ _ (h.lheld k hk), fun k hk => hle _ _ (h.lwait k hk),
    fun x k hk => hle _ _ (h.lat x k hk), upd_low h.low hc.size hBg hgw⟩, upd_own hnl hc ?_⟩
  · intro k hk; rw [hg'] at hk; injection hk with hk; rw [← hk]; exact upd_at ..
  · intro k hk
    rcases hk with rfl | hk
    · exact ⟨_, h.lU⟩
    · exact ⟨_, h.lleft k hk.symm⟩

/-- The clauses of a literal are another row. -/
theorem USt.newAt {w w1 w' : World} {B : Nat} {lab : Nat → Option Lab} {U mv ma : Nat} {fv lv hv wv v' : Value} {atv : Int → Option Value} {s : Unit1} {g : Nat} {x : Int} {is : List Int}
    (h : USt w B lab U mv ma fv lv hv wv atv s) (hc1 : Chg (fun k => some k = ((atv x).getD (.slice none 0 0)).ownBlock) w w1)
    (hr : w1.ownsRow B 3 1 v' is.length (is.map (Value.int .i64))) (hg' : v'.ownBlock = some g) (hg : ((atv x).getD (.slice none 0 0)).ownBlock = some g ∨ w.heap.size ≤ g) (hBg : B ≤ g) (hgw : g < w1.heap.size)
    (hc2 : Chg (fun i => i = ma) w1 w') (hm : MapAt w' ma (mset atv x v')) :
    ∃ lab', USt w' B lab' U mv ma fv lv hv wv (mset atv x v') { s with at_ := fun y => if y = x then is else s.at_ y } ∧ Own lab lab' w w' := by
  have hnl := newlab h.low (h.lat x) hg
  have hle := fun k d => upd_le (c := Lab.at_ x) (hnl.imp id (·.1)) k d
  have hma : g ≠ ma := fun e => by
    subst e
    rcases hnl with hn | hn
    · rw [h.lma] at hn; cases hn
    · have := (h.low _ _ h.lma).2; omega
  have hc : Chg (fun k => k = ma ∨ some k = ((atv x).getD (.slice none 0 0)).ownBlock) w w' := (hc1.mono fun _ h => .inr h).trans (hc2.mono fun _ h => .inl h)
  have hnS : ∀ k c, lab k = some c → c ≠ .ma → c ≠ .at_ x → ¬ (k = ma ∨ some k = ((atv x).getD (.slice none 0 0)).ownBlock) := fun k c hk h1 h2 hs => by
    rcases hs with rfl | hs
    · rw [h.lma] at hk; injection hk with hk; exact h1 hk.symm
    · have := h.lat x k hs.symm; rw [this] at hk; injection hk with hk; exact h2 hk.symm
  refine ⟨upd lab g (.at_ x), ⟨hc.blk h.blk (hnS _ _ h.lU (by decide) (by simp)), h.mval.keep hc (hnS _ _ h.lmv (by decide) (by simp)), hm,
    hc.own h.rleft (fun k hk => hnS k _ (h.lleft k hk) (by decide) (by simp)), hc.own h.rheld (fun k hk => hnS k _ (h.lheld k hk) (by decide) (by simp)), hc.own h.rwait (fun k hk => hnS k _ (h.lwait k hk) (by decide) (by simp)),
    fun y => ?_, h.heap, hle _ _ h.lU, hle _ _ h.lmv, hle _ _ h.lma, fun k hk => hle _ _ (h.lleft k hk), fun k hk => hle _ _ (h.lheld k hk), fun k hk => hle _ _ (h.lwait k hk),
    fun y k hk => ?_, upd_low h.low hc.size hBg (Nat.lt_of_lt_of_le hgw hc2.size)⟩, upd_own hnl hc ?_⟩
  · unfold mset
    dsimp only
    by_cases e : y = x
    · rw [if_pos e, if_pos e]
      refine hc2.own hr fun k hk hk2 => ?_
      have hk' : v'.ownBlock = some k := hk
      rw [hg'] at hk'; injection hk' with hk'
      exact hma (hk'.trans hk2)
    · rw [if_neg e, if_neg e]
      exact hc.own (h.rat y) (fun k hk => hnS k _ (h.lat y k hk) (by simp) (by simpa using e))
  · unfold mset at hk
    by_cases e : y = x
    · rw [if_pos e] at hk
      have hk' : v'.ownBlock = some k := hk
      rw [hg'] at hk'; injection hk' with hk'
      rw [← hk', e]; exact upd_at ..
    · rw [if_neg e] at hk
      exact hle _ _ (h.lat y k hk)
  · intro k hk
    rcases hk with rfl | hk
    · exact ⟨_, h.lma⟩
    · exact ⟨_, h.lat x k hk.symm⟩

/-- One clause loses a literal. -/
def leftStep (s : List Int × List Int) (i : Int) : List Int × List Int :=
  (s.1.set i.toNat (s.1.getD i.toNat 0 - 1), if s.1.getD i.toNat 0 - 1 = 1 then s.2 ++ [i] else s.2)
def leftS (l : List Int) (is : List Int) : List Int × List Int := is.foldl leftStep (l, [])

theorem heldS_take (h : List Bool) (is : List Int) (k : Nat) (hk : k < is.length) : heldS h (is.take (k + 1)) = (heldS h (is.take k)).set is[k].toNat true := by
  unfold heldS
  rw [List.take_succ_eq_append_getElem hk, List.foldl_append]; rfl
theorem leftS_take (l : List Int) (is : List Int) (k : Nat) (hk : k < is.length) : leftS l (is.take (k + 1)) = leftStep (leftS l (is.take k)) is[k] := by
  unfold leftS
  rw [List.take_succ_eq_append_getElem hk, List.foldl_append]; rfl
theorem heldS_len (h : List Bool) (is : List Int) : (heldS h is).length = h.length := by
  unfold heldS
  induction is generalizing h with
  | nil => rfl
  | cons i is ih => rw [List.foldl_cons, ih]; simp
theorem leftS_len' (is : List Int) (s : List Int × List Int) : (is.foldl leftStep s).1.length = s.1.length := by
  induction is generalizing s with
  | nil => rfl
  | cons i is ih => rw [List.foldl_cons, ih]; simp [leftStep]
theorem leftS_len (l : List Int) (is : List Int) : (leftS l is).1.length = l.length := leftS_len' is _

theorem leftS_pushed' (is : List Int) (s : List Int × List Int) : (is.foldl leftStep s).2.length ≤ s.2.length + is.length := by
  induction is generalizing s with
  | nil => exact Nat.le_refl _
  | cons i is ih =>
    rw [List.foldl_cons]
    refine Nat.le_trans (ih _) ?_
    have : (leftStep s i).2.length ≤ s.2.length + 1 := by unfold leftStep; dsimp only; split <;> simp
    simp only [List.length_cons]
    omega
theorem leftS_pushed (l : List Int) (is : List Int) : (leftS l is).2.length ≤ is.length := by
  have := leftS_pushed' is (l, [])
  simpa [leftS] using this
theorem left_bd {L : List Int} {k q : Nat} {x : Int} (h : ∀ y ∈ L, -1000000 - (k : Int) ≤ y ∧ y ≤ 1000000) (h1 : x ≤ 1000000) (h2 : -3000000 ≤ x) {hq : q < L.length} (hx : x = L[q]) :
    ∀ y ∈ L.set q (x - 1), -1000000 - ((k + 1 : Nat) : Int) ≤ y ∧ y ≤ 1000000 := by
  intro y hy
  rcases List.mem_or_eq_of_mem_set hy with hy | rfl
  · have := h y hy; omega
  · have := h x (hx ▸ List.getElem_mem hq); omega

/-- What set leaves. -/
def setU (s : Unit1) (lit : Int) (wait : List Int) : Unit1 :=
  { val := mset s.val (varOf lit) (.int .i64 lit), held := heldS s.held (s.at_ lit), left := (leftS s.left (s.at_ (-lit))).1, at_ := s.at_, wait := wait }

def PostSet (w : World) (B : Nat) (lab : Nat → Option Lab) (U mv ma : Nat) (fv lv hv : Value) (atv : Int → Option Value) (s : Unit1) (lit : Int) (e : Ending) (w' : World) : Prop :=
  ∃ lab' wv wait, e = .returned (.tuple #[]) ∧ wait.Perm (s.wait ++ (leftS s.left (s.at_ (-lit))).2) ∧ USt w' B lab' U mv ma fv lv hv wv atv (setU s lit wait) ∧ Own lab lab' w w'

set_option maxHeartbeats 2000000 in
set_option maxRecDepth 100000 in
theorem set_any (B : Nat) (lab : Nat → Option Lab) (U mv ma : Nat) (fv lv hv wv : Value) (atv : Int → Option Value) (s : Unit1) (lit : Int) (hl : I64 lit) (hl' : -9223372036854775807 ≤ lit) (w : World)
    (h : USt w B lab U mv ma fv lv hv wv atv s) (hb : ∀ x, ∀ i ∈ s.at_ x, 0 ≤ i ∧ i < s.held.length) (hlen : s.left.length = s.held.length)
    (hbd : ∀ x ∈ s.left, -1000000 ≤ x ∧ x ≤ 1000000) (hat : ∀ x, (s.at_ x).length ≤ 1000000) (hw : s.wait.length ≤ 1000000) :
    Calls Tryd.prog 69 #[.pointer (some ⟨U, 0, none⟩), .int .i64 lit] w (PostSet w B lab U mv ma fv lv hv atv s lit) := by
  have HB := Lib.hid hb
  have HL := Lib.hid hlen
  have HBD := Lib.hid hbd
  have HAT := Lib.hid hat
  have HWL := Lib.hid hw
  have c1 : w.cell? ⟨U, 1, none⟩ = some (.map (some mv)) := h.blk.cell 1
  obtain ⟨w1, hrun, hm1, hc1⟩ := (h.ext (Ext.drew w)).mval.update (P := Tryd.prog) Tryd.underlying76 Tryd.underlying3 (varOf lit) (.int .i64 lit)
  have h1 := (h.ext (Ext.drew w)).setVal hc1 hm1
  have HO1 : Hid (Own lab lab w w1) := Lib.hid (.same (((Ext.drew w).chg _).trans (hc1.mono fun i hi => ⟨_, hi ▸ h.lmv⟩)))
  have H1 := Lib.hid h1
  have c4 : w1.cell? ⟨U, 4, none⟩ = some (.map (some ma)) := h1.blk.cell 4
  have hlk := h1.mat.lookup (P := Tryd.prog) Tryd.underlying77 Tryd.underlying3 (zeroValue_ints w1) lit
  have hrl := own_row (show w1.ownsRow B 3 1 ((atv lit).getD (.slice none 0 0)) ((s.at_ lit).map (Value.int .i64)).length ((s.at_ lit).map (Value.int .i64)) by rw [List.length_map]; exact h1.rat lit)
  rw [List.length_map] at hrl
  obtain ⟨A1, C1, hv1, hc1a, hc1b, -⟩ := hrl
  rw [hv1] at hlk
  have HV1 := Lib.hid hv1
  clear h hb hlen hm1 hc1 h1 hv1 hbd hat hw
  go_enter Tryd.func69, Tryd.ntmps69
  go_wp2
  go_still_tail 7, (by kernel_rfl)
  still_call (var_still lit hl _)
  repeat still_step
  refine wpStill_nil ?_
  change wpList _ _ _ _ _ w.drew
  go_wp2
  go_loopw [22] (fun i wr => ∃ k : Nat, k ≤ (s.at_ lit).length ∧ i = .int .i64 k ∧ Hid (USt wr B lab U mv ma fv lv hv wv atv { s with val := mset s.val (varOf lit) (.int .i64 lit), held := heldS s.held ((s.at_ lit).take k) } ∧ Own lab lab w wr)) (fun i _ => (s.at_ lit).length - (intOf i).toNat)
  case atStart => exact ⟨0, Nat.zero_le _, rfl, H1.out, HO1.out⟩
  case round =>
    obtain ⟨k, hk, rfl, HS⟩ := hrel
    by_cases hlt : k < (s.at_ lit).length
    · obtain ⟨g, c, hsv, -, hcell, -, -⟩ := own_at (Value.int .i64) (HS.out.1.rat lit) k hlt
      have hsv' := HV1.out.symm.trans hsv
      cases hsv'
      obtain ⟨hq0, hq1⟩ := HB.out lit _ (List.getElem_mem hlt)
      obtain ⟨q, hq⟩ : ∃ q : Nat, (s.at_ lit)[k] = (q : Int) := ⟨((s.at_ lit)[k]).toNat, by omega⟩
      have hhl := heldS_len s.held ((s.at_ lit).take k)
      have hqh : q < (heldS s.held ((s.at_ lit).take k)).length := by rw [hhl]; omega
      obtain ⟨gh, ch, rfl, hBh, hch, hfh, hsh⟩ := own_at Value.bool HS.out.1.rheld q hqh
      have c3 : wr.cell? ⟨U, 3, none⟩ = some (.slice (some ⟨gh, 0, none⟩) (heldS s.held ((s.at_ lit).take k)).length ch) := HS.out.1.blk.cell 3
      rw [hq] at hcell
      have HQ := Lib.hid hq
      have HSH := Lib.hid hsh
      have HHL := Lib.hid hhl
      clear hq hsv hhl hsh hq0 hq1
      go_wp2
      go_round
      case rel =>
        refine ⟨k + 1, by omega, by go_num, ?_, ?_⟩
        · have e : heldS s.held ((s.at_ lit).take (k + 1)) = (heldS s.held ((s.at_ lit).take k)).set q true := by
            rw [heldS_take _ _ _ hlt, HQ.out]; rfl
          rw [e]
          exact HS.out.1.setHeld (by have := HSH.out true; simpa using this)
        · exact HS.out.2.trans (.same ((Chg.set wr gh q _).mono fun i hi => ⟨_, hi ▸ HS.out.1.lheld gh rfl⟩))
      case measure => simp [intOf]; omega
    · obtain rfl : k = (s.at_ lit).length := by omega
      obtain ⟨hu2, ho2⟩ := HS.out
      rw [List.take_length] at hu2
      have H2 := Lib.hid hu2
      have c4' : wr.cell? ⟨U, 4, none⟩ = some (.map (some ma)) := hu2.blk.cell 4
      have hlk2 := hu2.mat.lookup (P := Tryd.prog) Tryd.underlying77 Tryd.underlying3 (zeroValue_ints wr) (-lit)
      have hrl := own_row (show wr.ownsRow B 3 1 ((atv (-lit)).getD (.slice none 0 0)) ((s.at_ (-lit)).map (Value.int .i64)).length ((s.at_ (-lit)).map (Value.int .i64)) by rw [List.length_map]; exact hu2.rat (-lit))
      rw [List.length_map] at hrl
      obtain ⟨A2, C2, hv2, hc2a, hc2b, -⟩ := hrl
      rw [hv2] at hlk2
      have HV2 := Lib.hid hv2
      clear hv2 hu2 ho2
      obtain ⟨wx, rfl⟩ : ∃ wx : World, wx = wr := ⟨_, rfl⟩
      have hl2 : lit ≤ 9223372036854775807 := hl.2
      go_wp2
      go_loopw [41] (fun i wr => ∃ k : Nat, k ≤ (s.at_ (-lit)).length ∧ i = .int .i64 k ∧ Hid (∃ lab' wv wait, wait.Perm (s.wait ++ (leftS s.left ((s.at_ (-lit)).take k)).2) ∧
        USt wr B lab' U mv ma fv lv hv wv atv { val := mset s.val (varOf lit) (.int .i64 lit), held := heldS s.held (s.at_ lit), left := (leftS s.left ((s.at_ (-lit)).take k)).1, at_ := s.at_, wait := wait } ∧ Own lab lab' w wr ∧ (∀ y ∈ (leftS s.left ((s.at_ (-lit)).take k)).1, -1000000 - (k : Int) ≤ y ∧ y ≤ 1000000))) (fun i _ => (s.at_ (-lit)).length - (intOf i).toNat)
      case atStart => exact ⟨0, Nat.zero_le _, rfl, lab, wv, s.wait, by simp [leftS], H2.out, HS.out.2, fun y hy => by have := HBD.out y (by simpa [leftS] using hy); omega⟩
      case round =>
        obtain ⟨k, hk, rfl, HS2⟩ := hrel
        by_cases hlt : k < (s.at_ (-lit)).length
        · obtain ⟨lab2, wv2, wait2, hperm, hus, hown, hyb⟩ := HS2.out
          obtain ⟨g, c, hsv, -, hcell, -, -⟩ := own_at (Value.int .i64) (hus.rat (-lit)) k hlt
          have hsv' := HV2.out.symm.trans hsv
          cases hsv'
          obtain ⟨hq0, hq1⟩ := HB.out (-lit) _ (List.getElem_mem hlt)
          obtain ⟨q, hq⟩ : ∃ q : Nat, (s.at_ (-lit))[k] = (q : Int) := ⟨((s.at_ (-lit))[k]).toNat, by omega⟩
          have htk := leftS_take s.left (s.at_ (-lit)) k hlt
          rw [hq] at htk hcell
          have hll := leftS_len s.left ((s.at_ (-lit)).take k)
          obtain ⟨⟨L, pushed⟩, hLp⟩ : ∃ p, p = leftS s.left ((s.at_ (-lit)).take k) := ⟨_, rfl⟩
          rw [← hLp] at hll htk hyb hus hperm
          dsimp only at hll htk hyb hus hperm
          have hql : q < L.length := by rw [hll, HL.out]; omega
          obtain ⟨gl, cl, rfl, hBl, hcl, hfl, hsl⟩ := own_at (Value.int .i64) hus.rleft q hql
          have c2 : wr.cell? ⟨U, 2, none⟩ = some (.slice (some ⟨gl, 0, none⟩) L.length cl) := hus.blk.cell 2
          obtain ⟨hx0, hx1⟩ := hyb _ (List.getElem_mem hql)
          obtain ⟨x, hx⟩ : ∃ x, x = L[q] := ⟨_, rfl⟩
          rw [← hx] at hcl hx0 hx1
          have hkl := HAT.out (-lit)
          have hx2 : -3000000 ≤ x := by omega
          clear hx0
          have hus2 := hus.setLeft (i := q) (b := L.set q (x - 1)) (x := .int .i64 (x - 1)) (by have := hsl (x - 1); simpa using this)
          have c2b : (wr.setCell ⟨gl, q, none⟩ (.int .i64 (x - 1))).cell? ⟨U, 2, none⟩ = some (.slice (some ⟨gl, 0, none⟩) L.length cl) := hus2.blk.cell 2
          have hstep : leftStep (L, pushed) (q : Int) = (L.set q (x - 1), if x - 1 = 1 then pushed ++ [(q : Int)] else pushed) := by
            unfold leftStep
            simp [hx, hql]
          rw [hstep] at htk
          have hBU : B ≤ (wr.setCell ⟨gl, q, none⟩ (.int .i64 (x - 1))).heap.size := Nat.le_trans (hus2.low _ _ hus2.lU).1 (Nat.le_of_lt (hus2.low _ _ hus2.lU).2)
          have hwl2 : wait2.length ≤ 100000000 := by
            have h1 := hperm.length_eq
            have h2 := leftS_pushed s.left ((s.at_ (-lit)).take k)
            rw [← hLp, List.length_take] at h2
            dsimp only at h2
            have h3 := HWL.out
            rw [List.length_append] at h1
            omega
          have HP := Lib.hid (heapPush_any U 5 81 _ B wv2 wait2 (q : Int) (wr.setCell ⟨gl, q, none⟩ (.int .i64 (x - 1))) hus2.blk (by decide) rfl hus2.rwait hBU hwl2 hus2.heap)
          have HU2 := Lib.hid hus2
          have HTK := Lib.hid htk
          have HOWN := Lib.hid (hown.trans (.same ((Chg.set wr gl q (.int .i64 (x - 1))).mono fun i hi => ⟨_, hi ▸ hus.lleft gl rfl⟩)))
          have HYB := Lib.hid hyb
          have HPERM := Lib.hid hperm
          have HX := Lib.hid hx
          clear hsv hq0 hq1 hq hll hus hperm hown hyb hsl hus2 hstep htk hx hLp hBU hwl2
          by_cases hx3 : x - 1 = 1
          · have hxb : (x - 1 == 1) = true := by simpa using hx3
            have HX3 := Lib.hid hx3
            clear hx3
            go_wp2_with (go_at_call 68; refine HP.out.mono ?_; rintro e w2 hp; obtain ⟨lab3, wv3, ys, rfl, hyp, hu3, ho3⟩ := HU2.out.push hp; have HYP := Lib.hid hyp; have HU3 := Lib.hid hu3; have HO3 := Lib.hid ho3; clear hyp hu3 ho3 hp)
            go_round
            case rel =>
              refine ⟨k + 1, by omega, by go_num, lab3, wv3, ys, ?_, ?_, HOWN.out.trans HO3.out, ?_⟩
              · rw [HTK.out, if_pos HX3.out]
                refine HYP.out.trans ?_
                have := HPERM.out.append_right [(q : Int)]
                simpa using this
              · rw [HTK.out]; exact HU3.out
              · rw [HTK.out]
                exact left_bd HYB.out hx1 hx2 HX.out
            case measure => simp [intOf]; omega
          · have hxb : (x - 1 == 1) = false := by simpa using hx3
            have HX3 := Lib.hid hx3
            clear hx3
            go_wp2
            go_round
            case rel =>
              refine ⟨k + 1, by omega, by go_num, lab2, wv2, wait2, ?_, ?_, HOWN.out, ?_⟩
              · rw [HTK.out, if_neg HX3.out]; exact HPERM.out
              · rw [HTK.out]; exact HU2.out
              · rw [HTK.out]
                exact left_bd HYB.out hx1 hx2 HX.out
            case measure => simp [intOf]; omega
        · obtain rfl : k = (s.at_ (-lit)).length := by omega
          go_wp2
          go_end0
          obtain ⟨lab2, wv2, wait2, hperm, hus, hown, hyb⟩ := HS2.out
          rw [List.take_length] at hperm hus
          exact ⟨lab2, wv2, wait2, rfl, hperm, hus, hown⟩

end Go.Proofs.YteokoaggkpjdeaaDoor
