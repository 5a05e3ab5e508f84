/- The walk of asg.Units. -/
import Derived.Test.YteokoaggkpjdeaaDoorUnitStep
import Derived.Deep.CutRange
namespace Go.Proofs.YteokoaggkpjdeaaDoor
open Go.RowKit

theorem info_bool : (Tryd.prog.info? 4).map (fun i => (i.zero, i.size, i.bytes)) = some (some (.bool false), 1, 1) := by kernel_rfl
theorem info_step : (Tryd.prog.info? 55).map (fun i => (i.zero, i.size, i.bytes)) = some (some (.agg #[.int .i64 0, .int .i64 0]), 2, 16) := by kernel_rfl
theorem zeroValue_int (w : World) : (zeroValue 3).run Tryd.prog w = .ok (.int .i64 0) w := by kernel_rfl
theorem fv_units1 : Fv Tryd.prog 72 := ⟨_, Tryd.func72, by kernel_rfl, by kernel_rfl⟩

set_option maxHeartbeats 400000 in
theorem units_fn (pu U mv : Nat) (c0 c2 c3 c4 c5 : Value) (val : Int → Option Value) (x : Int) (hx : I64 x) (w : World) (hp : w.cell? ⟨pu, 0, none⟩ = some (.pointer (some ⟨U, 0, none⟩)))
    (hU : Blk w U 81 [c0, .map (some mv), c2, c3, c4, c5]) (hm : MapAt w mv val) (hv : val (varOf x) = none ∨ ∃ y, y ≠ 0 ∧ val (varOf x) = some (.int .i64 y)) :
    Calls Tryd.prog 72 #[.int .i64 x, .pointer (some ⟨pu, 0, none⟩)] w fun e w' => e = .returned (.bool (val (varOf x)).isNone) ∧ ∃ n, w' = w.drewN n := by
  have c1 : w.cell? ⟨U, 1, none⟩ = some (.map (some mv)) := hU.cell 1
  obtain ⟨y, b, hy, hb, hv'⟩ : ∃ (y : Int) (b : Bool), (y == 0) = b ∧ (val (varOf x)).isNone = b ∧ (val (varOf x)).getD (.int .i64 0) = .int .i64 y := by
    rcases hv with h | ⟨y, hy, h⟩
    · exact ⟨0, true, rfl, by rw [h]; rfl, by rw [h]; rfl⟩
    · exact ⟨y, false, by simpa using hy, by rw [h]; rfl, by rw [h]; rfl⟩
  have hlk : ∀ n, (Instr.lookup 76 (.map (some mv)) (.int .i64 (varOf x)) false).run Tryd.prog (w.drewN n) = .ok (.int .i64 y) (w.drewN n) := fun n => by
    have := (hm.ext (Ext.drewN w n)).lookup (P := Tryd.prog) Tryd.underlying76 Tryd.underlying3 (zeroValue_int _) (varOf x)
    rwa [hv'] at this
  have HB := Lib.hid hb
  clear hU hm hv hv' hb
  go_enter Tryd.func72, Tryd.ntmps72
  go_wp2
  go_quiet ((go_at_call 57; exact quiet_same (var_any _ hx _)))
  go_wp2
  go_ret
  exact ⟨ret_bool HB.out.symm, _, rfl⟩

def PostUnits (w : World) (r : List (Int × Int)) (c e : Int) (en : Ending) (w' : World) : Prop :=
  ∃ v, en = .returned (.tuple #[v, .int .i64 c, .int .i64 e]) ∧ w'.ownsRow w.heap.size 55 2 v r.length (stepsV r) ∧ Ext w w'

set_option maxRecDepth 100000 in
set_option maxHeartbeats 4000000 in
theorem units_arg (f : List (List Int)) (xs : List Int) (v u : Value) (w : World) (h64 : All64 xs) (k64 : All64L f) (hr : RI w v xs) (kr : RLL w u f) (ht : f.length ≤ 20000 → total f ≤ 9223372036854775807)
    (hbad : mayB xs = false ∨ mayCnfB f = false) :
    Calls Tryd.prog 34 #[u, v] w (PostUnits w [] (-1) 2) := by
  have HL := Lib.hid (may_any _ xs _ hr h64)
  have KL := Lib.hid (fun w' (h : Ext w w') => mayCnf_any _ f w' (kr.ext' h) k64 ht)
  cases hm : mayB xs
  · rw [hm] at HL
    clear hm hbad
    go_enter Tryd.func34, Tryd.ntmps34
    go_wp2_with (go_at_call 43; refine HL.out.mono ?_; rintro e w' ⟨rfl, rfl⟩)
    go_ret3
    exact ⟨_, rfl, World.ownsRow_nil w _ _ 2, Ext.refl _⟩
  · have hk : mayCnfB f = false := by rcases hbad with h | h <;> simp_all
    rw [hk] at KL
    rw [hm] at HL
    clear hm hbad hk
    go_enter Tryd.func34, Tryd.ntmps34
    go_wp2_with (first
      | (go_at_call 43; refine HL.out.mono ?_; rintro e w' ⟨rfl, rfl⟩)
      | (go_at_call 44; refine (KL.out _ (Ext.refl _)).mono ?_; rintro e w' ⟨rfl, hE⟩))
    go_ret3
    exact ⟨_, rfl, World.ownsRow_nil w' _ _ 2, hE⟩

/-- While the unit is made. -/
def UP1 (w0 : World) (U pu mv ma : Nat) (fv hv : Value) (f : List (List Int)) (n : Nat) (left : List Int) (atx : Int → List Int) (wr : World) : Prop :=
  ∃ lab lv wv atv wait, USt wr w0.heap.size lab U mv ma fv lv hv wv atv { unit0 f n wait with left := left, at_ := atx } ∧ wait.Perm (shortN f n) ∧ UK w0 U pu lab wr

theorem unit_init (f : List (List Int)) (w w1 w2 : World) (fv : Value) (n H : Nat) (hE : Ext w w1) (hH : H = w1.heap.size + 1 + 1) (hn : n = f.length)
    (hown : w2.ownsRow w.heap.size 4 1 (.slice (some ⟨H, 0, none⟩) n n) n (madeCells (Value.bool false).cells (n * 1)).toList)
    (hg : ((w1.alloc (.map #[] 0)).alloc (.map #[] 0)).grownBy w2 none) (hlt : H < w2.heap.size) :
    UP1 w w2.heap.size (w2.heap.size + 1) w1.heap.size (w1.heap.size + 1) fv (.slice (some ⟨H, 0, none⟩) n n) f 0 [] (fun _ => [])
      ((w2.alloc (.cells #[fv, .map (some w1.heap.size), .slice none 0 0, .slice (some ⟨H, 0, none⟩) n n, .map (some (w1.heap.size + 1)), .slice none 0 0] 81)).alloc (.cells #[.pointer (some ⟨w2.heap.size, 0, none⟩)] 75)) := by
  subst hn
  have e1 : Ext ((w1.alloc (.map #[] 0)).alloc (.map #[] 0)) w2 := (Ext.refl _).grown hg (fun k hk => by cases hk)
  have e2 := (Ext.alloc w2 (.cells #[fv, .map (some w1.heap.size), .slice none 0 0, .slice (some ⟨H, 0, none⟩) f.length f.length, .map (some (w1.heap.size + 1)), .slice none 0 0] 81)).trans (Ext.alloc _ (.cells #[.pointer (some ⟨w2.heap.size, 0, none⟩)] 75))
  have hU : Blk (w2.alloc (.cells #[fv, .map (some w1.heap.size), .slice none 0 0, .slice (some ⟨H, 0, none⟩) f.length f.length, .map (some (w1.heap.size + 1)), .slice none 0 0] 81)) w2.heap.size 81
    [fv, .map (some w1.heap.size), .slice none 0 0, .slice (some ⟨H, 0, none⟩) f.length f.length, .map (some (w1.heap.size + 1)), .slice none 0 0] := Blk.new w2 _ _
  have m1 : MapAt w2 w1.heap.size (fun _ => none) := ((MapAt.new w1).ext (Ext.alloc _ _)).ext e1
  have m2 : MapAt w2 (w1.heap.size + 1) (fun _ => none) := by
    have := (MapAt.new (w1.alloc (.map #[] 0))).ext e1
    simpa using this
  have hrow : w2.ownsRow w.heap.size 4 1 (.slice (some ⟨H, 0, none⟩) f.length f.length) (List.replicate f.length false).length ((List.replicate f.length false).map Value.bool) := by
    rw [List.length_replicate, List.map_replicate, ← toList_madeCells_one]
    rw [Nat.mul_one] at hown
    exact hown
  have hs1 := e1.size
  simp at hs1
  have hs0 := hE.size
  have hs2 := e2.size
  refine ⟨fun k => if k = w2.heap.size then some .u else if k = w1.heap.size then some .mv else if k = w1.heap.size + 1 then some .ma else if k = H then some .held else none,
    .slice none 0 0, .slice none 0 0, fun _ => none, [], ⟨hU.ext (Ext.alloc _ _), m1.ext e2, m2.ext e2, World.ownsRow_nil _ _ _ 1, own_ext hrow e2, World.ownsRow_nil _ _ _ 1, fun x => World.ownsRow_nil _ _ _ 1, fun k _ hk => absurd hk (by simp [unit0]), ?_, ?_, ?_, ?_, ?_, ?_, ?_, ?_⟩,
    by simp [shortN], ⟨?_, ?_, ?_, ?_, ?_⟩⟩
  · simp
  · rw [if_neg (by omega), if_pos rfl]
  · rw [if_neg (by omega), if_neg (by omega), if_pos rfl]
  · intro k hk; simp [Value.ownBlock] at hk
  · intro k hk; simp [Value.ownBlock] at hk; subst hk; rw [if_neg (by omega), if_neg (by omega), if_neg (by omega), if_pos rfl]
  · intro k hk; simp [Value.ownBlock] at hk
  · intro x k hk; simp [Value.ownBlock] at hk
  · intro k c hk
    simp at hs2
    simp
    try dsimp only at hk
    split at hk
    · omega
    · split at hk
      · omega
      · split at hk
        · omega
        · split at hk
          · omega
          · cases hk
  · exact ((hE.trans ((Ext.alloc w1 _).trans (Ext.alloc _ _))).trans e1).trans e2
  · simp
  · rw [if_neg (by omega), if_neg (by omega), if_neg (by omega), if_neg (by omega)]
  · simp
  · intro k c hk
    try dsimp only at hk
    split at hk
    · omega
    · split at hk
      · omega
      · split at hk
        · omega
        · split at hk
          · omega
          · cases hk

theorem USt.appendLeft {w w1 : World} {B : Nat} {lab : Nat → Option Lab} {U mv ma : Nat} {fv hv wv : Value} {atv : Int → Option Value} {s : Unit1} {A : Option Addr} {n lc g cap : Nat} (x : Int)
    (h : USt w B lab U mv ma fv (.slice A n lc) hv wv atv s)
    (hown : w1.ownsRow B 3 1 (.slice (some ⟨g, 0, none⟩) (s.left.length + 1) cap) (s.left.length + 1) (s.left.map (Value.int .i64) ++ [.int .i64 x]))
    (hgr : Chg (fun i => some i = (Value.slice A n lc).ownBlock) w w1) (hat : (Value.slice A n lc).ownBlock = some g ∨ w.heap.size ≤ g) :
    ∃ lab', USt (w1.setCell ⟨U, 2, none⟩ (.slice (some ⟨g, 0, none⟩) (s.left.length + 1) cap)) B lab' U mv ma fv (.slice (some ⟨g, 0, none⟩) (s.left.length + 1) cap) hv wv atv { s with left := s.left ++ [x] } ∧
      Own lab lab' w (w1.setCell ⟨U, 2, none⟩ (.slice (some ⟨g, 0, none⟩) (s.left.length + 1) cap)) := by
  have hb1 := hgr.blk h.blk (own_blk_ne h.blk h.rleft (by decide))
  have hne := own_blk_ne hb1 hown (by decide)
  have ht := own_typed hown rfl
  have hc := Chg.set w1 U 2 (.slice (some ⟨g, 0, none⟩) (s.left.length + 1) cap)
  refine h.newLeft ((hgr.mono fun _ h => .inr h).trans (hc.mono fun _ h => .inl h)) (hb1.set 2 _) ?_ rfl hat ht.1 (Nat.lt_of_lt_of_le ht.2.1 hc.size)
  have := hc.own hown (fun k hk he => hne (he ▸ hk.symm))
  rw [List.map_append, List.length_append]
  exact this

theorem USt.appendAt {w w1 w2 : World} {B : Nat} {lab : Nat → Option Lab} {U mv ma : Nat} {fv lv hv wv : Value} {atv : Int → Option Value} {s : Unit1} {A : Option Addr} {n lc g cap : Nat} (x i : Int)
    (h : USt w B lab U mv ma fv lv hv wv atv s) (he : (atv x).getD (.slice none 0 0) = .slice A n lc)
    (hown : w1.ownsRow B 3 1 (.slice (some ⟨g, 0, none⟩) ((s.at_ x).length + 1) cap) ((s.at_ x).length + 1) ((s.at_ x).map (Value.int .i64) ++ [.int .i64 i]))
    (hgr : Chg (fun i => some i = (Value.slice A n lc).ownBlock) w w1) (hat : (Value.slice A n lc).ownBlock = some g ∨ w.heap.size ≤ g)
    (hc2 : Chg (fun i => i = ma) w1 w2) (hm : MapAt w2 ma (mset atv x (.slice (some ⟨g, 0, none⟩) ((s.at_ x).length + 1) cap))) :
    ∃ lab', USt w2 B lab' U mv ma fv lv hv wv (mset atv x (.slice (some ⟨g, 0, none⟩) ((s.at_ x).length + 1) cap)) { s with at_ := fun y => if y = x then s.at_ x ++ [i] else s.at_ y } ∧ Own lab lab' w w2 := by
  have ht := own_typed hown rfl
  refine h.newAt (x := x) (by rw [he]; exact hgr) ?_ rfl (by rw [he]; exact hat) ht.1 ht.2.1 hc2 hm
  rw [List.map_append, List.length_append]
  exact hown

theorem USt.leftAt {w w1 : World} {B : Nat} {lab : Nat → Option Lab} {U mv ma : Nat} {fv lv hv wv : Value} {atv : Int → Option Value} {s : Unit1}
    (h : USt w B lab U mv ma fv lv hv wv atv s) (hgr : Chg (fun i => some i = lv.ownBlock) w w1) : w1.cell? ⟨U, 2, none⟩ = some lv ∧ w1.frozen? ⟨U, 2, none⟩ = false := by
  have hb1 := hgr.blk h.blk (own_blk_ne h.blk h.rleft (by decide))
  exact ⟨hb1.cell 2, hb1.free 2⟩
theorem USt.leftPu {w w1 w0 : World} {B pu : Nat} {lab : Nat → Option Lab} {U mv ma : Nat} {fv lv hv wv : Value} {atv : Int → Option Value} {s : Unit1}
    (h : USt w B lab U mv ma fv lv hv wv atv s) (hgr : Chg (fun i => some i = lv.ownBlock) w w1) (k : UK w0 U pu lab w) : w1.cell? ⟨pu, 0, none⟩ = some (.pointer (some ⟨U, 0, none⟩)) := by
  rw [World.cell?, hgr.block pu k.pus (fun e => by have := h.lleft pu e.symm; rw [k.pul] at this; cases this)]
  exact k.cell
theorem huk0 {w0 wr : World} {U pu : Nat} {lab : Nat → Option Lab} (h : UK w0 U pu lab wr) : w0.heap.size ≤ wr.heap.size := h.ext.size

/-- What a round reads of the unit. -/
theorem UP1.opened {w0 : World} {U pu mv ma : Nat} {fv hv : Value} {f : List (List Int)} {n : Nat} {left : List Int} {atx : Int → List Int} {wr : World} (h : UP1 w0 U pu mv ma fv hv f n left atx wr) :
    ∃ lab A lc wv atv wait, USt wr w0.heap.size lab U mv ma fv (.slice A left.length lc) hv wv atv { unit0 f n wait with left := left, at_ := atx } ∧ wait.Perm (shortN f n) ∧ UK w0 U pu lab wr := by
  obtain ⟨lab, lv, wv, atv, wait, h1, h2, h3⟩ := h
  obtain ⟨A, c, he, -⟩ := own_row (show wr.ownsRow w0.heap.size 3 1 lv (left.map (Value.int .i64)).length (left.map (Value.int .i64)) by rw [List.length_map]; exact h1.rleft)
  rw [List.length_map] at he
  subst he
  exact ⟨lab, A, c, wv, atv, wait, h1, h2, h3⟩

theorem UP1.left {w0 w w1 : World} {U pu mv ma : Nat} {fv hv wv : Value} {f : List (List Int)} {n : Nat} {L : List Int} {atx : Int → List Int} {lab : Nat → Option Lab} {atv : Int → Option Value} {wait : List Int} {A : Option Addr} {m lc g cap : Nat} (x : Int)
    (h : USt w w0.heap.size lab U mv ma fv (.slice A m lc) hv wv atv { unit0 f n wait with left := L, at_ := atx }) (hp : wait.Perm (shortN f n)) (hk : UK w0 U pu lab w)
    (hown : w1.ownsRow w0.heap.size 3 1 (.slice (some ⟨g, 0, none⟩) (L.length + 1) cap) (L.length + 1) (L.map (Value.int .i64) ++ [.int .i64 x]))
    (hgr : Chg (fun i => some i = (Value.slice A m lc).ownBlock) w w1) (hat : (Value.slice A m lc).ownBlock = some g ∨ g = w.heap.size + 1) :
    UP1 w0 U pu mv ma fv hv f n (L ++ [x]) atx (w1.setCell ⟨U, 2, none⟩ (.slice (some ⟨g, 0, none⟩) (L.length + 1) cap)) := by
  obtain ⟨lab', h1, h2⟩ := h.appendLeft (s := { unit0 f n wait with left := L, at_ := atx }) x hown hgr (hat.imp id fun h => by omega)
  exact ⟨lab', _, _, _, wait, h1, hp, hk.own h2⟩

theorem UP1.at {w0 w w1 w2 : World} {U pu mv ma : Nat} {fv lv hv wv : Value} {f : List (List Int)} {n : Nat} {L : List Int} {atx : Int → List Int} {lab : Nat → Option Lab} {atv : Int → Option Value} {wait : List Int} {A : Option Addr} {m lc g cap : Nat} (x i : Int)
    (h : USt w w0.heap.size lab U mv ma fv lv hv wv atv { unit0 f n wait with left := L, at_ := atx }) (hp : wait.Perm (shortN f n)) (hk : UK w0 U pu lab w) (he : (atv x).getD (.slice none 0 0) = .slice A m lc)
    (hown : w1.ownsRow w0.heap.size 3 1 (.slice (some ⟨g, 0, none⟩) ((atx x).length + 1) cap) ((atx x).length + 1) ((atx x).map (Value.int .i64) ++ [.int .i64 i]))
    (hgr : Chg (fun i => some i = (Value.slice A m lc).ownBlock) w w1) (hat : (Value.slice A m lc).ownBlock = some g ∨ g = w.heap.size + 1)
    (hc2 : Chg (fun i => i = ma) w1 w2) (hm : MapAt w2 ma (mset atv x (.slice (some ⟨g, 0, none⟩) ((atx x).length + 1) cap))) :
    UP1 w0 U pu mv ma fv hv f n L (fun y => if y = x then atx x ++ [i] else atx y) w2 := by
  obtain ⟨lab', h1, h2⟩ := h.appendAt (s := { unit0 f n wait with left := L, at_ := atx }) x i he hown hgr (hat.imp id fun h => by omega) hc2 hm
  exact ⟨lab', _, _, _, wait, h1, hp, hk.own h2⟩

theorem USt.atFacts {w w1 w0 : World} {B pu : Nat} {lab : Nat → Option Lab} {U mv ma : Nat} {fv lv hv wv : Value} {atv : Int → Option Value} {s : Unit1} {x : Int}
    (h : USt w B lab U mv ma fv lv hv wv atv s) (k : UK w0 U pu lab w) (hgr : Chg (fun i => some i = ((atv x).getD (.slice none 0 0)).ownBlock) w w1) :
    w1.cell? ⟨pu, 0, none⟩ = some (.pointer (some ⟨U, 0, none⟩)) ∧ w1.cell? ⟨U, 4, none⟩ = some (.map (some ma)) ∧ MapAt w1 ma atv := by
  have hn : ∀ g, (∀ c, lab g = some c → c ≠ .at_ x) → ¬ some g = ((atv x).getD (.slice none 0 0)).ownBlock := fun g hc e => hc _ (h.lat x g e.symm) rfl
  refine ⟨?_, (hgr.blk h.blk (hn U fun c hc e => by rw [h.lU] at hc; injection hc with hc; rw [← hc] at e; cases e)).cell 4, h.mat.keep hgr (hn ma fun c hc e => by rw [h.lma] at hc; injection hc with hc; rw [← hc] at e; cases e)⟩
  rw [World.cell?, hgr.block pu k.pus (hn pu fun c hc => by rw [k.pul] at hc; cases hc)]
  exact k.cell

theorem USt.ne_ma {w w0 : World} {B pu : Nat} {lab : Nat → Option Lab} {U mv ma : Nat} {fv lv hv wv : Value} {atv : Int → Option Value} {s : Unit1}
    (h : USt w B lab U mv ma fv lv hv wv atv s) (k : UK w0 U pu lab w) : pu ≠ ma ∧ U ≠ ma :=
  ⟨fun e => by (have := k.pul; rw [e, h.lma] at this; cases this), fun e => by (have := h.lU; rw [e, h.lma] at this; injection this with this; cases this)⟩

theorem USt.ne_u {w w0 : World} {B pu : Nat} {lab : Nat → Option Lab} {U mv ma : Nat} {fv lv hv wv : Value} {atv : Int → Option Value} {s : Unit1}
    (h : USt w B lab U mv ma fv lv hv wv atv s) (k : UK w0 U pu lab w) : ¬ pu = U := fun e => by have := k.pul; rw [e, h.lU] at this; cases this

theorem UP1.pushed {w0 w w' : World} {U pu mv ma : Nat} {fv lv hv wv : Value} {f : List (List Int)} {n : Nat} {L : List Int} {atx : Int → List Int} {lab : Nat → Option Lab} {atv : Int → Option Value} {wait : List Int} {e : Ending}
    (h : USt w w0.heap.size lab U mv ma fv lv hv wv atv { unit0 f n wait with left := L, at_ := atx }) (hp : wait.Perm (shortN f n)) (hk : UK w0 U pu lab w) (hn : n < f.length) (hs : f[n].length ≤ 1)
    (hpp : PostPush w U 5 81 [fv, .map (some mv), lv, hv, .map (some ma), wv] w0.heap.size wv wait n e w') :
    e = .returned (.tuple #[]) ∧ UP1 w0 U pu mv ma fv hv f (n + 1) L atx w' := by
  obtain ⟨lab', wv', ys, he, hperm, hu, ho⟩ := h.push hpp
  exact ⟨he, lab', lv, wv', atv, ys, hu, by rw [shortN_succ f n hn, if_pos hs]; exact hperm.trans (hp.append_right _), hk.own ho⟩
theorem UP1.unpushed {w0 w : World} {U pu mv ma : Nat} {fv hv : Value} {f : List (List Int)} {n : Nat} {L : List Int} {atx : Int → List Int} (h : UP1 w0 U pu mv ma fv hv f n L atx w) (hn : n < f.length) (hs : ¬ f[n].length ≤ 1) :
    UP1 w0 U pu mv ma fv hv f (n + 1) L atx w := by
  obtain ⟨lab, lv, wv, atv, wait, h1, h2, h3⟩ := h
  exact ⟨lab, lv, wv, atv, wait, h1, by rw [shortN_succ f n hn, if_neg hs, List.append_nil]; exact h2, h3⟩

theorem asc_take {xs : List Int} (h : Asc xs) {k : Nat} (hk : k < xs.length) : xs[k] ∉ xs.take k ∧ -xs[k] ∉ xs.take k := by
  have hno : ∀ y ∈ xs.take k, varOf y ≠ varOf xs[k] := fun y hy => by
    obtain ⟨j, hj, rfl⟩ := List.mem_iff_getElem.1 hy
    rw [List.length_take] at hj
    rw [List.getElem_take]
    have := h.lt j k (by omega) hk
    omega
  exact ⟨fun hm => hno _ hm rfl, fun hm => hno _ hm (varOf_neg _)⟩

set_option maxRecDepth 100000 in
set_option maxHeartbeats 20000000 in
theorem units_good (f : List (List Int)) (xs : List Int) (v u : Value) (w : World) (h64 : All64 xs) (k64 : All64L f) (hr : RI w v xs) (kr : RLL w u f) (ht : f.length ≤ 20000 → total f ≤ 9223372036854775807)
    (hm : mayB xs = true) (hf : mayCnfB f = true) :
    Calls Tryd.prog 34 #[u, v] w (PostUnits w (unitsL f (f.length + 1) xs).1 (unitsL f (f.length + 1) xs).2 0) := by
  have HL := Lib.hid (may_any _ xs _ hr h64)
  have KL := Lib.hid (mayCnf_any _ f w kr k64 ht)
  rw [hf] at KL
  rw [hm] at HL
  have HF := Lib.hid hf
  have HM := Lib.hid hm
  have hmm := @run_makeMap Tryd.prog
  have hfl := mayCnfB_len hf
  clear hm hf
  obtain ⟨A, c, rfl, h1, h2, h3⟩ := hr
  obtain ⟨B, d, vs, rfl, k1, k2, k3, k4, k5⟩ := kr
  obtain ⟨i0, hi, hz0, hz1, hz2⟩ := info_parts info_bool
  have H3 := Lib.hid h3
  have K3 := Lib.hid k3
  have K4 := Lib.hid k4
  have K5 := Lib.hid k5
  have HI := Lib.hid hi
  have HZ := Lib.hid hz0
  have HZ1 := Lib.hid hz1
  have HZ2 := Lib.hid hz2
  rw [← k4] at hfl
  clear h3 k3 k4 k5 ht hi hz0 hz1 hz2
  go_enter Tryd.func34, Tryd.ntmps34
  go_wp2_with (first
    | (go_at_call 43; refine HL.out.mono ?_; rintro e w' ⟨rfl, rfl⟩)
    | (go_at_call 44; refine KL.out.mono ?_; rintro e w1 ⟨rfl, hE1⟩; have HE1 := Lib.hid hE1; clear hE1)
    | ((with_reducible refine at_dst 29 rfl ?_); refine wpList_make_full _ rfl (.tmp 28) (.tmp 28) 78 rfl w.heap.size 4 i0 (.bool false) 1 Tryd.underlying78 HI.out HZ.out HZ1.out .i64 .i64 _ _ vs.length rfl rfl rfl rfl (by rw [HZ2.out]; omega) (by unfold maxLen; omega) ?hb ?_
       case hb => have := HE1.out.size; simp; omega
       intro w2 hown hg
       rw [show ((w1.alloc (.map #[] 0)).alloc (.map #[] 0)).heap.size = w1.heap.size + 1 + 1 by simp] at hown
       have HOWN := Lib.hid hown
       have HG := Lib.hid hg
       clear hown hg))
  have hH2 : w1.heap.size + 1 + 1 < w2.heap.size := (own_typed HOWN.out rfl).2.1
  have HUP : Hid (UP1 w w2.heap.size (w2.heap.size + 1) w1.heap.size (w1.heap.size + 1) (.slice B vs.length d) (.slice (some ⟨w1.heap.size + 1 + 1, 0, none⟩) vs.length vs.length) f 0 [] (fun _ => [])
      ((w2.alloc (.cells #[.slice B vs.length d, .map (some w1.heap.size), .slice none 0 0, .slice (some ⟨w1.heap.size + 1 + 1, 0, none⟩) vs.length vs.length, .map (some (w1.heap.size + 1)), .slice none 0 0] 81)).alloc (.cells #[.pointer (some ⟨w2.heap.size, 0, none⟩)] 75))) :=
    Lib.hid (unit_init f w w1 w2 _ _ _ HE1.out rfl K4.out HOWN.out HG.out hH2)
  clear hH2
  clear HOWN HG HI HZ HZ1 HZ2
  obtain ⟨j0, hj, hy0, hy1, hy2⟩ := info_parts info_int
  have HJ := Lib.hid hj
  have HY := Lib.hid hy0
  have HY1 := Lib.hid hy1
  have HY2 := Lib.hid hy2
  clear hj hy0 hy1 hy2
  have HE2 := HUP.out.opened
  generalize (w2.alloc (.cells #[.slice B vs.length d, .map (some w1.heap.size), .slice none 0 0, .slice (some ⟨w1.heap.size + 1 + 1, 0, none⟩) vs.length vs.length, .map (some (w1.heap.size + 1)), .slice none 0 0] 81)).alloc (.cells #[.pointer (some ⟨w2.heap.size, 0, none⟩)] 75) = w3 at HUP ⊢
  clear HE2
  generalize w2.heap.size + 1 = pu at HUP ⊢
  generalize w2.heap.size = U at HUP ⊢
  generalize w1.heap.size + 1 + 1 = hb at HUP ⊢
  generalize w1.heap.size + 1 = ma at HUP ⊢
  generalize w1.heap.size = mv at HUP ⊢
  clear w2 HE1 
  go_loopg [34] vs.length (fun gn i wr => ∃ k : Nat, k ≤ vs.length ∧ gn + k = vs.length ∧ i = .int .i64 k ∧ Hid (UP1 w U pu mv ma (.slice B vs.length d) (.slice (some ⟨hb, 0, none⟩) vs.length vs.length) f k ((f.take k).map fun c => (c.length : Int)) (atN f k) wr))
  case atStart => exact ⟨0, Nat.zero_le _, rfl, rfl, HUP⟩
  case round =>
    obtain ⟨k, hk, hgk, rfl, HS⟩ := hrel
    by_cases hlt : k < vs.length
    · have hkf : k < f.length := by rw [← K4.out]; exact hlt
      obtain ⟨L, hL⟩ : ∃ L : List Int, L = (f.take k).map fun c => (c.length : Int) := ⟨_, rfl⟩
      rw [← hL] at HS
      have HLL := Lib.hid hL
      have HL1 : Hid (L ++ [(f[k].length : Int)] = (f.take (k + 1)).map fun c => (c.length : Int)) := Lib.hid (by rw [hL, List.take_succ_eq_append_getElem hkf, List.map_append]; rfl)
      clear hL
      obtain ⟨lab, LA, lc, wv, atv, wait, hus, hperm, huk⟩ := HS.out.opened
      have c2 : wr.cell? ⟨U, 2, none⟩ = some (.slice LA L.length lc) := hus.blk.cell 2
      have cp := huk.cell
      obtain ⟨ad, rfl, hvk⟩ := (K3.out.ext huk.ext) k hlt
      have HKR := Lib.hid ((K5.out k hlt hkf).ext huk.ext)
      obtain ⟨CA, cc, hve, hcc1, hcc2, -⟩ := HKR.out
      rw [hve] at hvk
      have HVE := Lib.hid hve
      have HUS := Lib.hid hus
      have HUK := Lib.hid huk
      have HPM := Lib.hid hperm
      clear hus huk hve hperm HUP
      have hll : L.length ≤ 20000 := by rw [HLL.out, List.length_map, List.length_take]; omega
      go_upto_region 7 with fail
      go_cut [34] from 34 to 81 (fun s34 wx => s34 = .int .i64 k ∧ Hid (UP1 w U pu mv ma (.slice (some ad) vs.length d) (.slice (some ⟨hb, 0, none⟩) vs.length vs.length) f k ((f.take (k + 1)).map fun c => (c.length : Int)) (atN f k) wx))
      case first =>
        have c2b : (wr.alloc (.cells #[.int .i64 f[k].length] 3)).cell? ⟨U, 2, none⟩ = some (.slice LA L.length lc) := (Ext.alloc wr _).cell c2
        have cpb : (wr.alloc (.cells #[.int .i64 f[k].length] 3)).cell? ⟨pu, 0, none⟩ = some (.pointer (some ⟨U, 0, none⟩)) := (Ext.alloc wr _).cell cp
        have hsz := huk0 HUK.out
        go_region_law ((
          refine step_append_lies _ rfl (.tmp 43) (.tmp 46) 22 rfl w.heap.size 3 j0 (.int .i64 0) 1 8 Tryd.underlying22 HJ.out HY.out HY1.out HY2.out rfl (by decide) (.slice LA L.length lc) L.length (L.map (Value.int .i64)) rfl ?c1 ⟨wr.heap.size, 0, none⟩ 1 1 [.int .i64 f[k].length] rfl rfl ?c2 (by simp [Value.oneCell']) (by omega) (by unfold maxLen; omega) (by omega) (by simp; omega) (wr.heap.size + 1) (by simp) ?_
          case c1 => exact own_ext HUS.out.rleft ((Ext.alloc wr _).trans (Ext.drew _))
          case c2 => exact one_cell wr _ _
          intro g cap w1 hown hgrow hat hlt
          have HOWN := Lib.hid hown
          have HGR := Lib.hid ((((Ext.alloc wr _).trans (Ext.drew _)).chg _).trans (grown_chg hgrow))
          have HAT := Lib.hid hat
          have c3 := (HUS.out.leftAt HGR.out).1
          have f3 := (HUS.out.leftAt HGR.out).2
          have cp3 := (HUS.out.leftPu HGR.out HUK.out)
          have HD := Lib.hid (UP1.left f[k].length HUS.out HPM.out HUK.out hown HGR.out hat)
          rw [HL1.out] at HD
          clear hown hgrow hat hlt))
        all_goals (go_wp2; go_meet; exact ⟨rfl, HD⟩)
      case rest =>
      obtain ⟨rfl, HS1⟩ := hcut
      clear HUS HUK HPM c2 cp HS HLL hll HL1
      have hcl := (HKR.out)
      have hcl2 := may_len (mayCnfB_get HF.out k hkf)
      obtain ⟨-, -, -, -, -, hcrow⟩ := HKR.out
      have hkl : k < 20000 := by omega
      clear hcl hvk
      go_wp2_with fail
      go_loopg [52] f[k].length (fun gn j wr => ∃ m : Nat, m ≤ f[k].length ∧ gn + m = f[k].length ∧ j = .int .i64 m ∧ Hid (UP1 w U pu mv ma (.slice (some ad) vs.length d) (.slice (some ⟨hb, 0, none⟩) vs.length vs.length) f k ((f.take (k + 1)).map fun c => (c.length : Int)) (atP f k m) wr))
      case atStart => exact ⟨0, Nat.zero_le _, by omega, rfl, by rw [show atP f k 0 = atN f k from funext fun x => atP_zero f k x]; exact HS1⟩
      case round =>
        obtain ⟨m, hm, hgm, rfl, HS⟩ := hrel
        by_cases hmt : m < f[k].length
        · obtain ⟨lab, lv, wv, atv, wait, hus, hperm, huk⟩ := HS.out
          obtain ⟨R, hR⟩ : ∃ R, RI wr vs[k] f[k] ∧ R = 0 := ⟨0, (K5.out k hlt hkf).ext huk.ext, rfl⟩
          obtain ⟨CA', cc', hve', -, -, hcr⟩ := hR.1
          have hv2 := HVE.out.symm.trans hve'
          cases hv2
          obtain ⟨ac, rfl, hxc⟩ := hcr.int m hmt
          have hrl := own_row (show wr.ownsRow w.heap.size 3 1 ((atv f[k][m]).getD (.slice none 0 0)) ((atP f k m f[k][m]).map (Value.int .i64)).length ((atP f k m f[k][m]).map (Value.int .i64)) by rw [List.length_map]; exact hus.rat f[k][m])
          rw [List.length_map] at hrl
          obtain ⟨A1, C1, hv1, -⟩ := hrl
          have hlk : ∀ w', Ext wr w' → (Instr.lookup 77 (.map (some ma)) (.int .i64 f[k][m]) false).run Tryd.prog w' = .ok (.slice A1 (atP f k m f[k][m]).length C1) w' := fun w' he => by
            have := (hus.mat.ext he).lookup (P := Tryd.prog) Tryd.underlying77 Tryd.underlying3 (zeroValue_ints w') f[k][m]
            rwa [hv1] at this
          have hl1 := hlk _ (Ext.drew wr)
          have hl2 := hlk _ ((Ext.alloc wr (.cells #[.int .i64 k] 3)).trans (Ext.drew _))
          have hl3 := hlk _ ((Ext.drew wr).trans (Ext.alloc _ (.cells #[.int .i64 k] 3)))
          have c4 : wr.cell? ⟨U, 4, none⟩ = some (.map (some ma)) := hus.blk.cell 4
          have c4b : (wr.alloc (.cells #[.int .i64 k] 3)).cell? ⟨U, 4, none⟩ = some (.map (some ma)) := (Ext.alloc wr _).cell c4
          have cp := huk.cell
          have cpb : (wr.alloc (.cells #[.int .i64 k] 3)).cell? ⟨pu, 0, none⟩ = some (.pointer (some ⟨U, 0, none⟩)) := (Ext.alloc wr _).cell cp
          have hsz := huk0 huk
          have hpl := atP_len f k m f[k][m]
          obtain ⟨P, hP⟩ : ∃ P, P = atP f k m f[k][m] := ⟨_, rfl⟩
          rw [← hP] at hl1 hl2 hl3 hpl
          have HP := Lib.hid hP
          have HUS := Lib.hid hus
          have HUK := Lib.hid huk
          have HPM := Lib.hid hperm
          have HV1 := Lib.hid hv1
          clear hus huk hperm HS hR hve' hcr hv1 hlk hP
          go_wp2_with fail
          go_region_held3 (fun w' => w'.cell? ⟨pu, 0, none⟩ = some (.pointer (some ⟨U, 0, none⟩)) ∧ w'.cell? ⟨U, 4, none⟩ = some (.map (some ma))) (first | exact ⟨cp, c4⟩ | exact ⟨cpb, c4b⟩ | exact ⟨cp3, c43⟩ | exact ⟨cpu, c4u⟩ | go_keep) (first | (
            refine step_append_lies _ rfl (.tmp 66) (.tmp 68) 22 rfl w.heap.size 3 j0 (.int .i64 0) 1 8 Tryd.underlying22 HJ.out HY.out HY1.out HY2.out rfl (by decide) (.slice A1 P.length C1) P.length (P.map (Value.int .i64)) rfl ?c1 ⟨wr.heap.size, 0, none⟩ 1 1 [.int .i64 k] rfl rfl ?c2 (by simp [Value.oneCell']) (by omega) (by unfold maxLen; omega) (by omega) (by simp; omega) (wr.heap.size + 1) (by simp) ?_
            case c1 => exact own_ext (by have := HUS.out.rat f[k][m]; rw [HV1.out] at this; rw [HP.out]; exact this) ((Ext.alloc wr _).trans (Ext.drew _))
            case c2 => exact one_cell wr _ _
            intro g cap w1 hown hgrow hat hlt
            have hGR := (((Ext.alloc wr _).trans (Ext.drew _)).chg _).trans (grown_chg hgrow)
            have hAF := HUS.out.atFacts (x := f[k][m]) HUK.out (by rw [HV1.out, ← HP.out]; exact hGR)
            have cp3 := hAF.1
            have c43 := hAF.2.1
            obtain ⟨wu, hrun, hmu, hcu⟩ := hAF.2.2.update (P := Tryd.prog) Tryd.underlying77 Tryd.underlying3 f[k][m] (.slice (some ⟨g, 0, none⟩) (P.length + 1) cap)
            have hUm := HUS.out.ne_ma HUK.out
            have cpu : wu.cell? ⟨pu, 0, none⟩ = some (.pointer (some ⟨U, 0, none⟩)) := (World.cell?_of_block (hcu.block pu (World.block_lt_of_cell? _ _ cp3) hUm.1)).trans cp3
            have c4u : wu.cell? ⟨U, 4, none⟩ = some (.map (some ma)) := (World.cell?_of_block (hcu.block U (World.block_lt_of_cell? _ _ c43) hUm.2)).trans c43
            rw [HP.out] at hown hGR hat hmu
            have HD := Lib.hid (UP1.at f[k][m] k HUS.out HPM.out HUK.out HV1.out hown hGR hat hcu hmu)
            clear hown hgrow hat hlt hAF hGR hmu hcu hUm))
          all_goals
            go_wp2
            go_roundg (f[k].length - (m + 1))
            case measure => omega
            case rel => exact ⟨m + 1, by omega, by omega, by go_num, by rw [← atP_succ hkf ((mayB_iff _).1 (mayCnfB_get HF.out k hkf)) hmt]; exact HD.out⟩
        · obtain rfl : m = f[k].length := by omega
          rw [show atP f k f[k].length = atN f (k + 1) from funext fun x => atP_full f k hkf x] at HS
          obtain ⟨wx, rfl⟩ : ∃ wx : World, wx = wr := ⟨_, rfl⟩
          by_cases hsh : f[k].length ≤ 1
          · obtain ⟨lab, lv, wv, atv, wait, hus, hperm, huk⟩ := HS.out
            have cp := huk.cell
            have hwl : wait.length ≤ 20000 := by have := hperm.length_eq; have := shortN_len f k; omega
            have HPU := Lib.hid ((heapPush_any U 5 81 _ w.heap.size wv wait (k : Int) wx hus.blk (by decide) rfl hus.rwait (huk0 huk) (by omega) hus.heap).mono fun e w' hp => UP1.pushed hus hperm huk hkf hsh hp)
            have hsh' : (f[k].length : Int) ≤ 1 := by omega
            clear hus hperm huk HS
            go_wp2_with (go_at_call 68; refine HPU.out.mono ?_; rintro e w2 ⟨rfl, hup⟩; have HUP := Lib.hid hup; clear hup)
            go_roundg (vs.length - (k + 1))
            case measure => omega
            case rel => exact ⟨k + 1, by omega, by omega, by go_num, HUP⟩
          · have HS' := Lib.hid (HS.out.unpushed hkf hsh)
            have hsh' : ¬ (f[k].length : Int) ≤ 1 := by omega
            clear HS
            go_wp2
            go_roundg (vs.length - (k + 1))
            case measure => omega
            case rel => exact ⟨k + 1, by omega, by omega, by go_num, HS'⟩
    · obtain rfl : k = vs.length := by omega
      obtain ⟨lab, lv, wv, atv, wait, hus, hperm, huk⟩ := HS.out
      rw [K4.out, List.take_length] at hus
      rw [K4.out] at hperm
      have hui := UI.init f wait hperm
      have hwt : todo (unit0 f f.length wait) ≤ 40000 := by
        have h1 := hui.wait_len
        have h2 := hperm.length_eq
        have h3 := shortN_len f f.length
        have h4 : (unit0 f f.length wait).wait.length = wait.length := rfl
        have h5 := K4.out
        omega
      rw [show { unit0 f f.length wait with left := f.map fun c => (c.length : Int), at_ := atN f f.length } = unit0 f f.length wait by unfold unit0; rw [List.take_length]] at hus
      have H2 : Hid (UP2 w U pu mv ma (.slice B f.length d) f [] none 40000 (.slice none 0 0) [] wr) := Lib.hid ⟨lab, lv, _, wv, atv, _, hus, hui, hwt, huk, World.ownsRow_nil _ _ _ 2, fun k hk => by simp [Value.ownBlock] at hk, fun hk => by simp [Value.ownBlock] at hk⟩
      obtain ⟨w3, rfl⟩ : ∃ w3 : World, w3 = wr := ⟨_, rfl⟩
      clear hus hperm huk hui hwt HS HUP
      go_wp2_with fail
      go_loopg [84] xs.length (fun gn i wr => ∃ k : Nat, k ≤ xs.length ∧ gn + k = xs.length ∧ i = .int .i64 k ∧ Hid (UP2 w U pu mv ma (.slice B f.length d) f (xs.take k) none 40000 (.slice none 0 0) [] wr))
      case atStart => exact ⟨0, Nat.zero_le _, by omega, rfl, H2⟩
      case round =>
        obtain ⟨k, hk, hgk, rfl, HS⟩ := hrel
        have hxa := (mayB_iff _).1 HM.out
        by_cases hkx : k < xs.length
        · obtain ⟨lab, lv, hv, wv, atv, s, hug⟩ := HS.out
          obtain ⟨ad, rfl, hxc⟩ := (H3.out.ext hug.uk.ext).int k hkx
          have hvk := hxa.2 _ (List.getElem_mem hkx)
          have hno := asc_take hxa hkx
          have HC := Lib.hid (hug.set_any HF.out xs[k] (by omega) hno.1 hno.2 (fun x hx => by have := hxa.2 x (List.mem_of_mem_take hx); omega) (fun i hi => by cases hi) (by omega))
          have cp := hug.uk.cell
          clear HS hug hno hxa
          go_wp2_with (go_at_call 69; refine HC.out.mono ?_; rintro e w2 ⟨rfl, hup⟩; rw [← List.take_succ_eq_append_getElem hkx] at hup; have HUP := Lib.hid hup; clear hup)
          go_roundg (xs.length - (k + 1))
          case measure => omega
          case rel => exact ⟨k + 1, by omega, by omega, by go_num, HUP⟩
        · obtain rfl : k = xs.length := by omega
          rw [List.take_length] at HS
          have HUS := Lib.hid (US.init (f := f) HM.out)
          obtain ⟨w4, rfl⟩ : ∃ w4 : World, w4 = wr := ⟨_, rfl⟩
          clear H2 hxa
          go_wp2_with fail
          go_loopg [4] 40000 (fun gn l wr => gn ≤ 40000 ∧ Hid (∃ st asg, US f xs st asg ∧ UP2 w U pu mv ma (.slice B f.length d) f asg none gn l st wr))
          case atStart => exact ⟨Nat.le_refl _, [], xs, HUS.out, HS.out⟩
          case round =>
            obtain ⟨hgn, HS⟩ := hrel
            obtain ⟨st, asg, hus, lab, lv, hv, wv, atv, s, hug⟩ := HS.out
            obtain ⟨LA, lc, rfl, -⟩ : ∃ A c, u4 = Value.slice A st.length c ∧ True := by
              obtain ⟨-, ⟨rfl, h0⟩ | ⟨g, c, cur, h1, -⟩⟩ := hug.row
              · exact ⟨none, 0, by rw [h0], trivial⟩
              · exact ⟨_, c, h1, trivial⟩
            have cp := hug.uk.cell
            by_cases h0 : s.wait.length = 0
            · have hres := hus.none (hug.ui.empty (List.length_eq_zero_iff.1 h0))
              have hrw := own_row (show wr.ownsRow w.heap.size 3 1 wv (s.wait.map (Value.int .i64)).length (s.wait.map (Value.int .i64)) by rw [List.length_map]; exact hug.us.rwait)
              rw [List.length_map] at hrw
              obtain ⟨WA, wc, rfl, -⟩ := hrw
              have c5 : wr.cell? ⟨U, 5, none⟩ = some (.slice WA s.wait.length wc) := hug.us.blk.cell 5
              rw [h0] at c5
              have HR := Lib.hid hres
              have HUG := Lib.hid hug
              clear hres hug hus HS
              go_wp2
              go_ret3
              rw [HR.out]
              exact ⟨_, rfl, HUG.out.row, HUG.out.uk.ext⟩
            · obtain ⟨wg, wc, rfl, hhp⟩ := hug.hp (by omega)
              have c5 : wr.cell? ⟨U, 5, none⟩ = some (.slice (some ⟨wg, 0, none⟩) s.wait.length wc) := hug.us.blk.cell 5
              have hwl : s.wait.length ≤ 40000 := by have := hug.todo; unfold todo at this; omega
              have HPO := Lib.hid ((heapPop_any U 5 81 _ wg wc s.wait wr hhp (by omega) (by omega) hug.us.heap).mono fun e w' hp => hug.pop hp)
              have h0' : (0 : Int) < (s.wait.length : Int) := by omega
              have HUS2 := Lib.hid hus
              clear hug hhp hus HS
              go_upto_region 23 with (go_at_call 70; refine HPO.out.mono ?_; rintro e w5 ⟨i, rfl, ys, wv', t', ht', hpo, hug⟩; have hta := ta_int (i : Int); have HPP := Lib.hid hpo; have HUG := Lib.hid hug; have HT := Lib.hid ht'; clear hug hpo ht')
              have hif := HPP.out.lt
              have hiv : i < vs.length := by rw [K4.out]; exact hif
              have cp5 := HUG.out.uk.cell
              obtain ⟨gh, ch, rfl, hch⟩ := HUG.out.held hif HPP.out.rest.heldL
              have c53 : w5.cell? ⟨U, 3, none⟩ = some (.slice (some ⟨gh, 0, none⟩) f.length ch) := HUG.out.us.blk.cell 3
              have hif' : (i : Int) < (f.length : Int) := by omega
              by_cases hh : s.held.getD i false = true
              · rw [hh] at hch
                have HN := Lib.hid (HPP.out.skip hh)
                clear hh
                go_wp2
                go_roundg t'
                case measure => have := HT.out; omega
                case rel => exact ⟨by have := HT.out; omega, st, asg, HUS2.out, _, _, _, _, _, _, ⟨HUG.out.us, HN.out, HUG.out.todo, HUG.out.uk, HUG.out.row, HUG.out.rowl, HUG.out.lpu⟩⟩
              · have hh' : s.held.getD i false = false := by simpa using hh
                rw [hh'] at hch
                obtain ⟨gl, cl, rfl, hcl⟩ := HUG.out.left hif HPP.out.rest.leftL
                have c52 : w5.cell? ⟨U, 2, none⟩ = some (.slice (some ⟨gl, 0, none⟩) f.length cl) := HUG.out.us.blk.cell 2
                have hlf : s.left.getD i 0 = ((openL asg f[i]).length : Int) := HPP.out.rest.left i hif
                have hhf : f[i].any asg.contains = false := by
                  have : s.held.getD i false = f[i].any asg.contains := HPP.out.rest.held i hif
                  rw [← this]; exact hh'
                have HD := Lib.hid (HPP.out.dec hh')
                have hle := HPP.out.left
                rw [hlf] at hcl hle
                have HHF := Lib.hid hhf
                clear hh hh' hlf hhf
                by_cases hno : (openL asg f[i]).length = 0
                · have HR := Lib.hid (HUS2.out.conf HD.out hif (List.length_eq_zero_iff.1 hno))
                  rw [hno] at hcl
                  clear hle
                  go_wp2
                  go_ret3
                  rw [HR.out]
                  exact ⟨_, rfl, HUG.out.row, HUG.out.uk.ext⟩
                · obtain ⟨x, r, hor⟩ : ∃ x r, openL asg f[i] = x :: r := by
                    cases hq : openL asg f[i] with
                    | nil => rw [hq] at hno; simp at hno
                    | cons x r => exact ⟨x, r, rfl⟩
                  have hlone : (((openL asg f[i]).length : Int) == 0) = false := by rw [beq_eq_false_iff_ne]; omega
                  have HOR := Lib.hid hor
                  clear hor hle
                  go_upto_region 26 with fail
                  have hE5 := HUG.out.uk.ext
                  obtain ⟨ad, rfl, hvk0⟩ := K3.out i hiv
                  obtain ⟨CA, cc, hve, hcc1, hcc2, hcrow0⟩ := K5.out i hiv hif
                  rw [hve] at hvk0
                  have HRD := Lib.hid (fun (w' : World) (he : Ext w w') => (show w'.cell? (ad.add i) = some (.slice CA f[i].length cc) ∧ Row w' CA (f[i].map (Value.int .i64)) from ⟨he.cell hvk0, hcrow0.ext he⟩))
                  obtain ⟨hvk, hcrow⟩ := HRD.out _ hE5
                  have hsl := HUS2.out.len
                  have HX0 := Lib.hid (show x ∈ f[i] from (List.mem_filter.1 (show x ∈ openL asg f[i] by rw [HOR.out]; simp)).1)
                  have HX1 := Lib.hid (show -x ∉ asg from by
                    have := (List.mem_filter.1 (show x ∈ openL asg f[i] by rw [HOR.out]; simp)).2
                    simpa using this)
                  have hasc := (mayB_iff _).1 (mayCnfB_get HF.out i hif)
                  have hnotin : ∀ y ∈ f[i], y ∉ asg := fun y hy hm => by
                    have := List.any_eq_false.1 HHF.out y hy
                    simp [hm] at this
                  have hp : ∀ j (hj : j < f[i].length), (s.val (varOf (f[i].getD j 0))).isNone = !asg.contains (-f[i][j]) := fun j hj => by
                    have hm := List.getElem_mem hj
                    rw [show f[i].getD j 0 = f[i][j] by simp [hj]]
                    exact HPP.out.rest.isNone (hnotin _ hm) (by have := hasc.2 _ hm; omega)
                  have hix := indexFuncI 72 #[.pointer (some ⟨pu, 0, none⟩)] fv_units1 CA cc (f[i].map (Value.int .i64)) (by rw [List.length_map]; exact hcc2) (fun j => (s.val (varOf (f[i].getD j 0))).isNone) (fun _ w' => Ext w5 w') w5
                    (fun _ w' hw => hcrow.ext hw)
                    (fun j hj w' hw => by
                      have hj' : j < f[i].length := by simpa using hj
                      have h6 := HUG.out.ext hw
                      have hg : f[i].getD j 0 = f[i][j] := by simp [hj']
                      have := units_fn pu U mv _ _ _ _ _ s.val f[i][j] (k64 _ (List.getElem_mem hif) _ (List.getElem_mem hj')) w' h6.uk.cell h6.us.blk h6.us.mval (HPP.out.rest.valV HUS2.out.var _)
                      rw [List.getElem_map]
                      refine this.mono ?_
                      rintro e w'' ⟨rfl, n, rfl⟩
                      exact ⟨by rw [hg], hw.trans (Ext.drewN _ _)⟩)
                    (Ext.refl _)
                  rw [List.length_map] at hix
                  have HIX := Lib.hid (hix.mono fun e w6 (hq : PostIdx _ _ _ e w6) => by
                    obtain ⟨r', he, hq⟩ := hq
                    have h1 : IdxOf (fun j => (s.val (varOf (f[i].getD j 0))).isNone) f[i].length r' ∧ Ext w5 w6 := by
                      rcases hq with ⟨k, h1, h2, h3, h4, h5⟩ | ⟨h1, h2, h3⟩
                      · exact ⟨.inl ⟨k, h1, h2, h3, h4⟩, h5⟩
                      · exact ⟨.inr ⟨h1, h2⟩, h3⟩
                    obtain ⟨k, hk, hr', hx⟩ := idx_open hp HOR.out h1.1
                    exact (show ∃ k : Nat, ∃ hk : k < f[i].length, e = .returned (.int .i64 k) ∧ f[i][k] = x ∧ Ext w5 w6 from ⟨k, hk, by rw [he, hr'], hx, h1.2⟩))
                  have HCR := Lib.hid hcrow
                  have HVK := Lib.hid hvk
                  have HX2 := Lib.hid (hnotin x HX0.out)
                  have HX3 := Lib.hid (show varOf x ≠ 0 from by have := hasc.2 _ HX0.out; omega)
                  clear hix hp hnotin hasc hcrow hve hE5 hvk0 hcrow0
                  obtain ⟨j1, hj1, hy10, hy11, hy12⟩ := info_parts info_step
                  have HJ1 := Lib.hid hj1
                  have HY10 := Lib.hid hy10
                  have HY11 := Lib.hid hy11
                  have HY12 := Lib.hid hy12
                  have hfl2 := mayCnfB_len HF.out
                  clear hj1 hy10 hy11 hy12
                  go_upto_region 28 with (first
                    | (go_at_call 71; refine HIX.out.mono ?_; rintro e w6 ⟨k, hk, rfl, hx, hE6⟩; have HX := Lib.hid hx; have HE6 := Lib.hid hE6; have hvk6 := hE6.cell HVK.out; obtain ⟨ac, rfl, hxc⟩ := (HCR.out.ext hE6).int k hk; rw [hx] at hxc; clear hx hE6)
                    | ((with_reducible refine at_dst 140 rfl ?_)
                       have hsz6 := huk0 (HUG.out.ext HE6.out).uk
                       refine wpList_append_lies _ rfl (.tmp 129) (.tmp 139) 48 rfl w.heap.size 55 j1 (.agg #[.int .i64 0, .int .i64 0]) 2 16 Tryd.underlying48 HJ1.out HY10.out HY11.out HY12.out rfl (by decide) (.slice LA st.length lc) st.length (stepsV st) rfl ?c1 ⟨w6.heap.size, 0, none⟩ 1 1 [.int .i64 x, .int .i64 i] rfl rfl ?c2 (by simp [Value.oneCell']) (by omega) (by unfold maxLen; omega) (by omega) (by simp; omega) (w6.heap.size + 1) (by simp) ?_
                       case c1 => exact own_ext (HUG.out.ext HE6.out).row (Ext.alloc w6 _)
                       case c2 => exact World.news_of_block (heap_alloc_new w6 _)
                       intro g cap w7 hown hgrow hat hlt
                       have HUG7 := Lib.hid ((HUG.out.ext HE6.out).snoc x i hown (((Ext.alloc w6 _).chg _).trans (grown_chg hgrow)) (hat.imp id fun h => by omega))
                       clear hown hgrow hat hlt hsz6))
                  have cp7 := HUG7.out.uk.cell
                  obtain ⟨hvk7, hcr7⟩ := HRD.out _ HUG7.out.uk.ext
                  obtain ⟨ac', hac, hxc7⟩ := hcr7.int k hk
                  cases hac
                  rw [HX.out] at hxc7
                  have HC := Lib.hid ((HUG7.out.ext (Ext.drew w7)).set_any HF.out x HX3.out HX2.out HX1.out HUS2.out.var (fun j hj => by cases hj; rw [getD_of f i hif]; exact HX0.out) (by have := HT.out; omega))
                  clear hcr7
                  have HUS8 := Lib.hid (HUS2.out.step HD.out hif HOR.out HHF.out HX3.out)
                  go_still_tail 8, (by kernel_rfl)
                  change wpList _ _ _ _ _ w7.drew
                  go_wp2_with (go_at_call 69; refine HC.out.mono ?_; rintro e w8 ⟨rfl, hup⟩; have HUP8 := Lib.hid hup; clear hup)
                  go_roundg t'
                  case measure => have := HT.out; omega
                  case rel => exact ⟨by have := HT.out; omega, st ++ [(x, (i : Int))], asg ++ [x], HUS8.out, HUP8.out⟩

/-- What Units returns: the steps, the clause that is false, the error. -/
def UnitsV (f : List (List Int)) (xs : List Int) : List (Int × Int) × Int × Int :=
  if mayB xs = true ∧ mayCnfB f = true then ((unitsL f (f.length + 1) xs).1, (unitsL f (f.length + 1) xs).2, 0) else ([], -1, 2)

theorem Units_any (f : List (List Int)) (xs : List Int) (v u : Value) (w : World) (h64 : All64 xs) (k64 : All64L f) (hr : RI w v xs) (kr : RLL w u f) (ht : f.length ≤ 20000 → total f ≤ 9223372036854775807) :
    Calls Tryd.prog 34 #[u, v] w (PostUnits w (UnitsV f xs).1 (UnitsV f xs).2.1 (UnitsV f xs).2.2) := by
  unfold UnitsV
  split
  · rename_i h
    exact units_good f xs v u w h64 k64 hr kr ht h.1 h.2
  · rename_i h
    refine units_arg f xs v u w h64 k64 hr kr ht ?_
    cases h1 : mayB xs
    · exact .inl rfl
    · cases h2 : mayCnfB f
      · exact .inr rfl
      · exact absurd ⟨h1, h2⟩ h

end Go.Proofs.YteokoaggkpjdeaaDoor
