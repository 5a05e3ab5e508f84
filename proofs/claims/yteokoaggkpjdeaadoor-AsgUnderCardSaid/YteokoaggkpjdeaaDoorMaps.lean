/- Maps whose keys are integers of 64 bits: what a lookup, an update, a delete do. -/
import Derived.Test.YteokoaggkpjdeaaDoorBase
import Derived.MapKept
namespace Go.Proofs.YteokoaggkpjdeaaDoor
open Go.RowKit

/-- The entries of a map with integer keys. -/
def lookL : List MapEntry → Int → Option Value
  | [], _ => none
  | e :: es, n => match e.key with
    | .int .i64 k => if n == k then some e.val else lookL es n
    | _ => none

def KeysInt (es : List MapEntry) : Prop := ∀ e ∈ es, ∃ n, e.key = .int .i64 n

/-- Block g is a map from integers that holds m. -/
def MapAt (w : World) (g : Nat) (m : Int → Option Value) : Prop :=
  ∃ (es : Array MapEntry) (clock : Nat), w.heap[g]? = some (.map es clock) ∧ KeysInt es.toList ∧ ∀ n, m n = lookL es.toList n

/-- One entry set. -/
def mset (m : Int → Option Value) (n : Int) (v : Value) : Int → Option Value := fun k => if k = n then some v else m k

/-- The place of a key. -/
def idxL : List MapEntry → Int → Nat → Option (Nat × Value)
  | [], _, _ => none
  | e :: es, n, i => match e.key with
    | .int .i64 k => if n == k then some (i, e.val) else idxL es n (i + 1)
    | _ => none

theorem findNow_int (es : List MapEntry) (h : KeysInt es) (n : Int) : ∀ i, Instr.findNow (.int .i64) (.int .i64 n) es i = some (idxL es n i) := by
  induction es with
  | nil => intro i; rfl
  | cons e es ih =>
    intro i
    obtain ⟨k, hk⟩ := h e (by simp)
    have ih' := ih (fun e he => h e (by simp [he])) (i + 1)
    simp only [Instr.findNow, Instr.sameNow, hk, if_true, idxL]
    cases hb : n == k
    · simp [ih']
    · simp

theorem idxL_val (es : List MapEntry) (h : KeysInt es) (n : Int) : ∀ i, (idxL es n i).map (·.2) = lookL es n := by
  induction es with
  | nil => intro i; rfl
  | cons e es ih =>
    intro i
    obtain ⟨k, hk⟩ := h e (by simp)
    simp only [idxL, lookL, hk]
    cases hb : n == k
    · simpa using ih (fun e he => h e (by simp [he])) (i + 1)
    · simp

theorem idxL_spec (es : List MapEntry) (h : KeysInt es) (n : Int) : ∀ i j v, idxL es n i = some (j, v) → i ≤ j ∧ ∃ hj : j - i < es.length, es[j - i].key = .int .i64 n ∧ (∀ q, q < j - i → ∀ hq : q < es.length, es[q].key ≠ .int .i64 n) := by
  induction es with
  | nil => intro i j v h; simp [idxL] at h
  | cons e es ih =>
    intro i j v hi
    obtain ⟨k, hk⟩ := h e (by simp)
    simp only [idxL, hk] at hi
    by_cases hb : n = k
    · simp [hb] at hi
      obtain ⟨rfl, -⟩ := hi
      refine ⟨Nat.le_refl _, by simp, ?_, fun q hq => by omega⟩
      simp [hk, hb]
    · have hb' : (n == k) = false := by simpa using hb
      simp only [hb'] at hi
      obtain ⟨h1, h2, h3, h4⟩ := ih (fun e he => h e (by simp [he])) (i + 1) j v hi
      refine ⟨by omega, by simp; omega, ?_, ?_⟩
      · have : j - i = (j - (i + 1)) + 1 := by omega
        simp only [this, List.getElem_cons_succ]
        exact h3
      · intro q hq hq'
        cases q with
        | zero => simp [hk]; exact fun h => hb h.symm
        | succ q => simp only [List.getElem_cons_succ]; exact h4 q (by omega) (by simpa using hq')

theorem idxL_none (es : List MapEntry) (h : KeysInt es) (n : Int) : ∀ i, idxL es n i = none → ∀ e ∈ es, e.key ≠ .int .i64 n := by
  induction es with
  | nil => intro i _ e he; cases he
  | cons e es ih =>
    intro i hi e' he'
    obtain ⟨k, hk⟩ := h e (by simp)
    simp only [idxL, hk] at hi
    by_cases hb : n = k
    · simp [hb] at hi
    · have hb' : (n == k) = false := by simpa using hb
      simp only [hb'] at hi
      rcases List.mem_cons.1 he' with rfl | he'
      · simp [hk]; exact fun h => hb h.symm
      · exact ih (fun e he => h e (by simp [he])) (i + 1) hi e' he'

theorem lookL_append (es fs : List MapEntry) (h : KeysInt es) (n : Int) : lookL (es ++ fs) n = (lookL es n).or (lookL fs n) := by
  induction es with
  | nil => simp [lookL]
  | cons e es ih =>
    obtain ⟨k, hk⟩ := h e (by simp)
    simp only [List.cons_append, lookL, hk]
    cases hb : n == k
    · simpa using ih (fun e he => h e (by simp [he]))
    · simp

theorem lookL_none (es : List MapEntry) (h : KeysInt es) (n : Int) (hn : ∀ e ∈ es, e.key ≠ .int .i64 n) : lookL es n = none := by
  induction es with
  | nil => rfl
  | cons e es ih =>
    obtain ⟨k, hk⟩ := h e (by simp)
    have hne := hn e (by simp)
    rw [hk] at hne
    have hb : (n == k) = false := by simp; exact fun h => hne (by rw [h])
    simp only [lookL, hk, hb]
    exact ih (fun e he => h e (by simp [he])) (fun e he => hn e (by simp [he]))

/-- An entry's value set in place. -/
theorem lookL_set (es : List MapEntry) (h : KeysInt es) (n : Int) (v : Value) (j : Nat) (hj : j < es.length) (hk : es[j].key = .int .i64 n) (hq : ∀ q, q < j → ∀ hq : q < es.length, es[q].key ≠ .int .i64 n) (m : Int) :
    lookL (es.set j { es[j] with key := .int .i64 n, val := v }) m = if m = n then some v else lookL es m := by
  induction es generalizing j with
  | nil => simp at hj
  | cons e es ih =>
    obtain ⟨k, hke⟩ := h e (by simp)
    cases j with
    | zero =>
      simp only [List.getElem_cons_zero] at hk
      simp only [List.set_cons_zero, lookL, List.getElem_cons_zero, hk]
      by_cases hm : m = n
      · simp [hm]
      · simp [hm]
    | succ j =>
      have hne := hq 0 (by omega) (by simp)
      simp only [List.getElem_cons_zero, hke] at hne
      simp only [List.set_cons_succ, lookL, hke, List.getElem_cons_succ]
      have ih' := ih (fun e he => h e (by simp [he])) j (by simpa using hj) (by simpa using hk) (fun q hq' hql => by have := hq (q + 1) (by omega) (by simpa using hql); simpa using this)
      rw [ih']
      by_cases hb : m = k
      · have : m ≠ n := fun h => hne (by rw [← h, hb])
        simp [hb, hb ▸ this]
      · simp [hb]

theorem keysInt_set {es : List MapEntry} (h : KeysInt es) (j : Nat) (e : MapEntry) (n : Int) (he : e.key = .int .i64 n) : KeysInt (es.set j e) := fun e' he' => by
  rcases List.mem_or_eq_of_mem_set he' with h1 | h1
  · exact h e' h1
  · subst h1; exact ⟨n, he⟩

section
variable {P : Program} {T K E : TypeId} {w : World} {g : Nat} {m : Int → Option Value}

theorem run_findKey (hK : P.underlying K = some (.int .i64)) (es : List MapEntry) (h : KeysInt es) (n : Int) : (Instr.findKey K (.int .i64 n) es).run P w = .ok (idxL es n 0) w := by
  simp [Instr.findKey, run_underlying hK, findNow_int es h n 0]

theorem run_checkKey' (hK : P.underlying K = some (.int .i64)) (b : Bool) (n : Int) (f : Nat) : (Instr.checkKey b (f + 1) K (.int .i64 n)).run P w = .ok () w := by
  simp [Instr.checkKey, run_underlying hK]
theorem run_checkKey (hK : P.underlying K = some (.int .i64)) (b : Bool) (n : Int) : (Instr.checkKey b 10000 K (.int .i64 n)).run P w = .ok () w := run_checkKey' hK b n 9999

theorem MapAt.lookup (h : MapAt w g m) (hT : P.underlying T = some (.map K E)) (hK : P.underlying K = some (.int .i64)) {z : Value} (hz : (zeroValue E).run P w = .ok z w) (n : Int) :
    (Instr.lookup T (.map (some g)) (.int .i64 n) false).run P w = .ok ((m n).getD z) w := by
  obtain ⟨es, clock, hg, hk, hm⟩ := h
  rw [hm, ← idxL_val es.toList hk n 0]
  have hf := run_findKey (P := P) (w := w) hK es.toList hk n
  have hc := run_checkKey (P := P) (w := w) hK es.isEmpty n
  cases hi : idxL es.toList n 0 with
  | none => rw [hi] at hf; simp [Instr.lookup, run_underlying hT, MapKept.run_getObj_map hg, hc, hf, hz, Result.andThen]
  | some jv => rw [hi] at hf; simp [Instr.lookup, run_underlying hT, MapKept.run_getObj_map hg, hc, hf, Result.andThen]

theorem MapAt.lookup_ok (h : MapAt w g m) (hT : P.underlying T = some (.map K E)) (hK : P.underlying K = some (.int .i64)) {z : Value} (hz : (zeroValue E).run P w = .ok z w) (n : Int) :
    (Instr.lookup T (.map (some g)) (.int .i64 n) true).run P w = .ok (.tuple #[(m n).getD z, .bool (m n).isSome]) w := by
  obtain ⟨es, clock, hg, hk, hm⟩ := h
  rw [hm, ← idxL_val es.toList hk n 0]
  have hf := run_findKey (P := P) (w := w) hK es.toList hk n
  have hc := run_checkKey (P := P) (w := w) hK es.isEmpty n
  cases hi : idxL es.toList n 0 with
  | none => rw [hi] at hf; simp [Instr.lookup, run_underlying hT, MapKept.run_getObj_map hg, hc, hf, hz, Result.andThen]
  | some jv => rw [hi] at hf; simp [Instr.lookup, run_underlying hT, MapKept.run_getObj_map hg, hc, hf, Result.andThen]

/-- The world with another object in block g. -/
def setObjW (w : World) (g : Nat) (o : Obj) : World := { w with heap := w.heap.setIfInBounds g o }

theorem setObjW_chg (w : World) (g : Nat) (o : Obj) : Chg (fun k => k = g) w (setObjW w g o) :=
  ⟨rfl, rfl, rfl, by simp [setObjW], fun k _ hn => by simp only [setObjW]; rw [Array.getElem?_setIfInBounds_ne (fun e => hn e.symm)]⟩
theorem setObjW_at {w : World} {g : Nat} {o o' : Obj} (h : w.heap[g]? = some o) : (setObjW w g o').heap[g]? = some o' := by
  have hl := (Array.getElem?_eq_some_iff.1 h).1
  simp [setObjW, hl]

theorem sameBits_int (f : Nat) (n : Int) : Instr.sameBits f (.int .i64 n) (.int .i64 n) = true := by
  cases f <;> simp [Instr.sameBits]
theorem run_keyStays (n : Int) : (Instr.keyThatStays (.int .i64 n) (.int .i64 n)).run P w = .ok (.int .i64 n) w := by
  simp [Instr.keyThatStays, sameBits_int]
theorem modify_set (es : List MapEntry) (j : Nat) (f : MapEntry → MapEntry) (hj : j < es.length) : es.modify j f = es.set j (f es[j]) := by
  apply List.ext_getElem?
  intro i
  rw [List.getElem?_modify, List.getElem?_set]
  by_cases h : j = i
  · subst h; simp [hj]
  · simp [h]

theorem MapAt.update (h : MapAt w g m) (hT : P.underlying T = some (.map K E)) (hK : P.underlying K = some (.int .i64)) (n : Int) (v : Value) :
    ∃ w', (Instr.mapUpdate T (.map (some g)) (.int .i64 n) v).run P w = .ok () w' ∧ MapAt w' g (mset m n v) ∧ Chg (fun k => k = g) w w' := by
  obtain ⟨es, clock, hg, hk, hm⟩ := h
  have hf := run_findKey (P := P) (w := w) hK es.toList hk n
  have hc := run_checkKey (P := P) (w := w) hK false n
  cases hi : idxL es.toList n 0 with
  | none =>
    rw [hi] at hf
    refine ⟨setObjW w g (.map (es.push { key := .int .i64 n, val := v, born := clock }) (clock + 1)), ?_, ⟨_, _, setObjW_at hg, ?_, ?_⟩, setObjW_chg w g _⟩
    · simp [Instr.mapUpdate, run_underlying hT, MapKept.run_getObj_map hg, hc, hf, Result.andThen, MapKept.run_setObj_map _ hg, setObjW]
    · intro e he
      simp only [Array.toList_push, List.mem_append, List.mem_singleton] at he
      rcases he with he | rfl
      · exact hk e he
      · exact ⟨n, rfl⟩
    · intro k
      have hno := idxL_none es.toList hk n 0 hi
      rw [Array.toList_push, lookL_append _ _ hk]
      simp only [mset, lookL]
      by_cases hkn : k = n
      · subst hkn
        rw [lookL_none _ hk k hno]; simp
      · rw [if_neg hkn, hm k]
        simp [hkn]
  | some jv =>
    obtain ⟨j, ov⟩ := jv
    rw [hi] at hf
    obtain ⟨-, h2, h3, h4⟩ := idxL_spec es.toList hk n 0 j ov hi
    simp only [Nat.sub_zero] at h2 h3 h4
    have hj : j < es.size := by simpa using h2
    have hkj : es[j].key = .int .i64 n := by simpa using h3
    have hes : (es.modify j fun e => { e with key := .int .i64 n, val := v }).toList = es.toList.set j { es.toList[j] with key := .int .i64 n, val := v } := by
      rw [Array.toList_modify, modify_set _ _ _ h2]
    refine ⟨setObjW w g (.map (es.modify j fun e => { e with key := .int .i64 n, val := v }) clock), ?_, ⟨_, _, setObjW_at hg, ?_, ?_⟩, setObjW_chg w g _⟩
    · simp [Instr.mapUpdate, run_underlying hT, MapKept.run_getObj_map hg, hc, hf, Result.andThen, MapKept.run_setObj_map _ hg, setObjW, hj, hkj, run_keyStays]
    · rw [hes]; exact keysInt_set hk _ _ n rfl
    · intro k
      rw [hes, lookL_set es.toList hk n v j h2 h3 h4]
      simp only [mset, hm]

theorem MapAt.new (w : World) : MapAt (w.alloc (.map #[] 0)) w.heap.size (fun _ => none) := ⟨#[], 0, heap_alloc_new w _, fun _ he => absurd he (by simp), fun _ => rfl⟩
theorem MapAt.keep {S : Nat → Prop} {w' : World} (h : MapAt w g m) (k : Chg S w w') (hn : ¬ S g) : MapAt w' g m := by
  obtain ⟨es, clock, hg, r⟩ := h
  exact ⟨es, clock, (k.block g (Array.getElem?_eq_some_iff.1 hg).1 hn).trans hg, r⟩
theorem MapAt.ext {w' : World} (h : MapAt w g m) (k : Ext w w') : MapAt w' g m := h.keep (k.chg (fun _ => False)) id
theorem MapAt.lt (h : MapAt w g m) : g < w.heap.size := by
  obtain ⟨es, clock, hg, -⟩ := h
  exact (Array.getElem?_eq_some_iff.1 hg).1
end

end Go.Proofs.YteokoaggkpjdeaaDoor
