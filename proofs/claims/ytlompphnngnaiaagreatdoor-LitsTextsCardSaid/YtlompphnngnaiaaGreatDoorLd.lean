/- Walk of lits.Text. strconv.Atoi and strings.Split over one space, for the walk of lits.Read. Walk of lits.Read. A region that draws its order, each of whose operations yields a value with a property that lasts while the world grows: in whatever order. A region in whatever order: what kinds of value its operations yield, and a step for each kind of operation. The chapter's examples, reckoned. Walk of the laws' examples (awake). -/
import Derived.Test.YtlompphnngnaiaaGreatDoorLb
import Derived.Test.YtlompphnngnaiaaGreatDoorShelfT
import Derived.Test.YtlompphnngnaiaaGreatDoorLa
import Derived.Test.YtlompphnngnaiaaGreatDoorLc
import Derived.Laws.RangeAny
import Derived.Deep.CutRange
import Derived.Orders
import Derived.Great.Walk
import Derived.Deep.RegionHeld3
namespace Go.Proofs.YtlompphnngnaiaaGreatDoor
open Go.RowKit

theorem info_str : (Tryz.prog.info? 9).map (fun i => (i.zero, i.size, i.bytes)) = some (some (.string ByteArray.empty), 1, 16) := by kernel_rfl

/-- A slice of strings of the call's own. -/
def OwnS (w : World) (base : Nat) (v : Value) (ss : List ByteArray) : Prop := w.ownsRow base 9 1 v ss.length (ss.map Value.string)
theorem OwnS.nil (w : World) (base : Nat) : OwnS w base (.slice none 0 0) [] := World.ownsRow_nil w base _ 1

theorem appS_1w {o : Oper} {a : Act} {K : Act → World → Prop} {Q : Exit → Act → World → Prop} {w : World} (s x : Operand)
    (ho : o.op = .call { callee := .builtin .append, args := #[s, x], argTypes := #[53, 53] })
    {base g : Nat} {v : Value} {xs : List ByteArray} {y : ByteArray} (hs : a.eval s = v) (hx : a.eval x = .slice (some ⟨g, 0, none⟩) 1 1) (hc : w.cell? ⟨g, 0, none⟩ = some (.string y)) (hown : OwnS w base v xs) (hl : xs.length ≤ 10000000) (hbase : base ≤ w.heap.size)
    (h : ∀ v' w', OwnS w' base v' (xs ++ [y]) → w.grownBy w' v.ownBlock → K (a.put o.dst v') w') : o.wp Tryz.prog a w K Q := by
  obtain ⟨i0, hi, hz0, hz1, hz2⟩ := info_parts info_str
  refine wp_append_own w s x 53 ho base 9 i0 (.string ByteArray.empty) 1 16 Tryz.underlying53 hi hz0 hz1 hz2 rfl (by decide) v xs.length (xs.map Value.string) hs hown ⟨g, 0, none⟩ 1 1 [.string y] hx rfl (fun j u hj => ?_) (by simp [Value.oneCell']) (by unfold maxLen; omega) (by omega) hbase ?_
  · obtain ⟨hj, he⟩ := List.getElem?_eq_some_iff.1 hj
    obtain rfl : j = 0 := by simpa using hj
    rw [addr0, hc]; simpa using he
  · intro v' w' ho' hg _
    exact h v' w' (by unfold OwnS; rw [List.length_append, List.map_append]; exact ho') hg
theorem appS_1 {ops : Array Oper} {rest : List Oper} {o : Oper} {a : Act} {Q : Exit → Act → World → Prop} {w : World} (hgd : o.guard = none) (s x : Operand)
    (ho : o.op = .call { callee := .builtin .append, args := #[s, x], argTypes := #[53, 53] })
    {base : Nat} {v : Value} {xs : List ByteArray} {y : ByteArray} (hs : a.eval s = v) (hx : a.eval x = .slice (some ⟨w.heap.size, 0, none⟩) 1 1) (hown : OwnS w base v xs) (hl : xs.length ≤ 10000000) (hbase : base ≤ w.heap.size)
    (h : ∀ v' w', OwnS w' base v' (xs ++ [y]) → Chg (fun i => some i = v.ownBlock) w w' → wpList Tryz.prog ops Q rest (a.put o.dst v') w') : wpList Tryz.prog ops Q (o :: rest) a (w.alloc (.cells #[.string y] 9)) :=
  wpList_plain hgd fun _ hK => appS_1w s x ho hs hx (Var1.new w 9 (.string y)).cell (own_ext hown (Ext.alloc w _)) hl (by simp; omega) fun v' w' h1 h2 => hK _ _ (h v' w' h1 (((Ext.alloc w _).chg _).trans (grown_chg h2)))

/-- A list of bytes as a string of the program. -/
def bstr (l : List UInt8) : ByteArray := ⟨l.toArray⟩
theorem bstr_data (l : List UInt8) : (bstr l).data.toList = l := rfl

/-- strings.Join over a row of the call's own. -/
theorem join_own (ss : List ByteArray) (v : Value) (base : Nat) (w : World) (h : OwnS w base v ss) (hl : ss.length ≤ 1000000) (hlen : (Lib.join (ss.map (·.data.toList)) [32]).length ≤ 140737488355328) :
    Calls Tryz.prog 53 #[v, .string ⟨#[32]⟩] w fun e w' => e = .returned (.string (bstr (Lib.join (ss.map (·.data.toList)) [32]))) ∧ Ext w w' := by
  unfold OwnS at h
  obtain ⟨-, ⟨rfl, h0⟩ | ⟨g, cap, cur, rfl, hb, hg, hn, hm, hs, ht⟩⟩ := h
  · have : ss = [] := List.length_eq_zero_iff.1 h0
    subst this
    refine (Tryz.strings_Join_none none 0 ⟨#[32]⟩ w).mono ?_
    rintro e w' ⟨rfl, rfl⟩
    exact ⟨rfl, Ext.refl _⟩
  · have hB : Blk w g 9 cur.toList := by unfold Blk; simpa using hg
    refine (Tryz.strings_Join g 0 cap ss ⟨#[32]⟩ w (fun j x hj => ?_) hB.lt (by omega) hn hlen).mono ?_
    · obtain ⟨hj', rfl⟩ := List.getElem?_eq_some_iff.1 hj
      rw [Nat.zero_add, hB.cell]
      have := congrArg (fun l => l[j]?) ht
      rw [Nat.mul_one] at this
      simp only [List.getElem?_take, if_pos hj', List.getElem?_map, List.getElem?_eq_getElem hj'] at this
      exact this
    · rintro e w' ⟨rfl, hE⟩
      exact ⟨rfl, hE⟩

/-- The words of a list. -/
def wordsOf (xs : List Int) : List ByteArray := xs.map fun x => bstr (Lib.itoa x)
theorem words_join (xs : List Int) : Lib.join ((wordsOf xs).map (·.data.toList)) [32] = textB xs := by
  unfold wordsOf textB
  rw [List.map_map]
  rfl
theorem wordsOf_snoc (xs : List Int) (k : Nat) (hk : k < xs.length) : wordsOf (xs.take (k + 1)) = wordsOf (xs.take k) ++ [bstr (Lib.itoa xs[k])] := by
  unfold wordsOf
  rw [List.take_succ_eq_append_getElem hk, List.map_append]; rfl

theorem itoa_any (x : Int) (hx : I64 x) (w : World) (hL : LW w) : Calls Tryz.prog 52 #[.int .i64 x] w fun e w' => e = .returned (.string (bstr (Lib.itoa x))) ∧ Ext w w' :=
  (Tryz.strconv_Itoa x hx.1 hx.2 w hL.tab).mono fun _ _ ⟨h1, k, os, h2⟩ => ⟨h1, h2 ▸ Grw.ext ⟨k, os, rfl⟩⟩

set_option maxHeartbeats 2000000 in
theorem Text_any (xs : List Int) (v : Value) (w : World) (h64 : All64 xs) (hr : RI w v xs) (hL : LW w) :
    Calls Tryz.prog 12 #[v] w fun e w' => e = .returned (.tuple #[.string (bstr (TextV xs).1), .int .i64 (TextV xs).2]) ∧ Ext w w' := by
  have HM := Lib.hid (may_any v xs w hr h64)
  have HR := Lib.hid hr
  have HL := Lib.hid hL
  obtain ⟨A, c, rfl, h1, h2, h3⟩ := hr
  clear h3 hL
  unfold TextV
  cases hm : mayB xs
  · rw [hm] at HM
    rw [if_neg (by decide)]
    clear hm
    go_enter Tryz.func12, Tryz.ntmps12
    go_wp2_with (go_at_call 35; refine HM.out.mono ?_; rintro e w' ⟨rfl, rfl⟩)
    go_ret2
    exact ⟨rfl, Ext.refl _⟩
  · rw [hm] at HM
    rw [if_pos rfl]
    have hlen := may_len hm
    have HLI := Lib.hid ((mayB_iff xs).1 hm).2
    clear hm
    go_enter Tryz.func12, Tryz.ntmps12
    go_wp2_with (go_at_call 35; refine HM.out.mono ?_; rintro e w' ⟨rfl, rfl⟩)
    go_loopg [4, 12] xs.length (fun gn o i wr => ∃ k : Nat, k ≤ xs.length ∧ gn + k = xs.length ∧ i = .int .i64 k ∧ Hid (OwnS wr w.heap.size o (wordsOf (xs.take k)) ∧ Ext w wr))
    case atStart => exact ⟨0, Nat.zero_le _, by omega, rfl, OwnS.nil _ _, Ext.refl _⟩
    case round =>
      obtain ⟨k, hk, hgk, rfl, HI⟩ := hrel
      obtain ⟨wk, rfl⟩ : ∃ wk : World, wk = wr := ⟨_, rfl⟩
      by_cases hlt : k < xs.length
      · obtain ⟨ad, rfl, hx0⟩ := (HR.out.ext HI.out.2).row.2.2.2.int k hlt
        have HSN := Lib.hid (wordsOf_snoc xs k hlt)
        have hwl : (wordsOf (xs.take k)).length ≤ 10000000 := by unfold wordsOf; rw [List.length_map, List.length_take]; omega
        have HIT := Lib.hid (itoa_any xs[k] (h64 _ (List.getElem_mem hlt)) wk (HL.out.ext HI.out.2))
        obtain ⟨x, hx⟩ : ∃ x, x = xs[k] := ⟨_, rfl⟩
        rw [← hx] at hx0 HSN HIT
        clear hx
        obtain ⟨b, hb⟩ : ∃ b, b = bstr (Lib.itoa x) := ⟨_, rfl⟩
        rw [← hb] at HSN HIT
        clear hb
        go_wp2_with (first
          | (go_at_call 52
             refine HIT.out.mono ?_
             rintro e w1 ⟨rfl, hE⟩
             have HE1 := Lib.hid (HI.out.2.trans hE)
             have HO1 : Hid (OwnS w1 w.heap.size u4 (wordsOf (xs.take k))) := Lib.hid (own_ext HI.out.1 hE)
             clear hE)
          | (at_builtin
             refine appS_1 rfl (.tmp 16) (.tmp 19) rfl (base := w.heap.size) (xs := wordsOf (xs.take k)) (y := b) rfl rfl HO1.out hwl HE1.out.size ?_
             intro v' w3 hown hg
             have HOW := Lib.hid hown
             have HE4 := Lib.hid (hg.toExt HE1.out (fun i hi => (own_typed HO1.out hi.symm).1))
             clear hown hg))
        go_roundg (xs.length - (k + 1))
        case measure => omega
        case rel => exact ⟨k + 1, by omega, by omega, by go_num, by rw [HSN.out]; exact HOW.out, HE4.out⟩
      · have hkn : k = xs.length := by omega
        have ho : OwnS wk w.heap.size u4 (wordsOf xs) := by
          have := HI.out.1
          rwa [hkn, List.take_length] at this
        have HO := Lib.hid ho
        have HJ := Lib.hid (join_own (wordsOf xs) u4 _ wk HO.out (by unfold wordsOf; rw [List.length_map]; omega) (by
          rw [words_join]
          have := textB_len (xs := xs) (fun x hx => lit_small (HLI.out x hx))
          omega))
        rw [words_join] at HJ
        clear ho hkn
        go_wp2_with (go_at_call 53; refine HJ.out.mono ?_; rintro e w5 ⟨rfl, hE⟩; have HE5 := Lib.hid (HI.out.2.trans hE); clear hE)
        go_ret2
        exact ⟨rfl, HE5.out⟩
end Go.Proofs.YtlompphnngnaiaaGreatDoor
namespace Go.Proofs.YtlompphnngnaiaaGreatDoor
open Go.RowKit

theorem atoi_ok (s : ByteArray) (hs : s.size ≤ 1000000) (v : Int) (h : Lib.atoiAll s.data.toList = .ok v) (w : World) : Calls Tryz.prog 56 #[.string s] w fun e w' => e = .returned (.tuple #[.int .i64 v, .nilIface]) ∧ Ext w w' := by
  refine (Tryz.strconv_Atoi_ok s (by omega) v h w).mono ?_
  rintro e w' ⟨rfl, rfl | ⟨t, rfl⟩⟩
  · exact ⟨rfl, Ext.refl _⟩
  · exact ⟨rfl, Lib.bytesWorld_below _ _ _⟩
theorem atoi_no (s : ByteArray) (hs : s.size ≤ 1000000) (h : ∀ v, Lib.atoiAll s.data.toList ≠ .ok v) (w : World) (hL : LW w) : Calls Tryz.prog 56 #[.string s] w fun e w' => ∃ v t p, e = .returned (.tuple #[.int .i64 v, .iface t p]) ∧ Ext w w' := by
  rcases hc : Lib.atoiAll s.data.toList with v | _ | _
  · exact absurd hc (h v)
  · obtain ⟨te, pe, hv⟩ := hL.syn
    refine (Tryz.strconv_Atoi_syntax s (by omega) hc _ w hv (.inr ⟨te, pe, rfl⟩)).mono ?_
    rintro e w' ⟨N, rfl, -, -, hE⟩
    exact ⟨_, _, _, rfl, hE⟩
  · obtain ⟨te, pe, hv⟩ := hL.rng
    refine (Tryz.strconv_Atoi_range s (by omega) hc _ w hv (.inr ⟨te, pe, rfl⟩)).mono ?_
    rintro e w' ⟨N, rfl, -, -, hE⟩
    exact ⟨_, _, _, rfl, hE⟩

theorem splitK_len (sep : List UInt8) : ∀ (k : Nat) (s w : List UInt8), w ∈ Lib.splitK sep 0 k s → w.length ≤ s.length
  | 0, s, w, h => by
    rw [Lib.splitK] at h
    rw [List.mem_singleton.1 h]; exact Nat.le_refl _
  | k + 1, s, w, h => by
    rw [Lib.splitK] at h
    split at h
    · rw [List.mem_singleton.1 h]; exact Nat.le_refl _
    · rcases List.mem_cons.1 h with h | h
      · rw [h, List.length_take]; omega
      · have := splitK_len sep k _ w h
        rw [List.length_drop] at this
        omega

theorem split_any (s : ByteArray) (hs : s.size ≤ 1000000) (w : World) (hL : LW w) : Calls Tryz.prog 55 #[.string s, .string ⟨#[32]⟩] w fun e w' => ∃ ws : List ByteArray, e = .returned (.slice (some ⟨w.heap.size, 0, none⟩) ws.length ws.length) ∧
    w' = w.alloc (.cells (ws.map Value.string).toArray 9) ∧ ws.map (·.data.toList) = Lib.split s.data.toList [32] ∧ ws.length ≤ s.size + 1 ∧ ∀ x ∈ ws, x.size ≤ s.size := by
  obtain ⟨m, hm⟩ := hL.maxl
  refine (Tryz.strings_Split s ⟨#[32]⟩ m w (by omega) hm (by decide)).mono ?_
  rintro e w' ⟨rfl, rfl⟩
  have hlen := Lib.splitB_all ⟨#[32]⟩ (by decide) 0 _ s rfl
  have hle := Lib.countB_le ⟨#[32]⟩ (by decide) s.size s (Nat.le_refl _)
  refine ⟨Lib.splitB ⟨#[32]⟩ 0 (Lib.countB s ⟨#[32]⟩) s, by rw [hlen], rfl, ?_, by rw [hlen]; omega, ?_⟩
  · rw [Lib.splitB_data]
    rfl
  · intro x hx
    have h1 : x.data.toList ∈ (Lib.splitB ⟨#[32]⟩ 0 (Lib.countB s ⟨#[32]⟩) s).map (·.data.toList) := List.mem_map.2 ⟨x, hx, rfl⟩
    rw [Lib.splitB_data] at h1
    have := splitK_len _ _ _ _ h1
    simpa using this
end Go.Proofs.YtlompphnngnaiaaGreatDoor
namespace Go.Proofs.YtlompphnngnaiaaGreatDoor
open Go.RowKit

/-- A character that may stand in a text. -/
def okr (c : Int) : Prop := c = 32 ∨ c = 45 ∨ (48 ≤ c ∧ c ≤ 57)
theorem okr_of {c : UInt8} (h : c = 32 ∨ okc c) : okr (c.toNat : Int) := by
  unfold okr
  rcases h with rfl | h
  · exact .inl rfl
  · unfold okc dgt at h
    omega
theorem read_bad {s : ByteArray} {p : Nat} (hp : p < s.size) (h : ¬ okr ((s[p]'hp).toNat : Int)) : ReadV s.data.toList = ([], 5) :=
  read_none fun l _ e => h (okr_of (textB_okc l _ (by rw [e]; exact List.getElem_mem (l := s.data.toList) (by simpa using hp))))
theorem data_inj {a b : ByteArray} (h : a.data.toList = b.data.toList) : a = b := by
  obtain ⟨⟨x⟩⟩ := a
  obtain ⟨⟨y⟩⟩ := b
  have : x = y := by simpa using h
  rw [this]
theorem data_len (s : ByteArray) : s.data.toList.length = s.size := by simp

/-- Whoever's text it is, all its words are numerals. -/
theorem read_words {s : List UInt8} {w : List UInt8} (hw : w ∈ Lib.split s [32]) (h : ∀ v, Lib.atoiAll w ≠ .ok v) (hne : s ≠ []) : ReadV s = ([], 5) :=
  read_none fun l hl e => by
    have hl0 : l ≠ [] := fun h0 => hne (by rw [← e, h0]; rfl)
    rw [← e] at hw
    unfold textB at hw
    rw [split_join _ (by simpa using hl0) (fun w hw => by obtain ⟨x, _, rfl⟩ := List.mem_map.1 hw; exact itoa_sp x)] at hw
    obtain ⟨x, hx, rfl⟩ := List.mem_map.1 hw
    have := lit_small (((mayB_iff l).1 hl).2 x hx)
    exact h x (atoi_itoa x (by omega))
theorem atoi_64 {l : List UInt8} {v : Int} (h : Lib.atoiAll l = .ok v) : I64 v := by
  unfold Lib.atoiAll at h
  cases l with
  | nil => cases h
  | cons c r =>
    simp only at h
    split at h
    · cases h
    · cases h
    · rename_i u hu
      split at h
      · cases h
      · rename_i h1
        split at h
        · cases h
        · rename_i h2
          injection h with h
          unfold I64
          split at h
          · rename_i h3
            have : ¬ 9223372036854775808 < u := fun k => h2 ⟨h3, k⟩
            omega
          · rename_i h3
            have : ¬ 9223372036854775808 ≤ u := fun k => h1 ⟨h3, k⟩
            omega

def wordsV (ws : List ByteArray) : List Int := ws.map fun b => wordV b.data.toList

set_option maxRecDepth 100000 in
set_option maxHeartbeats 4000000 in
theorem Read_any (s : ByteArray) (hs : s.size ≤ 1000000) (w : World) (hL : LW w) :
    Calls Tryz.prog 14 #[.string s] w fun e w' => ∃ v, e = .returned (.tuple #[v, .int .i64 (ReadV s.data.toList).2]) ∧ OwnI w' w.heap.size v (ReadV s.data.toList).1 ∧ Ext w w' := by
  generalize hR : ReadV s.data.toList = R
  have HR := Lib.hid hR
  have HL := Lib.hid hL
  clear hR hL
  by_cases h0 : s.size = 0
  · have hse : s = ⟨#[]⟩ := data_inj (List.eq_nil_of_length_eq_zero (by simpa using h0))
    subst hse
    have hr : R = ([], 0) := by rw [← HR.out]; rfl
    subst hr
    clear h0
    go_enter Tryz.func14, Tryz.ntmps14
    go_wp2
    go_ret2
    exact ⟨_, rfl, OwnI.nil _ _, Ext.refl _⟩
  · have hne : s.toList.isEmpty = false := by
      rw [ByteArray.toList_eq]
      cases hd : s.data.toList with
      | nil => exact absurd (by have := congrArg List.length hd; simpa using this) h0
      | cons c r => rfl
    have HNE : Hid (s.data.toList ≠ []) := Lib.hid (fun e => h0 (by have := congrArg List.length e; simpa using this))
    clear h0
    go_enter Tryz.func14, Tryz.ntmps14
    go_wp2
    go_loopg [5] s.size (fun gn _ wr => ∃ pos : Nat, pos ≤ s.size ∧ gn + pos = s.size ∧ wr = w.iter s pos)
    case atStart => exact ⟨0, Nat.zero_le _, by omega, rfl⟩
    case round =>
      obtain ⟨pos, hpos, hgp, rfl⟩ := hrel
      by_cases hp : pos < s.size
      · by_cases hlow : (s[pos]'hp).toNat < 128
        · have hnx := fun ty => run_next_ascii (P := Tryz.prog) w s pos ty hp hlow
          have HBAD := Lib.hid (read_bad hp)
          obtain ⟨v, hv⟩ : ∃ v : Int, v = ((s[pos]'hp).toNat : Int) := ⟨_, rfl⟩
          have hv0 : 0 ≤ v := by omega
          have hv1 : v < 128 := by omega
          rw [← hv] at hnx HBAD
          clear hv hlow
          by_cases c1 : v = 32
          · subst c1
            go_wp2
            go_roundg (s.size - (pos + 1))
            case measure => omega
            case rel => exact ⟨pos + 1, by omega, by omega, rfl⟩
          · by_cases c2 : v = 45
            · subst c2
              go_wp2
              go_roundg (s.size - (pos + 1))
              case measure => omega
              case rel => exact ⟨pos + 1, by omega, by omega, rfl⟩
            · have b1 : (v != 32) = true := by simpa using c1
              have b2 : (v != 45) = true := by simpa using c2
              by_cases c3 : 48 ≤ v
              · by_cases c4 : v ≤ 57
                · have b3 : decide (v < 48) = false := by rw [decide_eq_false_iff_not]; omega
                  have b4 : decide (57 < v) = false := by rw [decide_eq_false_iff_not]; omega
                  clear c1 c2
                  go_wp2
                  go_roundg (s.size - (pos + 1))
                  case measure => omega
                  case rel => exact ⟨pos + 1, by omega, by omega, rfl⟩
                · have b3 : decide (v < 48) = false := by rw [decide_eq_false_iff_not]; omega
                  have b4 : decide (57 < v) = true := by rw [decide_eq_true_eq]; omega
                  have HN : Hid (R = ([], 5)) := Lib.hid (HR.out.symm.trans (HBAD.out (by unfold okr; omega)))
                  clear c1 c2
                  go_wp2
                  go_ret2
                  exact ⟨_, by rw [HN.out]; rfl, by rw [HN.out]; exact OwnI.nil _ _, Ext.alloc w _⟩
              · have b3 : decide (v < 48) = true := by rw [decide_eq_true_eq]; omega
                have HN : Hid (R = ([], 5)) := Lib.hid (HR.out.symm.trans (HBAD.out (by unfold okr; omega)))
                clear c1 c2
                go_wp2
                go_ret2
                exact ⟨_, by rw [HN.out]; rfl, by rw [HN.out]; exact OwnI.nil _ _, Ext.alloc w _⟩
        · have hnx := fun ty => run_next_any (P := Tryz.prog) w s pos ty hp
          have HN : Hid (R = ([], 5)) := Lib.hid (HR.out.symm.trans (read_bad hp (by unfold okr; omega)))
          have hd1 := (decode_high s pos hp (by omega)).1
          have hd2 := decode_le s pos
          obtain ⟨v, hv⟩ : ∃ v : Int, v = ((Utf8.decode s pos).1 : Int) := ⟨_, rfl⟩
          have hv0 : 128 ≤ v := by omega
          have hv1 : v ≤ 2147483647 := by omega
          obtain ⟨q, hq⟩ : ∃ q : Nat, q = pos + (Utf8.decode s pos).2 := ⟨_, rfl⟩
          rw [← hv, ← hq] at hnx
          clear hv hq hlow hd1 hd2
          have b1 : (v != 32) = true := by simp; omega
          have b2 : (v != 45) = true := by simp; omega
          have b3 : decide (v < 48) = false := by rw [decide_eq_false_iff_not]; omega
          have b4 : decide (57 < v) = true := by rw [decide_eq_true_eq]; omega
          go_wp2
          go_ret2
          exact ⟨_, by rw [HN.out]; rfl, by rw [HN.out]; exact OwnI.nil _ _, Ext.alloc w _⟩
      · have hnx := fun ty => run_next_end (P := Tryz.prog) w s pos ty hp
        have HE0 : Hid (Ext w (w.iter s pos)) := Lib.hid (Ext.alloc w _)
        have HSP := Lib.hid (split_any s hs (w.iter s pos) (HL.out.ext HE0.out))
        go_upto_region 9 with fail
        generalize hW0 : w.iter s pos = W0 at HE0 HSP ⊢
        clear hnx hW0
        go_wp2_with (go_at_call 55; refine HSP.out.mono ?_; rintro e w2 ⟨ws, rfl, hw2, hws, hwl, hwx⟩; have HE2 : Hid (Ext w w2) := Lib.hid (HE0.out.trans (by rw [hw2]; exact Ext.alloc _ _)); have HB2 : Hid (Blk w2 W0.heap.size 9 (ws.map Value.string)) := Lib.hid (by rw [hw2]; exact Blk.new W0 _ _); have HWS := Lib.hid hws; have HWX := Lib.hid hwx; clear hw2 hws hwx)
        go_loopg [6, 37] ws.length (fun gn o i wr => ∃ k : Nat, k ≤ ws.length ∧ gn + k = ws.length ∧ i = .int .i64 k ∧ Hid (Ext w2 wr ∧ OwnI wr w2.heap.size o (wordsV (ws.take k))))
        case atStart => exact ⟨0, Nat.zero_le _, by omega, rfl, Ext.refl _, OwnI.nil _ _⟩
        case round =>
          obtain ⟨k, hk, hgk, rfl, HI⟩ := hrel
          obtain ⟨wk, rfl⟩ : ∃ wk : World, wk = wr := ⟨_, rfl⟩
          by_cases hlt : k < ws.length
          · have c0 : wk.cell? ⟨W0.heap.size, k, none⟩ = some (.string ws[k]) := by rw [(HB2.out.ext HI.out.1).cell]; simp [hlt]
            have hxs := HWX.out ws[k] (List.getElem_mem hlt)
            have hin : ws[k].data.toList ∈ Lib.split s.data.toList [32] := by rw [← HWS.out]; exact List.mem_map.2 ⟨_, List.getElem_mem hlt, rfl⟩
            have hLk := HL.out.ext (HE2.out.trans HI.out.1)
            have hsn : wordsV (ws.take (k + 1)) = wordsV (ws.take k) ++ [wordV ws[k].data.toList] := by
              unfold wordsV
              rw [List.take_succ_eq_append_getElem hlt, List.map_append]; rfl
            have hol : (wordsV (ws.take k)).length ≤ 10000000 := by unfold wordsV; rw [List.length_map, List.length_take]; omega
            by_cases hok : ∃ v, Lib.atoiAll ws[k].data.toList = .ok v
            · obtain ⟨v, hv⟩ := hok
              have HA := Lib.hid (atoi_ok ws[k] (by omega) v hv wk)
              rw [show wordV ws[k].data.toList = v by unfold wordV; rw [hv]] at hsn
              have hv64 := atoi_64 hv
              have HSN := Lib.hid hsn
              obtain ⟨b, hb⟩ : ∃ b, b = ws[k] := ⟨_, rfl⟩
              rw [← hb] at c0 HA
              clear hsn hv hin hxs hb hLk
              go_wp2_with (first
                | (go_at_call 56
                   refine HA.out.mono ?_
                   rintro e w3 ⟨rfl, hE⟩
                   have HE3 := Lib.hid (HI.out.1.trans hE)
                   have HO3 := Lib.hid (own_ext HI.out.2 hE)
                   clear hE)
                | (at_builtin
                   refine app_1 rfl (.tmp 48) (.tmp 50) rfl (base := w2.heap.size) (xs := wordsV (ws.take k)) (y := v) rfl rfl HO3.out hol HE3.out.size ?_
                   intro v' w4 hown hg
                   have HOW := Lib.hid hown
                   have HE4 := Lib.hid (hg.toExt HE3.out (fun i hi => (own_typed HO3.out hi.symm).1))
                   clear hown hg))
              go_roundg (ws.length - (k + 1))
              case measure => omega
              case rel => exact ⟨k + 1, by omega, by omega, by go_num, HE4.out, by rw [HSN.out]; exact HOW.out⟩
            · have HN : Hid (R = ([], 5)) := Lib.hid (HR.out.symm.trans (read_words hin (fun v hv => hok ⟨v, hv⟩) HNE.out))
              have HA := Lib.hid (atoi_no ws[k] (by omega) (fun v hv => hok ⟨v, hv⟩) wk hLk)
              obtain ⟨b, hb⟩ : ∃ b, b = ws[k] := ⟨_, rfl⟩
              rw [← hb] at c0 HA
              clear hsn hok hin hxs hb hLk
              go_wp2_with (go_at_call 56
                           refine HA.out.mono ?_
                           rintro e w3 ⟨v, tt, pp, rfl, hE⟩
                           have HE3 := Lib.hid (HE2.out.trans (HI.out.1.trans hE))
                           clear hE)
              go_ret2
              exact ⟨_, by rw [HN.out]; rfl, by rw [HN.out]; exact OwnI.nil _ _, HE3.out⟩
          · have hkn : k = ws.length := by omega
            have hL1 : wordsV ws = readW s.data.toList := by
              unfold readW wordsV
              rw [← HWS.out, List.map_map]
              rfl
            have ho : OwnI wk w.heap.size u6 (readW s.data.toList) := by
              have := HI.out.2
              rw [hkn, List.take_length, hL1] at this
              exact own_lower this HE2.out.size
            have hl64 : All64 (readW s.data.toList) := fun x hx => by
              unfold readW at hx
              obtain ⟨c, _, rfl⟩ := List.mem_map.1 hx
              unfold wordV
              rcases hc : Lib.atoiAll c with v | _ | _
              · exact atoi_64 hc
              · exact ⟨by decide, by decide⟩
              · exact ⟨by decide, by decide⟩
            have HO := Lib.hid ho
            have HEK := Lib.hid (HE2.out.trans HI.out.1)
            have HTX := Lib.hid (Text_any (readW s.data.toList) u6 wk hl64 ho.reads (HL.out.ext HEK.out))
            have hrv := HR.out
            unfold ReadV at hrv
            rw [if_neg HNE.out] at hrv
            clear hL1 ho hl64 hkn
            generalize readW s.data.toList = L at HO HTX hrv
            unfold TextV at HTX
            cases hm : mayB L
            · rw [hm, if_neg (by decide)] at HTX
              rw [hm, if_neg (by simp)] at hrv
              have HRV := Lib.hid hrv
              clear hrv hm
              go_wp2_with (go_at_call 12; refine HTX.out.mono ?_; rintro e w5 ⟨rfl, hE⟩; have HE5 := Lib.hid (HEK.out.trans hE); clear hE)
              go_ret2
              exact ⟨_, by rw [← HRV.out]; rfl, by rw [← HRV.out]; exact OwnI.nil _ _, HE5.out⟩
            · rw [hm, if_pos rfl] at HTX
              rw [hm] at hrv
              by_cases ht : textB L = s.data.toList
              · rw [if_pos ⟨rfl, ht⟩] at hrv
                have HRV := Lib.hid hrv
                have hts : ((bstr (textB L)).toList == s.toList) = true := by
                  rw [ByteArray.toList_eq, ByteArray.toList_eq, bstr_data, ht]; simp
                obtain ⟨tt, htt⟩ : ∃ tt, tt = bstr (textB L) := ⟨_, rfl⟩
                rw [← htt] at HTX hts
                clear hrv hm htt ht
                go_wp2_with (go_at_call 12; refine HTX.out.mono ?_; rintro e w5 ⟨rfl, hE⟩; have HE5 := Lib.hid (HEK.out.trans hE); have HO5 := Lib.hid (own_ext HO.out hE); clear hE)
                go_ret2
                exact ⟨_, by rw [← HRV.out]; rfl, by rw [← HRV.out]; exact HO5.out, HE5.out⟩
              · rw [if_neg (fun h => ht h.2)] at hrv
                have HRV := Lib.hid hrv
                have hts : ((bstr (textB L)).toList == s.toList) = false := by
                  rw [ByteArray.toList_eq, ByteArray.toList_eq, bstr_data]; simpa using ht
                obtain ⟨tt, htt⟩ : ∃ tt, tt = bstr (textB L) := ⟨_, rfl⟩
                rw [← htt] at HTX hts
                clear hrv hm htt ht
                go_wp2_with (go_at_call 12; refine HTX.out.mono ?_; rintro e w5 ⟨rfl, hE⟩; have HE5 := Lib.hid (HEK.out.trans hE); clear hE)
                go_ret2
                exact ⟨_, by rw [← HRV.out]; rfl, by rw [← HRV.out]; exact OwnI.nil _ _, HE5.out⟩
end Go.Proofs.YtlompphnngnaiaaGreatDoor
namespace Go.Proofs.YtlompphnngnaiaaGreatDoor
open Go.RowKit

section
variable {P : Program} {ops : Array Oper} {Q : Exit → Act → World → Prop}

/-- Operation j has come up: its slot holds a value with its property. -/
def Got (ops : Array Oper) (V : Nat → World → Value → Prop) (a : Act) (w : World) (j : Nat) : Prop :=
  ∀ (o : Oper) (d : Tmp), ops[j]? = some o → o.dst = some d → ∃ v, a.tmps[d]? = some v ∧ V j w v
/-- The slots that no operation of the region writes are as they were. -/
def Kep (ops : Array Oper) (a0 a : Act) : Prop := a.defers = a0.defers ∧ a.tmps.size = a0.tmps.size ∧ ∀ t : Tmp, (∀ (k : Nat) (o : Oper), ops[k]? = some o → o.dst ≠ some t) → a.tmps[t]? = a0.tmps[t]?
/-- An operation in a state yields a value with property R. -/
def OpOk (P : Program) (ops : Array Oper) (a : Act) (o : Oper) (w : World) (R : World → Value → Prop) : Prop :=
  (Region.wanted o (yielded ops a.tmps) = true ∧
  ((∃ v w', (execOp a.eval o).run P w = .ok (.value v) w' ∧ Ext w w' ∧ R w' v) ∨
   (∃ f args, (execOp a.eval o).run P w = .ok (.enter f args) w ∧ Calls P f args w fun e w' => ∃ v, e = .returned v ∧ Ext w w' ∧ R w' v))) ∨
  (Region.wanted o (yielded ops a.tmps) = false ∧ R w undef)

/-- R holds of each operation of a list, with its number. -/
def allOps (R : Nat → Oper → Prop) : Nat → List Oper → Prop
  | _, [] => True
  | i, o :: r => R i o ∧ allOps R (i + 1) r
theorem allOps_get {R : Nat → Oper → Prop} : ∀ (l : List Oper) (i : Nat), allOps R i l → ∀ k o, l[k]? = some o → R (i + k) o
  | [], _, _, k, o, h => by simp at h
  | x :: r, i, ⟨h1, h2⟩, k, o, h => by
    cases k with
    | zero =>
      simp at h
      subst h
      exact h1
    | succ k =>
      have := allOps_get r (i + 1) h2 k o (by simpa using h)
      rwa [show i + 1 + k = i + (k + 1) by omega] at this

theorem put_get (a : Act) (d : Tmp) (v : Value) (t : Tmp) : (a.put (some d) v).tmps[t]? = if d = t then (if t < a.tmps.size then some v else none) else a.tmps[t]? := by
  unfold Act.put
  simp only [Array.getElem?_setIfInBounds]
  split
  · rename_i h; subst h; rfl
  · rfl

theorem ready_nil {listed : Array Bool} (hsz : listed.size = ops.size) (hlow : ∀ (k : Nat) (o : Oper), ops[k]? = some o → ∀ e ∈ o.after, e.on < k) (h : Region.ready .any ops listed = []) : ∀ k, k < ops.size → listed[k]? = some true := by
  intro k
  induction k using Nat.strongRecOn with
  | _ k ih =>
    intro hk
    have hk' : k < listed.size := by omega
    rw [Array.getElem?_eq_getElem hk']
    congr 1
    cases hb : listed[k]
    · exfalso
      have ho : ops[k]? = some ops[k] := Array.getElem?_eq_getElem hk
      have : k ∈ Region.ready .any ops listed := mem_ready.2 ⟨by rw [Array.getD_eq_getD_getElem?, Array.getElem?_eq_getElem hk', hb]; rfl, ops[k], ho, fun e he _ => by
        have h1 := hlow k _ ho e he
        rw [Array.getD_eq_getD_getElem?, ih e.on h1 (by omega)]; rfl⟩
      rw [h] at this
      cases this
    · rfl

theorem wpAny_mono {a0 : Act} {W : World} (V : Nat → World → Value → Prop) (hV : ∀ k w w' v, Ext w w' → V k w v → V k w' v)
    (hdst : ∀ (k : Nat) (o : Oper), ops[k]? = some o → ∃ d : Tmp, o.dst = some d ∧ d < a0.tmps.size)
    (hinj : ∀ (j k : Nat) (oj ok : Oper) (d : Tmp), ops[j]? = some oj → ops[k]? = some ok → oj.dst = some d → ok.dst = some d → j = k)
    (hlow : ∀ (k : Nat) (o : Oper), ops[k]? = some o → ∀ e ∈ o.after, e.on < k)
    (hstep : ∀ (k : Nat) (o : Oper), ops[k]? = some o → ∀ a w, Ext W w → Kep ops a0 a → (∀ e ∈ o.after, Region.binds .any e = true → Got ops V a w e.on) → OpOk P ops a o w (V k))
    (hend : ∀ a w, Ext W w → Kep ops a0 a → (∀ k, k < ops.size → Got ops V a w k) → Q .normal a w) :
    ∀ (fuel : Nat) (listed : Array Bool) (a : Act) (w : World), listed.size = ops.size → (listed.toList.filter (· == false)).length ≤ fuel →
      Ext W w → Kep ops a0 a → (∀ k, listed[k]? = some true → Got ops V a w k) →
      wpAny P .any ops Q fuel listed a w := by
  intro fuel
  induction fuel with
  | zero =>
    intro listed a w hsz hf hE hK hG
    have hall : ∀ k, k < ops.size → listed[k]? = some true := fun k hk => by
      have hk' : k < listed.size := by omega
      rw [Array.getElem?_eq_getElem hk']
      congr 1
      cases hb : listed[k]
      · have hm : listed[k] ∈ listed.toList := by simp
        have : listed[k] ∈ listed.toList.filter (· == false) := List.mem_filter.2 ⟨hm, by rw [hb]; rfl⟩
        have h0 : (listed.toList.filter (· == false)) = [] := List.length_eq_zero_iff.1 (by omega)
        rw [h0] at this
        cases this
      · rfl
    refine ⟨?_, hend a w hE hK fun k hk => hG k (hall k hk)⟩
    cases hrr : Region.ready .any ops listed with
    | nil => rfl
    | cons i r =>
      have hi : i ∈ Region.ready .any ops listed := by rw [hrr]; simp
      obtain ⟨h1, o, ho, -⟩ := mem_ready.1 hi
      have hlt : i < ops.size := (Array.getElem?_eq_some_iff.1 ho).1
      have := hall i hlt
      rw [Array.getD_eq_getD_getElem?, this] at h1
      simp at h1
  | succ fuel ih =>
    intro listed a w hsz hf hE hK hG
    refine ⟨fun h0 => ?_, fun i hi => ?_⟩
    · exact hend a w hE hK fun k hk => hG k (ready_nil hsz hlow h0 k hk)
    · obtain ⟨h1, o, ho, hafter⟩ := mem_ready.1 hi
      have hlt : i < ops.size := (Array.getElem?_eq_some_iff.1 ho).1
      have hli : i < listed.size := by omega
      obtain ⟨d, hd, hds⟩ := hdst i o ho
      have hdeps : ∀ e ∈ o.after, Region.binds .any e = true → Got ops V a w e.on := fun e he hb => by
        have := hafter e he hb
        refine hG e.on ?_
        rw [Array.getD_eq_getD_getElem?] at this
        cases hh : listed[e.on]? with
        | none => rw [hh] at this; simp at this
        | some b => rw [hh] at this; simp at this; rw [this]
      have hst := hstep i o ho a w hE hK hdeps
      -- what comes behind
      have next : ∀ v w', Ext w w' → V i w' v → wpAny P .any ops Q fuel (listed.setIfInBounds i true) (a.put (some d) v) w' := fun v w' hE' hv => by
        refine ih _ _ _ (by simpa using hsz) ?_ (hE.trans hE') ?_ ?_
        · have hb : listed[i] = false := by
            rw [Array.getD_eq_getD_getElem?, Array.getElem?_eq_getElem hli] at h1
            simpa using h1
          have hset : (listed.setIfInBounds i true).toList = listed.toList.set i true := by simp
          rw [hset]
          have hl : i < listed.toList.length := by simpa using hli
          have hsplit : listed.toList = listed.toList.take i ++ listed.toList[i] :: listed.toList.drop (i + 1) := by
            rw [← List.drop_eq_getElem_cons hl, List.take_append_drop]
          have hs2 : listed.toList.set i true = listed.toList.take i ++ true :: listed.toList.drop (i + 1) := by
            rw [List.set_eq_take_append_cons_drop, if_pos hl]
          have hb' : listed.toList[i] = false := by simpa using hb
          rw [hs2]
          rw [hsplit, hb'] at hf
          simp only [List.filter_append, List.filter_cons, List.length_append] at hf ⊢
          simp at hf ⊢
          omega
        · refine ⟨hK.1, by unfold Act.put; simpa using hK.2.1, fun t ht => ?_⟩
          rw [put_get, if_neg (fun e => ht i o ho (by rw [hd, e]))]
          exact hK.2.2 t ht
        · intro k hk ok dk hok' hdk
          by_cases hki : k = i
          · subst hki
            have e1 : ok = o := by rw [ho] at hok'; injection hok' with e; exact e.symm
            subst e1
            have e2 : dk = d := by rw [hd] at hdk; injection hdk with e; exact e.symm
            subst e2
            refine ⟨v, ?_, hv⟩
            rw [put_get, if_pos rfl, if_pos (by rw [hK.2.1]; exact hds)]
          · have hk2 : listed[k]? = some true := by
              rw [Array.getElem?_setIfInBounds, if_neg (fun e => hki e.symm)] at hk
              exact hk
            obtain ⟨u, hu1, hu2⟩ := hG k hk2 ok dk hok' hdk
            refine ⟨u, ?_, hV _ _ _ _ hE' hu2⟩
            rw [put_get, if_neg (fun e => hki (hinj k i ok o dk hok' ho hdk (by rw [hd, e])))]
            exact hu1
      unfold wpOp
      rw [ho]
      simp only
      rcases hst with ⟨hw, hok⟩ | ⟨hw, hr⟩
      case inr =>
        rw [hw, if_neg (by simp), hd]
        exact next undef w (Ext.refl w) hr
      rw [if_pos hw]
      left
      unfold Oper.wp
      rcases hok with ⟨v, w', hrun, hE', hv⟩ | ⟨f, args, hrun, hc⟩
      · rw [hrun]
        show wpAny P .any ops Q fuel (listed.setIfInBounds i true) (a.put o.dst v) w'
        rw [hd]
        exact next v w' hE' hv
      · rw [hrun, Oper.upon_enter]
        refine hc.mono fun e w' he => ?_
        obtain ⟨v, rfl, hE', hv⟩ := he
        show wpAny P .any ops Q fuel (listed.setIfInBounds i true) (a.put o.dst v) w'
        rw [hd]
        exact next v w' hE' hv

/-- Each operation writes a slot below N. -/
def dstLt (N : Nat) (o : Oper) : Bool := match o.dst with | some d => decide (d < N) | none => false
/-- No two operations write the same slot. -/
def dstB : List Oper → Bool
  | [] => true
  | o :: r => r.all (fun o' => o'.dst != o.dst) && dstB r
/-- The facts about a region's operations, each told once. -/
theorem wp_region_mono {id : Nat} {a0 : Act} {W : World} (hm : P.follows .mixedOrders = true) (V : Nat → World → Value → Prop) (hV : ∀ k w w' v, Ext w w' → V k w v → V k w' v)
    (N : Nat) (hN : a0.tmps.size = N) (hdst : (ops.toList.all (dstLt N)) = true)
    (hinj : dstB ops.toList = true)
    (hlow : (ops.toList.zipIdx.all fun p => p.1.after.toList.all fun e => decide (e.on < p.2)) = true)
    (hstep : allOps (fun k o => ∀ a w, Ext W w → Kep ops a0 a → (∀ e ∈ o.after, Region.binds .any e = true → Got ops V a w e.on) → OpOk P ops a o w (V k)) 0 ops.toList)
    (hend : ∀ a w, Ext W w → Kep ops a0 a → (∀ k, k < ops.size → Got ops V a w k) → Q .normal a w) : (Code.region id ops true).wp P Q a0 W := by
  refine wp_region_any hm ?_
  have hget : ∀ (k : Nat) (o : Oper), ops[k]? = some o → ops.toList[k]? = some o := fun k o h => by simpa using h
  have hd1 : ∀ (k : Nat) (o : Oper), ops[k]? = some o → ∃ d : Tmp, o.dst = some d ∧ d < a0.tmps.size := fun k o h => by
    have := List.all_eq_true.1 hdst o (List.mem_of_getElem? (hget k o h))
    unfold dstLt at this
    cases hd : o.dst with
    | none => rw [hd] at this; simp at this
    | some d => rw [hd] at this; exact ⟨d, rfl, by rw [hN]; simpa using this⟩
  refine wpAny_mono (W := W) V hV hd1 ?_ ?_ ?_ hend ops.size _ a0 _ (by simp) (by simp) ⟨rfl, rfl, rfl, Nat.le_refl _, fun _ _ => rfl⟩ ⟨rfl, rfl, fun _ _ => rfl⟩ ?_
  · intro j k oj ok d hj hk hdj hdk
    have key : ∀ (l : List Oper), dstB l = true → ∀ (j k : Nat) (oj ok : Oper), l[j]? = some oj → l[k]? = some ok → oj.dst = some d → ok.dst = some d → j = k := by
      intro l
      induction l with
      | nil => intro _ j k oj ok h; simp at h
      | cons x l ih =>
        intro hn j k oj ok h1 h2 h3 h4
        have hn := Bool.and_eq_true_iff.1 hn
        have hin : ∀ (m : Nat) (o : Oper), l[m]? = some o → o.dst = some d → x.dst = some d → False := fun m o hm ho hx => by
          have := List.all_eq_true.1 hn.1 o (List.mem_of_getElem? hm)
          rw [ho, hx] at this
          simp at this
        cases j with
        | zero =>
          cases k with
          | zero => rfl
          | succ k =>
            simp at h1 h2
            subst h1
            exact (hin k ok h2 h4 h3).elim
        | succ j =>
          cases k with
          | zero =>
            simp at h1 h2
            subst h2
            exact (hin j oj h1 h3 h4).elim
          | succ k =>
            simp at h1 h2
            rw [ih hn.2 j k oj ok h1 h2 h3 h4]
    exact key ops.toList hinj j k oj ok (hget j oj hj) (hget k ok hk) hdj hdk
  · intro k o h e he
    have h1 := List.all_eq_true.1 hlow (o, k) (by
      rw [List.mem_zipIdx_iff_getElem?]
      exact hget k o h)
    simpa using List.all_eq_true.1 h1 e (by simpa using he)
  · intro k o h a w hE hK hdeps
    have := allOps_get ops.toList 0 hstep k o (hget k o h)
    rw [Nat.zero_add] at this
    exact this a w hE hK hdeps
  · intro k hk
    rw [Array.getElem?_replicate] at hk
    split at hk
    · cases hk
    · cases hk

theorem ok_val {a : Act} {o : Oper} {w : World} {R : World → Value → Prop} (hg : Region.wanted o (yielded ops a.tmps) = true) (v : Value) (w' : World) (hrun : (execOp a.eval o).run P w = .ok (.value v) w') (hE : Ext w w') (hR : R w' v) : OpOk P ops a o w R :=
  .inl ⟨hg, .inl ⟨v, w', hrun, hE, hR⟩⟩
theorem ok_call {a : Act} {o : Oper} {w : World} {R : World → Value → Prop} (hg : Region.wanted o (yielded ops a.tmps) = true) (f : FuncId) (args : Array Value) (hrun : (execOp a.eval o).run P w = .ok (.enter f args) w)
    (h : Calls P f args w fun e w' => ∃ v, e = .returned v ∧ Ext w w' ∧ R w' v) : OpOk P ops a o w R :=
  .inl ⟨hg, .inr ⟨f, args, hrun, h⟩⟩
theorem ok_not {a : Act} {o : Oper} {w : World} {R : World → Value → Prop} (hg : Region.wanted o (yielded ops a.tmps) = false) (hR : R w undef) : OpOk P ops a o w R := .inr ⟨hg, hR⟩
theorem eval_of {a : Act} {t : Tmp} {v : Value} (h : a.tmps[t]? = some v) : a.eval (.tmp t) = v := by
  show a.tmps.getD t _ = v
  rw [Array.getD_eq_getD_getElem?, h]; rfl
end
end Go.Proofs.YtlompphnngnaiaaGreatDoor
namespace Go.Proofs.YtlompphnngnaiaaGreatDoor
open Go.RowKit

inductive Kd where
  | tru | num (n : Int) | lit (xs : List Int) | row (xs : List Int) | lits (xss : List (List Int)) | rows (xss : List (List Int)) | fv (f : FuncId) | any | val (x : Value)
def Kd.ok : Kd → World → Value → Prop
  | .tru, _, v => v = .bool true
  | .num n, _, v => v = .int .i64 n
  | .lit xs, w, v => ∃ g, v = slV g xs.length ∧ RI w (slV g xs.length) xs
  | .row xs, w, v => RI w v xs
  | .lits xss, w, v => ∃ g, v = slV g xss.length ∧ RLL w (slV g xss.length) xss
  | .rows xss, w, v => RLL w v xss
  | .fv f, _, v => v = .func (.func f) #[] #[]
  | .any, _, _ => True
  | .val x, _, v => v = x
def Kd.at (ks : List Kd) (k : Nat) : World → Value → Prop := ((ks[k]?).getD .tru).ok
theorem Kd.mono (k : Kd) {w w' : World} {v : Value} (hE : Ext w w') (h : k.ok w v) : k.ok w' v := by
  cases k with
  | tru => exact h
  | num n => exact h
  | lit xs => obtain ⟨g, h1, h2⟩ := h; exact ⟨g, h1, RI.ext h2 hE⟩
  | row xs => exact RI.ext h hE
  | lits xss => obtain ⟨g, h1, h2⟩ := h; exact ⟨g, h1, RLL.ext' h2 hE⟩
  | rows xss => exact RLL.ext' h hE
  | fv f => exact h
  | any => exact h
  | val x => exact h
theorem Kd.at_mono (ks : List Kd) (k : Nat) (w w' : World) (v : Value) (hE : Ext w w') (h : Kd.at ks k w v) : Kd.at ks k w' v := Kd.mono _ hE h

section
variable {P : Program} {ops : Array Oper} {a : Act} {w : World} {o : Oper} {R : World → Value → Prop} {V : Nat → World → Value → Prop}

theorem got {j : Nat} (h : Got ops V a w j) {o : Oper} {d : Tmp} (ho : ops[j]? = some o) (hd : o.dst = some d) : ∃ v, a.tmps[d]? = some v ∧ V j w v := h o d ho hd
theorem Kep.get {a0 : Act} (h : Kep ops a0 a) (t : Tmp) (hn : (ops.toList.all fun o => o.dst != some t) = true) : a.tmps[t]? = a0.tmps[t]? := by
  refine h.2.2 t fun k o ho e => ?_
  have h1 : ops.toList[k]? = some o := by simpa using ho
  have := List.all_eq_true.1 hn o (List.mem_of_getElem? h1)
  rw [e] at this
  simp at this
theorem wanted_none (h : o.guard = none) : Region.wanted o (yielded ops a.tmps) = true := by
  unfold Region.wanted
  rw [h]
theorem wanted_tru {j : Nat} {oj : Oper} {d : Tmp} (h : o.guard = some (j, true)) (ho : ops[j]? = some oj) (hd : oj.dst = some d) (hv : a.tmps[d]? = some (.bool true)) : Region.wanted o (yielded ops a.tmps) = true := by
  have : yielded ops a.tmps j = some true := by
    unfold yielded
    rw [ho]
    show (match (oj.dst.bind fun x => a.tmps[x]?) with | some (.bool b) => some b | _ => none) = some true
    rw [hd]
    show (match a.tmps[d]? with | some (.bool b) => some b | _ => none) = some true
    rw [hv]
  unfold Region.wanted
  rw [h]
  simp [this]

theorem wanted_b {j : Nat} {b c : Bool} {oj : Oper} {d : Tmp} (h : o.guard = some (j, b)) (ho : ops[j]? = some oj) (hd : oj.dst = some d) (hv : a.tmps[d]? = some (.bool c)) : Region.wanted o (yielded ops a.tmps) = (c == b) := by
  have : yielded ops a.tmps j = some c := by
    unfold yielded
    rw [ho]
    show (match (oj.dst.bind fun x => a.tmps[x]?) with | some (.bool b) => some b | _ => none) = some c
    rw [hd]
    show (match a.tmps[d]? with | some (.bool b) => some b | _ => none) = some c
    rw [hv]
  unfold Region.wanted
  rw [h]
  show (yielded ops a.tmps j == some b) = (c == b)
  rw [this]
  cases c <;> cases b <;> rfl
theorem st_move {t : Tmp} {v : Value} (hg : Region.wanted o (yielded ops a.tmps) = true) (ho : o.op = .move (.tmp t)) (h : a.tmps[t]? = some v) (hR : R w v) : OpOk P ops a o w R :=
  ok_val hg v w (by unfold execOp; simp [ho, eval_of h]) (Ext.refl w) hR
theorem st_assign {t : Tmp} {v : Value} (hg : Region.wanted o (yielded ops a.tmps) = true) (ho : o.op = .assign (.tmp t)) (h : a.tmps[t]? = some v) (hR : R w v) : OpOk P ops a o w R :=
  ok_val hg v w (by unfold execOp; simp [ho, eval_of h]) (Ext.refl w) hR
theorem st_pick {c t : Tmp} {b : Operand} {v : Value} (hg : Region.wanted o (yielded ops a.tmps) = true) (ho : o.op = .pick (.tmp c) (.tmp t) b) (hc : a.tmps[c]? = some (.bool true)) (h : a.tmps[t]? = some v) (hR : R w v) : OpOk P ops a o w R :=
  ok_val hg v w (by unfold execOp; simp [ho, eval_of h, eval_of hc, asBool]) (Ext.refl w) hR
theorem st_run {v : Value} (hg : Region.wanted o (yielded ops a.tmps) = true) (hrun : (execOp a.eval o).run P w = .ok (.value v) w) (hR : R w v) : OpOk P ops a o w R :=
  ok_val hg v w hrun (Ext.refl w) hR
theorem st_lit (hg : Region.wanted o (yielded ops a.tmps) = true) (t e : TypeId) (len : Nat) (parts : Array (Nat × Operand)) (ho : o.op = .buildSlice t len parts) (hu : P.underlying t = some (.slice e)) (cells : Array Value)
    (hf : P.builtSlice e len (parts.map fun (i, x) => (i, a.eval x)).toList = some cells)
    (hR : R (w.alloc (.cells cells e)) (.slice (some ⟨w.heap.size, 0, none⟩) len len)) : OpOk P ops a o w R := by
  refine ok_val hg (.slice (some ⟨w.heap.size, 0, none⟩) len len) (w.alloc (.cells cells e)) ?_ (Ext.alloc w _) hR
  unfold Program.builtSlice at hf
  cases hie : P.info? e with
  | none => simp [hie] at hf
  | some ie =>
    simp only [hie] at hf
    cases hz : ie.zero with
    | none => simp [hz] at hf
    | some z =>
      simp only [hz] at hf
      by_cases hc : len * ie.size > 2 ^ 24 ∨ len * ie.size = 0
      · simp [hc] at hf
      · rw [if_neg hc] at hf
        unfold execOp
        simp only [ho, Sem.run_bind, run_buildSlice w t e len _ cells ie z hu hie hz (fun h' => hc (Or.inl h')) (fun h' => hc (Or.inr h')) hf, Result.andThen_ok]
        rfl
theorem st_call (x : Operand) (ys : Array Operand) (ts : Array TypeId) (ho : o.op = .call { callee := .value x, args := ys, argTypes := ts }) (hg : Region.wanted o (yielded ops a.tmps) = true)
    {f : FuncId} (hv : a.eval x = .func (.func f) #[] #[]) (hf : Fv P f) (args : Array Value) (ha : ys.map a.eval = args)
    (h : Calls P f args w fun e w' => ∃ v, e = .returned v ∧ Ext w w' ∧ R w' v) : OpOk P ops a o w R := by
  refine ok_call hg f args ?_ h
  unfold execOp
  simp [ho, resolve, Deferred.ofValue, hv, invoke, ha, run_enter hf]
end
end Go.Proofs.YtlompphnngnaiaaGreatDoor
namespace Go.Proofs.YtlompphnngnaiaaGreatDoor

theorem norm1 : NormV [3, -1, 3] = ([-1, 3], 0) := by decide
theorem norm2 : NormV [2, 1, -2] = ([], 10) := by decide
theorem norm3 : NormV [65537] = ([], 2) := by decide
theorem resE1 : ResolveV [1, 2] [-2, 3] 2 = ([1, 3], 0) := by decide +kernel
theorem resE2 : ResolveV [1, 2] [-1, -2] 2 = ([], 10) := by decide +kernel
theorem resE3 : ResolveV [1, 2] [-1, -2] 3 = ([], 6) := by decide +kernel
theorem textE1 : TextV [-1, 3] = ([45, 49, 32, 51], 0) := by
  unfold TextV
  rw [if_pos (by decide)]
  unfold textB
  rw [List.map_cons, List.map_cons, List.map_nil, join_two, Go.Lib.join_one]
  have h1 : Go.Lib.itoa (-1) = [45, 49] := by
    unfold Go.Lib.itoa
    rw [if_pos (by decide), dec_small (by decide)]; rfl
  have h2 : Go.Lib.itoa 3 = [51] := by
    unfold Go.Lib.itoa
    rw [if_neg (by decide), dec_small (by decide)]; rfl
  rw [h1, h2]; rfl
theorem readE1 : ReadV [50, 32, 49] = ([], 5) := by
  have h1 : Go.Lib.itoa 2 = [50] := by
    unfold Go.Lib.itoa
    rw [if_neg (by decide), dec_small (by decide)]; rfl
  have h2 : Go.Lib.itoa 1 = [49] := by
    unfold Go.Lib.itoa
    rw [if_neg (by decide), dec_small (by decide)]; rfl
  have h3 : textB [2, 1] = [50, 32, 49] := by
    unfold textB
    rw [List.map_cons, List.map_cons, List.map_nil, join_two, Go.Lib.join_one, h1, h2]; rfl
  rw [← h3]
  unfold ReadV
  rw [readW_text (by simp) (by intro x hx; simp at hx; rcases hx with rfl | rfl <;> decide)]
  rw [if_neg (by rw [h3]; simp), if_neg (fun h => absurd h.1 (by decide))]
theorem strikeE1 : StrikeV [-1, 2] [1, 2, 3] = 1 := by decide
theorem strikeE2 : StrikeV [-1, 2] [1, 3] = 0 := by decide
theorem cmpE1 : cmpL [2] [1, 5] = 1 := by decide
theorem varsE1 : VarsV [[2, -7], [7, 0]] = [2, 7] := by
  rw [← sortC_vars]
  refine sorted_ext (r := fun a b : Int => a < b) (fun a b h k => by omega) (sortC_spec _).1 (by simp) fun y => ?_
  rw [(sortC_spec _).2]
  have : varsAll [[2, -7], [7, 0]] = [2, 7, 7] := by decide
  rw [this]
  simp
end Go.Proofs.YtlompphnngnaiaaGreatDoor
namespace Go.Proofs.YtlompphnngnaiaaGreatDoor
open Go.RowKit

theorem lit0b (w : World) (o : Obj) (xs : List Int) (h : xs.length ≤ 100) : RI ((w.alloc o).alloc (rowO xs)) (slV (w.heap.size + 1) xs.length) xs := by
  have := lit0 (w.alloc o) xs h
  rwa [show (w.alloc o).heap.size = w.heap.size + 1 by simp] at this
theorem ext2 (w : World) (o o' : Obj) : Ext w ((w.alloc o).alloc o') := (Ext.alloc w o).trans (Ext.alloc _ _)

theorem lit_at {w w' : World} {g n : Nat} {xs : List Int} (hw : w' = w.alloc (rowO xs)) (hg : g = w.heap.size) (hn : n = xs.length) (h : xs.length ≤ 100) : RI w' (slV g n) xs := by
  subst hw hg hn
  exact lit0 w xs h
theorem strike1 (g g' : Nat) (w : World) (h : RI w (slV g 2) [-1, 2]) (k : RI w (slV g' 3) [1, 2, 3]) : Calls Tryz.prog 21 #[slV g 2, slV g' 3] w fun e w' => e = .returned (.int .i64 1) ∧ w = w' := by
  have := Strike_any [-1, 2] [1, 2, 3] _ _ w (all64_of _ (by decide)) (all64_of _ (by decide)) h k
  rwa [strikeE1] at this
theorem strike2 (g g' : Nat) (w : World) (h : RI w (slV g 2) [-1, 2]) (k : RI w (slV g' 2) [1, 3]) : Calls Tryz.prog 21 #[slV g 2, slV g' 2] w fun e w' => e = .returned (.int .i64 0) ∧ w = w' := by
  have := Strike_any [-1, 2] [1, 3] _ _ w (all64_of _ (by decide)) (all64_of _ (by decide)) h k
  rwa [strikeE2] at this
theorem compare1 (g g' : Nat) (w : World) (h : RI w (slV g 1) [2]) (k : RI w (slV g' 2) [1, 5]) : Calls Tryz.prog 29 #[slV g 1, slV g' 2] w fun e w' => e = .returned (.int .i64 1) ∧ Ext w w' := by
  have := Compare_any [2] [1, 5] _ _ w (all64_of _ (by decide)) (all64_of _ (by decide)) h k
  rw [cmpE1] at this
  exact this.mono fun _ _ ⟨h1, h2⟩ => ⟨h1, h2.ext⟩
theorem vars1 (g : Nat) (w : World) (h : RLL w (slV g 2) [[2, -7], [7, 0]]) : Calls Tryz.prog 45 #[slV g 2] w fun e w' => ∃ v, e = .returned v ∧ RI w' v [2, 7] ∧ Ext w w' := by
  have := Vars_any [[2, -7], [7, 0]] _ w (all64L_of _ (by decide)) h (by decide)
  rw [varsE1] at this
  exact this.mono fun _ _ ⟨v, h1, h2, h3⟩ => ⟨v, h1, h2.reads, h3⟩

theorem litAll (w : World) (g g' : Nat) (h : RI w (slV g 2) [2, -7]) (h' : RI w (slV g' 2) [7, 0]) : RLL (w.alloc (.cells #[slV g 2, slV g' 2] 22)) (slV w.heap.size 2) [[2, -7], [7, 0]] :=
  .two (Blk.new' (by simp)) (h.ext (Ext.alloc _ _)) (h'.ext (Ext.alloc _ _))
theorem fv_strike : Fv Tryz.prog 21 := ⟨_, Tryz.func21, by kernel_rfl, by kernel_rfl⟩
theorem fv_compare : Fv Tryz.prog 29 := ⟨_, Tryz.func29, by kernel_rfl, by kernel_rfl⟩
theorem fv_vars : Fv Tryz.prog 45 := ⟨_, Tryz.func45, by kernel_rfl, by kernel_rfl⟩

def SameAt (w : World) : Prop := w.cell? ⟨0, 0, Option.none⟩ = some (.func (.func 86) #[] #[])

set_option maxRecDepth 100000 in
set_option maxHeartbeats 8000000 in
theorem awake_any (w : World) (hL : LW w) : Calls Tryz.prog 11 #[] w fun e w' => e = .returned (.bool true) ∧ Ext w w' := by
  have HL := Lib.hid hL
  clear hL
  go_enter Tryz.func11, Tryz.ntmps11
  go_upto_region 2 with (go_at_call 31
                         have h := Norm_any [3, -1, 3] _ _ (all64_of _ (by decide)) (lit0 w [3, -1, 3] (by decide))
                         rw [norm1] at h
                         refine h.mono ?_
                         rintro e w1 ⟨v1, rfl, ho, hE⟩
                         have HO1 := Lib.hid ho.reads
                         have HE1 := Lib.hid ((Ext.alloc w _).trans hE)
                         clear ho hE h)
  go_upto_region 3 with (go_at_call 31
                         have h := Norm_any [2, 1, -2] _ _ (all64_of _ (by decide)) (lit0 w1 [2, 1, -2] (by decide))
                         rw [norm2] at h
                         refine h.mono ?_
                         rintro e w2 ⟨v2, rfl, ho, hE⟩
                         have HE2 := Lib.hid ((Ext.alloc w1 _).trans hE)
                         clear ho hE h)
  go_upto_region 4 with (go_at_call 31
                         have h := Norm_any [65537] _ _ (all64_of _ (by decide)) (lit0 w2 [65537] (by decide))
                         rw [norm3] at h
                         refine h.mono ?_
                         rintro e w3 ⟨v3, rfl, ho, hE⟩
                         have HE3 := Lib.hid ((Ext.alloc w2 _).trans hE)
                         clear ho hE h)
  go_upto_region 5 with (go_at_call 18
                         have h := Resolve_any [1, 2] [-2, 3] 2 _ _ _ (all64_of _ (by decide)) (all64_of _ (by decide)) (by unfold I64; decide) ((lit0 w3 [1, 2] (by decide)).ext (Ext.alloc _ _)) (lit0b w3 _ [-2, 3] (by decide))
                         rw [resE1] at h
                         refine h.mono ?_
                         rintro e w4 ⟨v4, rfl, ho, hE⟩
                         have HO4 := Lib.hid ho.reads
                         have HE4 := Lib.hid ((ext2 w3 _ _).trans hE)
                         clear ho hE h)
  go_upto_region 6 with (go_at_call 18
                         have h := Resolve_any [1, 2] [-1, -2] 2 _ _ _ (all64_of _ (by decide)) (all64_of _ (by decide)) (by unfold I64; decide) ((lit0 w4 [1, 2] (by decide)).ext (Ext.alloc _ _)) (lit0b w4 _ [-1, -2] (by decide))
                         rw [resE2] at h
                         refine h.mono ?_
                         rintro e w5 ⟨v5, rfl, ho, hE⟩
                         have HE5 := Lib.hid ((ext2 w4 _ _).trans hE)
                         clear ho hE h)
  go_upto_region 7 with (go_at_call 18
                         have h := Resolve_any [1, 2] [-1, -2] 3 _ _ _ (all64_of _ (by decide)) (all64_of _ (by decide)) (by unfold I64; decide) ((lit0 w5 [1, 2] (by decide)).ext (Ext.alloc _ _)) (lit0b w5 _ [-1, -2] (by decide))
                         rw [resE3] at h
                         refine h.mono ?_
                         rintro e w6 ⟨v6, rfl, ho, hE⟩
                         have HE6 := Lib.hid ((ext2 w5 _ _).trans hE)
                         clear ho hE h)
  have HE16 := Lib.hid (HE2.out.trans (HE3.out.trans (HE4.out.trans (HE5.out.trans HE6.out))))
  have HE46 := Lib.hid (HE5.out.trans HE6.out)
  have HW6 := Lib.hid (HE1.out.trans HE16.out)
  clear HE1 HE2 HE3 HE4 HE5 HE6
  go_upto_region 8 with (go_at_call 12
                         have h := Text_any [-1, 3] _ _ (all64_of _ (by decide)) (lit0 w6 [-1, 3] (by decide)) (HL.out.ext (HW6.out.trans (Ext.alloc _ _)))
                         rw [textE1] at h
                         refine h.mono ?_
                         rintro e w7 ⟨rfl, hE⟩
                         have HE7 := Lib.hid ((Ext.alloc w6 _).trans hE)
                         clear hE h)
  go_upto_region 9 with (go_at_call 14
                         have h := Read_any ⟨#[50, 32, 49]⟩ (by decide) w7 (HL.out.ext (HW6.out.trans HE7.out))
                         rw [show (⟨#[50, 32, 49]⟩ : ByteArray).data.toList = [50, 32, 49] from rfl, readE1] at h
                         refine h.mono ?_
                         rintro e w8 ⟨v8, rfl, ho, hE⟩
                         have HE8 := Lib.hid (HE7.out.trans hE)
                         clear ho hE h)
  have HW8 := Lib.hid (HW6.out.trans HE8.out)
  have HR1 := Lib.hid (HO1.out.ext (HE16.out.trans HE8.out))
  have HR4 := Lib.hid (HO4.out.ext (HE46.out.trans HE8.out))
  have cg : w8.cell? ⟨0, 0, Option.none⟩ = some (.func (.func 86) #[] #[]) := HL.out.same.ext HW8.out
  have hbs : (bstr [45, 49, 32, 51]).toList = [45, 49, 32, 51] := by rw [ByteArray.toList_eq]; rfl
  clear HO1 HO4 HE16 HE46 HW6 HE7 HE8
  go_cut [17] from 60 to 105 (fun s wy => s = .bool true ∧ Hid (Ext w wy))
  case first =>
    go_wp2_with (first
      | (refine wpList_callv (.tmp 63) #[.tmp 64, .tmp 65] _ rfl (by rfl) #[] rfl fv_same #[v1, slV w8.heap.size 2] (by simp only [List.map_toArray, List.map_cons, List.map_nil, List.append_toArray, List.cons_append, List.nil_append]; rfl) ?_
         refine (Same_refl [-1, 3] _ _ _ (HR1.out.ext (Ext.alloc _ _)) (lit0 w8 [-1, 3] (by decide))).mono ?_
         rintro e w9 ⟨rfl, hE⟩
         refine ⟨_, rfl, ?_⟩
         simp only [Act.put, List.setIfInBounds_toArray, List.set_cons_zero, List.set_cons_succ]
         have HE9 := Lib.hid ((Ext.alloc w8 _).trans hE)
         have cg9 : w9.cell? ⟨0, 0, Option.none⟩ = some (.func (.func 86) #[] #[]) := HL.out.same.ext (HW8.out.trans HE9.out)
         clear hE cg)
      | (refine wpList_callv (.tmp 81) #[.tmp 82, .tmp 83] _ rfl (by rfl) #[] rfl fv_same #[v4, slV w9.heap.size 2] (by simp only [List.map_toArray, List.map_cons, List.map_nil, List.append_toArray, List.cons_append, List.nil_append]; rfl) ?_
         refine (Same_refl [1, 3] _ _ _ (HR4.out.ext (HE9.out.trans (Ext.alloc _ _))) (lit0 w9 [1, 3] (by decide))).mono ?_
         rintro e w10 ⟨rfl, hE⟩
         refine ⟨_, rfl, ?_⟩
         simp only [Act.put, List.setIfInBounds_toArray, List.set_cons_zero, List.set_cons_succ]
         have HE10 := Lib.hid (HE9.out.trans ((Ext.alloc w9 _).trans hE))
         clear hE cg9))
    go_meet
    exact ⟨rfl, HW8.out.trans HE10.out⟩
  case rest =>
    obtain ⟨rfl, HCT⟩ := hcut
    have cg : wc.cell? ⟨0, 0, Option.none⟩ = some (.func (.func 86) #[] #[]) := HL.out.same.ext HCT.out
    clear hbs
    go_wp2_with fail
    refine wp_region_mono (W := wc) rfl (Kd.at [.tru, .tru, .lit [-1, 2], .lit [1, 2, 3], .num 1, .tru, .tru, .tru, .lit [-1, 2], .lit [1, 3], .num 0, .tru, .tru, .tru, .lit [2], .lit [1, 5], .num 1, .tru, .tru, .tru, .fv 86, .lit [2, -7], .lit [7, 0], .lits [[2, -7], [7, 0]], .row [2, 7], .lit [2, 7], .tru, .tru, .tru]) (Kd.at_mono _) 134 rfl (by decide) (by decide) (by decide) ?_ ?_
    · refine ⟨?_, ?_, ?_, ?_, ?_, ?_, ?_, ?_, ?_, ?_, ?_, ?_, ?_, ?_, ?_, ?_, ?_, ?_, ?_, ?_, ?_, ?_, ?_, ?_, ?_, ?_, ?_, ?_, ?_, trivial⟩
      · intro a w' hE hK hd
        have h17 : a.tmps[17]? = some (.bool true) := hK.get 17 (by decide)
        exact st_move (wanted_none rfl) rfl h17 rfl
      · intro a w' hE hK hd
        obtain ⟨u0, h0, p0⟩ := got (hd ⟨0, .data⟩ (by simp) rfl) rfl rfl
        obtain rfl : u0 = .bool true := p0
        exact st_move (wanted_none rfl) rfl h0 rfl
      · intro a w' hE hK hd
        obtain ⟨ug, hg, pg⟩ := got (hd ⟨1, .guard⟩ (by simp) rfl) rfl rfl
        obtain rfl : ug = .bool true := pg
        exact st_lit (wanted_tru rfl rfl rfl hg) 22 3 2 _ rfl (by rfl) _ (by simp only [List.map_toArray, List.map_cons, List.map_nil]; kernel_rfl) ⟨w'.heap.size, rfl, lit0 w' [-1, 2] (by decide)⟩
      · intro a w' hE hK hd
        obtain ⟨ug, hg, pg⟩ := got (hd ⟨1, .guard⟩ (by simp) rfl) rfl rfl
        obtain rfl : ug = .bool true := pg
        exact st_lit (wanted_tru rfl rfl rfl hg) 22 3 3 _ rfl (by rfl) _ (by simp only [List.map_toArray, List.map_cons, List.map_nil]; kernel_rfl) ⟨w'.heap.size, rfl, lit0 w' [1, 2, 3] (by decide)⟩
      · intro a w' hE hK hd
        obtain ⟨ug, hg, pg⟩ := got (hd ⟨1, .guard⟩ (by simp) rfl) rfl rfl
        obtain rfl : ug = .bool true := pg
        obtain ⟨u2, h2, p2⟩ := got (hd ⟨2, .data⟩ (by simp) rfl) rfl rfl
        obtain ⟨g2, q2, r2⟩ := p2
        obtain rfl : u2 = slV g2 2 := q2
        obtain ⟨u3, h3, p3⟩ := got (hd ⟨3, .data⟩ (by simp) rfl) rfl rfl
        obtain ⟨g3, q3, r3⟩ := p3
        obtain rfl : u3 = slV g3 3 := q3
        exact st_call _ _ _ rfl (wanted_tru rfl rfl rfl hg) rfl fv_strike _ (by simp only [List.map_toArray, List.map_cons, List.map_nil, eval_of h2, eval_of h3]) (((strike1 _ _ w' r2 r3)).mono fun e w'' H => ⟨_, H.1, H.2 ▸ Ext.refl w', rfl⟩)
      · intro a w' hE hK hd
        obtain ⟨ug, hg, pg⟩ := got (hd ⟨1, .guard⟩ (by simp) rfl) rfl rfl
        obtain rfl : ug = .bool true := pg
        obtain ⟨u4, h4, p4⟩ := got (hd ⟨4, .data⟩ (by simp) rfl) rfl rfl
        obtain rfl : u4 = .int .i64 (1) := p4
        exact st_run (wanted_tru rfl rfl rfl hg) (v := .bool true) (by unfold execOp; simp [eval_of h4]; kernel_rfl) rfl
      · intro a w' hE hK hd
        obtain ⟨u1, h1, p1⟩ := got (hd ⟨1, .data⟩ (by simp) rfl) rfl rfl
        obtain rfl : u1 = .bool true := p1
        obtain ⟨u5, h5, p5⟩ := got (hd ⟨5, .data⟩ (by simp) rfl) rfl rfl
        obtain rfl : u5 = .bool true := p5
        exact st_pick (wanted_none rfl) rfl h1 h5 rfl
      · intro a w' hE hK hd
        obtain ⟨u6, h6, p6⟩ := got (hd ⟨6, .data⟩ (by simp) rfl) rfl rfl
        obtain rfl : u6 = .bool true := p6
        exact st_move (wanted_none rfl) rfl h6 rfl
      · intro a w' hE hK hd
        obtain ⟨ug, hg, pg⟩ := got (hd ⟨7, .guard⟩ (by simp) rfl) rfl rfl
        obtain rfl : ug = .bool true := pg
        exact st_lit (wanted_tru rfl rfl rfl hg) 22 3 2 _ rfl (by rfl) _ (by simp only [List.map_toArray, List.map_cons, List.map_nil]; kernel_rfl) ⟨w'.heap.size, rfl, lit0 w' [-1, 2] (by decide)⟩
      · intro a w' hE hK hd
        obtain ⟨ug, hg, pg⟩ := got (hd ⟨7, .guard⟩ (by simp) rfl) rfl rfl
        obtain rfl : ug = .bool true := pg
        exact st_lit (wanted_tru rfl rfl rfl hg) 22 3 2 _ rfl (by rfl) _ (by simp only [List.map_toArray, List.map_cons, List.map_nil]; kernel_rfl) ⟨w'.heap.size, rfl, lit0 w' [1, 3] (by decide)⟩
      · intro a w' hE hK hd
        obtain ⟨ug, hg, pg⟩ := got (hd ⟨7, .guard⟩ (by simp) rfl) rfl rfl
        obtain rfl : ug = .bool true := pg
        obtain ⟨u8, h8, p8⟩ := got (hd ⟨8, .data⟩ (by simp) rfl) rfl rfl
        obtain ⟨g8, q8, r8⟩ := p8
        obtain rfl : u8 = slV g8 2 := q8
        obtain ⟨u9, h9, p9⟩ := got (hd ⟨9, .data⟩ (by simp) rfl) rfl rfl
        obtain ⟨g9, q9, r9⟩ := p9
        obtain rfl : u9 = slV g9 2 := q9
        exact st_call _ _ _ rfl (wanted_tru rfl rfl rfl hg) rfl fv_strike _ (by simp only [List.map_toArray, List.map_cons, List.map_nil, eval_of h8, eval_of h9]) (((strike2 _ _ w' r8 r9)).mono fun e w'' H => ⟨_, H.1, H.2 ▸ Ext.refl w', rfl⟩)
      · intro a w' hE hK hd
        obtain ⟨ug, hg, pg⟩ := got (hd ⟨7, .guard⟩ (by simp) rfl) rfl rfl
        obtain rfl : ug = .bool true := pg
        obtain ⟨u10, h10, p10⟩ := got (hd ⟨10, .data⟩ (by simp) rfl) rfl rfl
        obtain rfl : u10 = .int .i64 (0) := p10
        exact st_run (wanted_tru rfl rfl rfl hg) (v := .bool true) (by unfold execOp; simp [eval_of h10]; kernel_rfl) rfl
      · intro a w' hE hK hd
        obtain ⟨u7, h7, p7⟩ := got (hd ⟨7, .data⟩ (by simp) rfl) rfl rfl
        obtain rfl : u7 = .bool true := p7
        obtain ⟨u11, h11, p11⟩ := got (hd ⟨11, .data⟩ (by simp) rfl) rfl rfl
        obtain rfl : u11 = .bool true := p11
        exact st_pick (wanted_none rfl) rfl h7 h11 rfl
      · intro a w' hE hK hd
        obtain ⟨u12, h12, p12⟩ := got (hd ⟨12, .data⟩ (by simp) rfl) rfl rfl
        obtain rfl : u12 = .bool true := p12
        exact st_move (wanted_none rfl) rfl h12 rfl
      · intro a w' hE hK hd
        obtain ⟨ug, hg, pg⟩ := got (hd ⟨13, .guard⟩ (by simp) rfl) rfl rfl
        obtain rfl : ug = .bool true := pg
        exact st_lit (wanted_tru rfl rfl rfl hg) 22 3 1 _ rfl (by rfl) _ (by simp only [List.map_toArray, List.map_cons, List.map_nil]; kernel_rfl) ⟨w'.heap.size, rfl, lit0 w' [2] (by decide)⟩
      · intro a w' hE hK hd
        obtain ⟨ug, hg, pg⟩ := got (hd ⟨13, .guard⟩ (by simp) rfl) rfl rfl
        obtain rfl : ug = .bool true := pg
        exact st_lit (wanted_tru rfl rfl rfl hg) 22 3 2 _ rfl (by rfl) _ (by simp only [List.map_toArray, List.map_cons, List.map_nil]; kernel_rfl) ⟨w'.heap.size, rfl, lit0 w' [1, 5] (by decide)⟩
      · intro a w' hE hK hd
        obtain ⟨ug, hg, pg⟩ := got (hd ⟨13, .guard⟩ (by simp) rfl) rfl rfl
        obtain rfl : ug = .bool true := pg
        obtain ⟨u14, h14, p14⟩ := got (hd ⟨14, .data⟩ (by simp) rfl) rfl rfl
        obtain ⟨g14, q14, r14⟩ := p14
        obtain rfl : u14 = slV g14 1 := q14
        obtain ⟨u15, h15, p15⟩ := got (hd ⟨15, .data⟩ (by simp) rfl) rfl rfl
        obtain ⟨g15, q15, r15⟩ := p15
        obtain rfl : u15 = slV g15 2 := q15
        exact st_call _ _ _ rfl (wanted_tru rfl rfl rfl hg) rfl fv_compare _ (by simp only [List.map_toArray, List.map_cons, List.map_nil, eval_of h14, eval_of h15]) (((compare1 _ _ w' r14 r15)).mono fun e w'' H => ⟨_, H.1, H.2, rfl⟩)
      · intro a w' hE hK hd
        obtain ⟨ug, hg, pg⟩ := got (hd ⟨13, .guard⟩ (by simp) rfl) rfl rfl
        obtain rfl : ug = .bool true := pg
        obtain ⟨u16, h16, p16⟩ := got (hd ⟨16, .data⟩ (by simp) rfl) rfl rfl
        obtain rfl : u16 = .int .i64 (1) := p16
        exact st_run (wanted_tru rfl rfl rfl hg) (v := .bool true) (by unfold execOp; simp [eval_of h16]; kernel_rfl) rfl
      · intro a w' hE hK hd
        obtain ⟨u13, h13, p13⟩ := got (hd ⟨13, .data⟩ (by simp) rfl) rfl rfl
        obtain rfl : u13 = .bool true := p13
        obtain ⟨u17, h17, p17⟩ := got (hd ⟨17, .data⟩ (by simp) rfl) rfl rfl
        obtain rfl : u17 = .bool true := p17
        exact st_pick (wanted_none rfl) rfl h13 h17 rfl
      · intro a w' hE hK hd
        obtain ⟨u18, h18, p18⟩ := got (hd ⟨18, .data⟩ (by simp) rfl) rfl rfl
        obtain rfl : u18 = .bool true := p18
        exact st_move (wanted_none rfl) rfl h18 rfl
      · intro a w' hE hK hd
        obtain ⟨ug, hg, pg⟩ := got (hd ⟨19, .guard⟩ (by simp) rfl) rfl rfl
        obtain rfl : ug = .bool true := pg
        exact st_run (wanted_tru rfl rfl rfl hg) (v := .func (.func 86) #[] #[]) (by have cg' := hE.cell cg; unfold execOp; simp [go_sem, cg']; done) rfl
      · intro a w' hE hK hd
        obtain ⟨ug, hg, pg⟩ := got (hd ⟨19, .guard⟩ (by simp) rfl) rfl rfl
        obtain rfl : ug = .bool true := pg
        exact st_lit (wanted_tru rfl rfl rfl hg) 22 3 2 _ rfl (by rfl) _ (by simp only [List.map_toArray, List.map_cons, List.map_nil]; kernel_rfl) ⟨w'.heap.size, rfl, lit0 w' [2, -7] (by decide)⟩
      · intro a w' hE hK hd
        obtain ⟨ug, hg, pg⟩ := got (hd ⟨19, .guard⟩ (by simp) rfl) rfl rfl
        obtain rfl : ug = .bool true := pg
        exact st_lit (wanted_tru rfl rfl rfl hg) 22 3 2 _ rfl (by rfl) _ (by simp only [List.map_toArray, List.map_cons, List.map_nil]; kernel_rfl) ⟨w'.heap.size, rfl, lit0 w' [7, 0] (by decide)⟩
      · intro a w' hE hK hd
        obtain ⟨ug, hg, pg⟩ := got (hd ⟨19, .guard⟩ (by simp) rfl) rfl rfl
        obtain rfl : ug = .bool true := pg
        obtain ⟨u21, h21, p21⟩ := got (hd ⟨21, .data⟩ (by simp) rfl) rfl rfl
        obtain ⟨g21, q21, r21⟩ := p21
        obtain rfl : u21 = slV g21 2 := q21
        obtain ⟨u22, h22, p22⟩ := got (hd ⟨22, .data⟩ (by simp) rfl) rfl rfl
        obtain ⟨g22, q22, r22⟩ := p22
        obtain rfl : u22 = slV g22 2 := q22
        exact st_lit (wanted_tru rfl rfl rfl hg) 33 22 2 _ rfl (by rfl) #[slV g21 2, slV g22 2] (by simp only [List.map_toArray, List.map_cons, List.map_nil, eval_of h21, eval_of h22]; kernel_rfl) ⟨w'.heap.size, rfl, litAll w' g21 g22 r21 r22⟩
      · intro a w' hE hK hd
        obtain ⟨ug, hg, pg⟩ := got (hd ⟨19, .guard⟩ (by simp) rfl) rfl rfl
        obtain rfl : ug = .bool true := pg
        obtain ⟨u23, h23, p23⟩ := got (hd ⟨23, .data⟩ (by simp) rfl) rfl rfl
        obtain ⟨g23, q23, r23⟩ := p23
        obtain rfl : u23 = slV g23 2 := q23
        exact st_call _ _ _ rfl (wanted_tru rfl rfl rfl hg) rfl fv_vars _ (by simp only [List.map_toArray, List.map_cons, List.map_nil, eval_of h23]) ((vars1 _ w' r23).mono fun e w'' ⟨v, H1, H2, H3⟩ => ⟨v, H1, H3, H2⟩)
      · intro a w' hE hK hd
        obtain ⟨ug, hg, pg⟩ := got (hd ⟨19, .guard⟩ (by simp) rfl) rfl rfl
        obtain rfl : ug = .bool true := pg
        exact st_lit (wanted_tru rfl rfl rfl hg) 22 3 2 _ rfl (by rfl) _ (by simp only [List.map_toArray, List.map_cons, List.map_nil]; kernel_rfl) ⟨w'.heap.size, rfl, lit0 w' [2, 7] (by decide)⟩
      · intro a w' hE hK hd
        obtain ⟨ug, hg, pg⟩ := got (hd ⟨19, .guard⟩ (by simp) rfl) rfl rfl
        obtain rfl : ug = .bool true := pg
        obtain ⟨u20, h20, p20⟩ := got (hd ⟨20, .data⟩ (by simp) rfl) rfl rfl
        obtain rfl : u20 = .func (.func 86) #[] #[] := p20
        obtain ⟨u24, h24, p24⟩ := got (hd ⟨24, .data⟩ (by simp) rfl) rfl rfl
        have r24 : RI w' u24 [2, 7] := p24
        obtain ⟨u25, h25, p25⟩ := got (hd ⟨25, .data⟩ (by simp) rfl) rfl rfl
        obtain ⟨g25, q25, r25⟩ := p25
        obtain rfl : u25 = slV g25 2 := q25
        exact st_call _ _ _ rfl (wanted_tru rfl rfl rfl hg) (eval_of h20) fv_same _ (by simp only [List.map_toArray, List.map_cons, List.map_nil, eval_of h24, eval_of h25]; rfl) ((Same_refl [2, 7] _ _ _ r24 r25).mono fun e w'' ⟨H1, H2⟩ => ⟨_, H1, H2, rfl⟩)
      · intro a w' hE hK hd
        obtain ⟨u19, h19, p19⟩ := got (hd ⟨19, .data⟩ (by simp) rfl) rfl rfl
        obtain rfl : u19 = .bool true := p19
        obtain ⟨u26, h26, p26⟩ := got (hd ⟨26, .data⟩ (by simp) rfl) rfl rfl
        obtain rfl : u26 = .bool true := p26
        exact st_pick (wanted_none rfl) rfl h19 h26 rfl
      · intro a w' hE hK hd
        obtain ⟨u27, h27, p27⟩ := got (hd ⟨27, .data⟩ (by simp) rfl) rfl rfl
        obtain rfl : u27 = .bool true := p27
        exact st_assign (wanted_none rfl) rfl h27 rfl
    · intro a w' hE hK hG
      obtain ⟨u, h28, p28⟩ := got (hG 28 (by decide)) rfl rfl
      obtain rfl : u = .bool true := p28
      rename_i K hKK
      refine hKK a w' (wp_ret ?_)
      exact bodyPost_ret (results_tmp rfl _ _ _) hK.1 ⟨congrArg Ending.returned (by rw [Array.getD_eq_getD_getElem?, h28]; rfl), HCT.out.trans hE⟩
end Go.Proofs.YtlompphnngnaiaaGreatDoor
