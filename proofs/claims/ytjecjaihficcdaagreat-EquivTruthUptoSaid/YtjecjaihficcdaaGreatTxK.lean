/- The law EquivTruth returns true for every input whose bulk is at most 1048576, and its arguments read behind the call as before: its one condition is that bulk. -/
import Derived.Test.YtjecjaihficcdaaGreatTxJ
import Derived.Test.YtjecjaihficcdaaGreatTxI
import Derived.Test.YtjecjaihficcdaaGreatTxD
import Derived.Deep.Cut
import Derived.Test.YtjecjaihficcdaaGreatTxE
namespace Go.Proofs.YtjecjaihficcdaaGreat.PEquivNext
open Go.RowKit Go.Proofs.YtjecjaihficcdaaGreatW.PrintWords Go.Proofs.YtjecjaihficcdaaGreatW.PrintMore
theorem seqB_drop (B n : Nat) : ∀ c, c ≤ B → (seqB B n).drop c = seqB (B - c) n := by
 induction B with
 | zero => intro c hc; obtain rfl : c = 0 := by omega
           rfl
 | succ B ih =>
   intro c hc
   cases c with
   | zero => rfl
   | succ c => rw [seqB_succ, List.drop_succ_cons, ih c (by omega)]; congr 1; omega
section
variable (U : List Int) (F : List (List Int)) (X : List (Int × List Int)) (n : Nat) (hx : ∀ x ∈ X, x.2.length ≤ 4) (hX : X.length ≤ 1000000) (hn : n ≤ 1000000)
include hx hX hn
theorem num_l1 (acc : List S177) (i : Nat) (hi : i < X.length) (hacc : acc.length ≤ i) (V : List S177) (v : Int) (on : List Int) (hon : on.length ≤ 4) :
 ∀ (m j left : Nat) (bs : List Bool), j + m = 2 ^ on.length → m ≤ left → left ≤ 20 → bs.length = j →
  Evn (fun k => skolemref04_numbered.l0 k (n : Int) (acc ++ [⟨v, on, bs ++ (seqB left n).take m⟩]) ((left - m : Nat) : Int) ((i + 1 : Nat) : Int) U (s61 X) F) V →
  Evn (fun k => skolemref04_numbered.l1 k (n : Int) acc (left : Int) (i : Int) (j : Int) U (s61 X) F v on bs) V := by
 have _ := hx
 have _ := hX
 have _ := hn
 have hp : 2 ^ on.length ≤ 2 ^ 4 := Nat.pow_le_pow_right (n := 2) (by omega) hon
 intro m
 induction m with
 | zero =>
   intro j left bs hj hml hl hbl h
   refine Evn.succ (fun q => by rw [skolemref04_numbered.l1]) (Evn.pos (by rw [u64n _ (by omega)]; omega) ?_)
   rw [shl1u _ (by omega)]
   refine Evn.neg (by omega) (Evn.pos (by omega) ?_)
   rw [wrap64_nat (i := i) (by omega)]
   rw [List.take_zero, List.append_nil, Nat.sub_zero] at h
   exact h
 | succ m ih =>
   intro j left bs hj hml hl hbl h
   obtain ⟨l2, rfl⟩ : ∃ l2, left = l2 + 1 := ⟨left - 1, by omega⟩
   have ew : wrap64 (((l2 + 1 : Nat) : Int) - 1) = (l2 : Int) := by rw [wrap64_id (by omega) (by omega)]; omega
   refine Evn.succ (fun q => by rw [skolemref04_numbered.l1]) (Evn.pos (by rw [u64n _ (by omega)]; omega) ?_)
   rw [shl1u _ (by omega), ew]
   refine Evn.pos (by omega) (Evn.pos (by rw [u64n _ (by omega)]; omega) (Evn.pos (by omega) ?_))
   rw [bitN n l2 (by omega) (by omega), wrap64_nat (i := j) (by omega)]
   refine ih (j + 1) l2 _ (by omega) (by omega) (by omega) (by rw [List.length_append, hbl]; rfl) ?_
   rw [seqB_succ, List.take_succ_cons, show l2 + 1 - (m + 1) = l2 - m by omega] at h
   have eb : (((n / 2 ^ l2 % 2 : Nat) : Int) == 1) = decide (n / 2 ^ l2 % 2 = 1) := by
    rw [Bool.eq_iff_iff]
    simp only [beq_iff_eq, decide_eq_true_eq]
    omega
   rw [eb, List.append_assoc, List.singleton_append]
   exact h
theorem num_l0 : ∀ (m i : Nat) (acc : List S177), i + m = X.length → acc.length ≤ i → bitsM (X.drop i) ≤ 16 → Evn (fun k => skolemref04_numbered.l0 k (n : Int) acc ((bitsM (X.drop i) : Nat) : Int) (i : Int) U (s61 X) F) (acc ++ s177 (tabs (X.drop i) (seqB (bitsM (X.drop i)) n))) := by
 intro m
 induction m with
 | zero =>
   intro i acc hi ha hb
   rw [List.drop_of_length_le (by omega)]
   exact Evn.succ (fun q => by rw [skolemref04_numbered.l0]) (Evn.neg (by rw [s61_len]; omega) ((Evn.ret _).to (by simp [tabs, s177])))
 | succ m ih =>
   intro i acc hi ha hb
   have hil : i < X.length := by omega
   have hd := bitsM_drop hil
   have hx4 := hx _ (List.getElem_mem hil)
   have hp : 2 ^ X[i].2.length ≤ 2 ^ 4 := Nat.pow_le_pow_right (n := 2) (by omega) hx4
   have hp0 := Nat.two_pow_pos X[i].2.length
   refine Evn.succ (fun q => by rw [skolemref04_numbered.l0]) (Evn.pos (by rw [s61_len]; omega) (Evn.pos (by omega) ?_))
   rw [rdS X i hil]
   simp only [List.nil_append, List.length_nil]
   refine Evn.pos (by omega) ?_
   refine num_l1 U F X n hx hX hn acc i hil ha _ X[i].1 X[i].2 hx4 (2 ^ X[i].2.length) 0 (bitsM (X.drop i)) [] (by omega) (by omega) (by omega) rfl ?_
   rw [show bitsM (X.drop i) - 2 ^ X[i].2.length = bitsM (X.drop (i + 1)) by omega]
   refine (ih (i + 1) _ (by omega) (by rw [List.length_append, List.length_singleton]; omega) (by omega)).to ?_
   rw [List.drop_eq_getElem_cons hil, tabs, List.append_assoc]
   congr 1
   show _ = (⟨X[i].1, X[i].2, _⟩ : S177) :: s177 _
   rw [← List.drop_eq_getElem_cons hil, seqB_drop _ _ _ (by omega), show bitsM (X.drop i) - 2 ^ X[i].2.length = bitsM (X.drop (i + 1)) by omega]
   rfl
theorem numbered_f (hb : bitsM X ≤ 16) : Evn (fun k => skolemref04_numbered.f k U (s61 X) F (n : Int)) (s177 (tabs X (seqB (bitsM X) n))) := by
 unfold skolemref04_numbered.f
 refine Evn.bind (bits_f U F X hx hX hb) ?_
 have := num_l0 U F X n hx hX hn X.length 0 [] (by omega) (by simp) (by simpa using hb)
 simpa using this
end
theorem tabs_len : ∀ (X : List (Int × List Int)) (bs : List Bool), bs.length = bitsM X → ∀ t ∈ tabs X bs, t.2.2.length = 2 ^ t.2.1.length ∧ ∃ x ∈ X, t.1 = x.1 ∧ t.2.1 = x.2
 | [], _, _, t, h => by cases h
 | x :: X, bs, h, t, ht => by
   have hb : bitsM (x :: X) = 2 ^ x.2.length + bitsM X := by simp [bitsM]
   rw [tabs] at ht
   rcases List.mem_cons.1 ht with rfl | ht
   · refine ⟨?_, x, by simp, rfl, rfl⟩
     show (bs.take (2 ^ x.2.length)).length = 2 ^ x.2.length
     rw [List.length_take]; omega
   · obtain ⟨h1, y, hy, h2⟩ := tabs_len X (bs.drop (2 ^ x.2.length)) (by rw [List.length_drop]; omega) t ht
     exact ⟨h1, y, List.mem_cons_of_mem _ hy, h2⟩
theorem tabs_length : ∀ (X : List (Int × List Int)) (bs : List Bool), (tabs X bs).length = X.length
 | [], _ => rfl
 | x :: X, bs => by rw [tabs, List.length_cons, List.length_cons, tabs_length]
theorem ptL_length : ∀ (vs : List Int) (n : Nat), (ptL vs n).length = vs.length
 | [], _ => rfl
 | v :: vs, n => by rw [ptL, List.length_cons, List.length_cons, ptL_length]
section
variable (U : List Int) (F : List (List Int)) (X : List (Int × List Int)) (T : List (Int × List Int × List Bool)) (hU : ∀ v ∈ U, 0 < v ∧ v ≤ 65536) (hUl : U.length ≤ 8) (hF : F.length ≤ 1000000) (hc : ∀ c ∈ F, c.length ≤ 1000000)
 (hT : ∀ t ∈ T, t.2.2.length = 2 ^ t.2.1.length ∧ t.2.1.length ≤ 4 ∧ 0 < t.1 ∧ t.1 ≤ 65536) (hTl : T.length ≤ 1000000)
include hU hUl hF hc hT hTl
theorem win_l1 (mm : Nat) (u : List Int) (hu : u.length ≤ 8) (V : Bool) :
 ∀ (m j : Nat) (acc : List Int), j + m = T.length → acc.length ≤ 8 + j → (satB F (acc ++ (T.drop j).map (litT u)) = true → Evn (fun k => skolemref04_win.l0 k (s177 T) (wrap64 ((mm : Int) + 1)) U (s61 X) F) V) → (satB F (acc ++ (T.drop j).map (litT u)) = false → V = false) →
  Evn (fun k => skolemref04_win.l1 k (s177 T) (mm : Int) u acc (j : Int) U (s61 X) F) V := by
 have _ := hU
 have _ := hUl
 have _ := hF
 have _ := hc
 have _ := hT
 have _ := hTl
 intro m
 induction m with
 | zero =>
   intro j acc hj ha h1 h2
   rw [List.drop_of_length_le (by omega), List.map_nil, List.append_nil] at h1 h2
   refine Evn.succ (fun q => by rw [skolemref04_win.l1]) (Evn.neg (by rw [s177_len]; omega) (Evn.bind (Sat_f F acc (by omega) hF hc) ?_))
   cases hs : satB F acc
   · exact Evn.neg (by simp) ((Evn.ret _).to (h2 hs).symm)
   · exact Evn.pos rfl (h1 hs)
 | succ m ih =>
   intro j acc hj ha h1 h2
   have hjl : j < T.length := by omega
   obtain ⟨t1, t2, t3, t4⟩ := hT _ (List.getElem_mem hjl)
   have hdr : (T.drop j).map (litT u) = litT u T[j] :: (T.drop (j + 1)).map (litT u) := by rw [List.drop_eq_getElem_cons hjl, List.map_cons]
   rw [hdr] at h1 h2
   refine Evn.succ (fun q => by rw [skolemref04_win.l1]) (Evn.pos (by rw [s177_len]; omega) (Evn.pos (by omega) ?_))
   rw [rdT T j hjl]
   refine Evn.bind (At_f u (by omega) T[j].1 T[j].2.1 T[j].2.2 (by omega) t1) ?_
   have hlit : ∀ q : Nat, skolemref04_Lit.f T[j].1 (T[j].2.2.getD (idxA T[j].2.1 u) false) = some (litT u T[j]) := fun _ => by
    unfold skolemref04_Lit.f litT
    split
    · rfl
    · rw [wrap64_id (by omega) (by omega)]
   refine Evn.bind (Evn.of_eq hlit) (Evn.pos (by omega) ?_)
   rw [wrap64_nat (i := j) (by omega)]
   refine ih (j + 1) _ (by omega) (by rw [List.length_append, List.length_singleton]; omega) ?_ ?_
   · intro h; exact h1 (by rw [List.append_assoc] at h; exact h)
   · intro h; exact h2 (by rw [List.append_assoc] at h; exact h)
theorem win_l0 : ∀ (q m : Nat), m + q = 2 ^ U.length → Evn (fun k => skolemref04_win.l0 k (s177 T) (m : Int) U (s61 X) F) ((List.range' m q).all fun m => satB F (ptL U m ++ T.map (litT (ptL U m)))) := by
 have hp : 2 ^ U.length ≤ 2 ^ 8 := Nat.pow_le_pow_right (n := 2) (by omega) hUl
 intro q
 induction q with
 | zero =>
   intro m hm
   refine Evn.succ (fun q => by rw [skolemref04_win.l0]) (Evn.pos (by rw [u64n _ (by omega)]; omega) ?_)
   rw [shl1u _ (by omega)]
   exact Evn.neg (by omega) (Evn.ret _)
 | succ q ih =>
   intro m hm
   have hlen := ptL_length U m
   refine Evn.succ (fun q => by rw [skolemref04_win.l0]) (Evn.pos (by rw [u64n _ (by omega)]; omega) ?_)
   rw [shl1u _ (by omega)]
   refine Evn.pos (by omega) (Evn.bind (Point_f U m (by omega) hU (by omega)) (Evn.bind (Evn.ret _) ?_))
   simp only [List.nil_append, List.length_nil]
   refine Evn.pos (by omega) ?_
   rw [List.range'_succ, List.all_cons]
   refine win_l1 U F X T hU hUl hF hc hT hTl m (ptL U m) (by omega) _ T.length 0 (ptL U m) (by omega) (by omega) (fun h => ?_) (fun h => ?_)
   · rw [wrap64_nat (i := m) (by omega)]
     rw [List.drop_zero] at h
     rw [h, Bool.true_and]
     exact ih (m + 1) (by omega)
   · rw [List.drop_zero] at h
     rw [h, Bool.false_and]
theorem win_f : Evn (fun k => skolemref04_win.f k U (s61 X) F (s177 T)) ((List.range' 0 (2 ^ U.length)).all fun m => satB F (ptL U m ++ T.map (litT (ptL U m)))) := by
 unfold skolemref04_win.f
 exact win_l0 U F X T hU hUl hF hc hT hTl (2 ^ U.length) 0 (by omega)
end
def winD (d : DqV) (T : List (Int × List Int × List Bool)) : Bool := (List.range' 0 (2 ^ d.univ.length)).all fun m => satB d.clauses (ptL d.univ m ++ T.map (litT (ptL d.univ m)))
theorem winD_iff (d : DqV) (T : List (Int × List Int × List Bool)) : winD d T = true ↔ winP d T := by
 unfold winD winP satB
 rw [List.all_eq_true]
 constructor
 · intro h m hm c hc
   have := h m (by rw [List.mem_range'_1]; omega)
   rw [List.all_eq_true] at this
   have := this c hc
   rw [List.any_eq_true] at this
   obtain ⟨y, hy, e⟩ := this
   exact ⟨y, hy, by simpa using e⟩
 · intro h m hm
   rw [List.mem_range'_1] at hm
   rw [List.all_eq_true]
   intro c hc
   rw [List.any_eq_true]
   obtain ⟨y, hy, e⟩ := h m (by omega) c hc
   exact ⟨y, hy, by simpa using e⟩
def skoF (d : DqV) : Nat → Nat → List S177 × Int
 | 0, _ => ([], 6)
 | q + 1, n => if winD d (tabs d.exist (seqB (bitsM d.exist) n)) = true then (s177 (tabs d.exist (seqB (bitsM d.exist) n)), 0) else skoF d q (n + 1)
theorem skoF_two (d : DqV) : ∀ q n, ((skoF d q n).2 = 0 ∧ ∃ m, n ≤ m ∧ m < n + q ∧ winD d (tabs d.exist (seqB (bitsM d.exist) m)) = true) ∨ ((skoF d q n).2 = 6 ∧ ∀ m, n ≤ m → m < n + q → winD d (tabs d.exist (seqB (bitsM d.exist) m)) = false)
 | 0, n => .inr ⟨rfl, fun m h1 h2 => by omega⟩
 | q + 1, n => by
   rw [skoF]
   split
   · rename_i h
     exact .inl ⟨rfl, n, Nat.le_refl _, by omega, h⟩
   · rename_i h
     rcases skoF_two d q (n + 1) with ⟨h1, m, h2, h3, h4⟩ | ⟨h1, h2⟩
     · exact .inl ⟨h1, m, by omega, by omega, h4⟩
     · refine .inr ⟨h1, fun m h3 h4 => ?_⟩
       by_cases e : m = n
       · subst e
         cases hw : winD d (tabs d.exist (seqB (bitsM d.exist) m))
         · rfl
         · exact absurd hw h
       · exact h2 m (by omega) (by omega)
section
variable (d : DqV) (ok : DOk d) (hm : mayD d = true) (hb : bigT d = false)
include ok hm hb
theorem small_facts : (∀ x ∈ d.exist, x.2.length ≤ 4) ∧ d.univ.length ≤ 4 ∧ bitsM d.exist ≤ 12 := by
 have _ := ok
 have _ := hm
 have h := hb
 unfold bigT at h
 simp only [Bool.or_eq_false_iff, decide_eq_false_iff_not, List.any_eq_false, decide_eq_true_eq] at h
 exact ⟨fun x hx => by have := h.1.1 x hx; omega, by omega, by omega⟩
theorem check_f : Evn (fun k => skolemref04_check.f k d.univ (s61 d.exist) d.clauses) 0 := by
 obtain ⟨h1, h2, h3⟩ := small_facts d ok hm hb
 unfold skolemref04_check.f
 refine Evn.bind (mayD_evn ok) ?_
 rw [hm]
 refine Evn.pos rfl (Evn.neg (by omega) (Evn.bind (bits_f d.univ d.clauses d.exist h1 ok.xl (by omega)) (Evn.neg (by omega) (Evn.ret _))))
theorem sko_l0 : ∀ (q n : Nat), n + q = 2 ^ bitsM d.exist → Evn (fun k => skolemref04_Skolem.l0 k (n : Int) d.univ (s61 d.exist) d.clauses) (skoF d q n) := by
 obtain ⟨h1, h2, h3⟩ := small_facts d ok hm hb
 have g := good_of hm
 have hp : 2 ^ bitsM d.exist ≤ 2 ^ 12 := Nat.pow_le_pow_right (n := 2) (by omega) h3
 intro q
 induction q with
 | zero =>
   intro n hn
   refine Evn.succ (fun q => by rw [skolemref04_Skolem.l0]) (Evn.bind (bits_f d.univ d.clauses d.exist h1 ok.xl (by omega)) ?_)
   refine Evn.pos (by rw [u64n _ (by omega)]; omega) ?_
   rw [shl1u _ (by omega)]
   exact Evn.neg (by omega) (Evn.ret _)
 | succ q ih =>
   intro n hn
   refine Evn.succ (fun q => by rw [skolemref04_Skolem.l0]) (Evn.bind (bits_f d.univ d.clauses d.exist h1 ok.xl (by omega)) ?_)
   refine Evn.pos (by rw [u64n _ (by omega)]; omega) ?_
   rw [shl1u _ (by omega)]
   refine Evn.pos (by omega) (Evn.bind (numbered_f d.univ d.clauses d.exist n h1 ok.xl (by omega) (by omega)) ?_)
   have hTT : ∀ t ∈ tabs d.exist (seqB (bitsM d.exist) n), t.2.2.length = 2 ^ t.2.1.length ∧ t.2.1.length ≤ 4 ∧ 0 < t.1 ∧ t.1 ≤ 65536 := fun t ht => by
    obtain ⟨e1, x, hx, e2, e3⟩ := tabs_len d.exist _ (seqB_len _ _) t ht
    have h4 := h1 x hx
    have h5 := g.xpos x hx
    rw [← e3] at h4
    rw [← e2] at h5
    exact ⟨e1, h4, h5.1, h5.2⟩
   refine Evn.bind (win_f d.univ d.clauses d.exist (tabs d.exist (seqB (bitsM d.exist) n)) g.upos (by omega) ok.cl (fun c hc => by have := len_le_total' hc; have := ok.tot; omega) hTT (by rw [tabs_length]; exact ok.xl)) ?_
   show Evn (fun k => if winD d (tabs d.exist (seqB (bitsM d.exist) n)) = true then _ else _) _
   rw [skoF]
   cases hw : winD d (tabs d.exist (seqB (bitsM d.exist) n))
   · rw [if_neg (by simp)]
     refine Evn.neg (by simp) ?_
     rw [wrap64_nat (i := n) (by omega)]
     exact ih (n + 1) (by omega)
   · rw [if_pos rfl]
     exact Evn.pos rfl (Evn.ret _)
theorem Dqbf_f : Evn (fun k => skolemref04_Dqbf.f k d.univ (s61 d.exist) d.clauses) (truthV d, 0) := by
 unfold skolemref04_Dqbf.f skolemref04_Skolem.f
 refine Evn.bind (Evn.bind (check_f d ok hm hb) (Evn.pos rfl (sko_l0 d ok hm hb (2 ^ bitsM d.exist) 0 (by omega)))) ?_
 rw [truthV_small hb]
 rcases skoF_two d (2 ^ bitsM d.exist) 0 with ⟨h1, m, -, h2, h3⟩ | ⟨h1, h2⟩
 · have hs : someN d := ⟨m, by omega, (winD_iff d _).1 h3⟩
   rw [if_pos hs, h1]
   exact Evn.pos rfl (Evn.ret _)
 · have hs : ¬ someN d := fun ⟨m, h3, h4⟩ => by
    have := h2 m (by omega) (by omega)
    rw [(winD_iff d _).2 h4] at this
    cases this
   rw [if_neg hs, h1]
   exact Evn.neg (by decide) (Evn.pos rfl (Evn.ret _))
end
theorem truth_l0 (d : DqV) (ok : DOk d) (hm : mayD d = true) : ∀ (m i s : Nat), i + m = d.exist.length → s = bitsM d.exist - bitsM (d.exist.drop i) → (∀ x ∈ d.exist.take i, x.2.length ≤ 4) → s ≤ 16 * i →
 Evn (fun k => skolemlaw16_truth.l0 k (s : Int) (s61 d.exist) (d.exist.length : Int) (i : Int) d.univ (s61 d.exist) d.clauses) (truthV d) := by
 have hxl := ok.xl
 intro m
 induction m with
 | zero =>
   intro i s hi hs ht hsl
   obtain rfl : i = d.exist.length := by omega
   rw [List.drop_length] at hs
   rw [List.take_length] at ht
   have hs2 : s = bitsM d.exist := by rw [hs]; simp [bitsM]
   refine Evn.succ (fun q => by rw [skolemlaw16_truth.l0]) (Evn.neg (by omega) ?_)
   by_cases h4 : d.univ.length ≤ 4
   · refine Evn.neg (by omega) ?_
     by_cases h12 : s ≤ 12
     · have hb : bigT d = false := by
        unfold bigT
        simp only [Bool.or_eq_false_iff, decide_eq_false_iff_not, List.any_eq_false, decide_eq_true_eq]
        exact ⟨⟨fun x hx => by have := ht x hx; omega, by omega⟩, by omega⟩
       exact Evn.neg (by omega) (Evn.bind (Dqbf_f d ok hm hb) (Evn.ret _))
     · have hb : bigT d = true := by
        unfold bigT
        simp only [Bool.or_eq_true, decide_eq_true_eq]
        exact .inr (by omega)
       exact Evn.pos (by omega) ((Evn.ret _).to (by unfold truthV; rw [if_pos hb]))
   · have hb : bigT d = true := by
      unfold bigT
      simp only [Bool.or_eq_true, decide_eq_true_eq]
      exact .inl (.inr (by omega))
     exact Evn.pos (by omega) ((Evn.ret _).to (by unfold truthV; rw [if_pos hb]))
 | succ m ih =>
   intro i s hi hs ht hsl
   have hil : i < d.exist.length := by omega
   have hd := bitsM_drop hil
   have hle : bitsM (d.exist.drop i) ≤ bitsM d.exist := by
    have e : bitsM d.exist = bitsM (d.exist.take i) + bitsM (d.exist.drop i) := by
     unfold bitsM
     rw [← List.sum_append, ← List.map_append, List.take_append_drop]
    omega
   refine Evn.succ (fun q => by rw [skolemlaw16_truth.l0]) (Evn.pos (by omega) (Evn.pos (by omega) (Evn.pos (by rw [s61_len]; omega) ?_)))
   rw [rdS d.exist i hil]
   simp only
   by_cases h4 : d.exist[i].2.length ≤ 4
   · refine Evn.neg (by omega) ?_
     have hp : 2 ^ d.exist[i].2.length ≤ 2 ^ 4 := Nat.pow_le_pow_right (n := 2) (by omega) h4
     rw [shl1 _ (by omega), wrap64_nat (i := i) (by omega)]
     obtain ⟨q, hq⟩ : ∃ q, q = 2 ^ d.exist[i].2.length := ⟨_, rfl⟩
     rw [← hq] at hp hd ⊢
     rw [wrap64_id (by omega) (by omega)]
     have := ih (i + 1) (s + q) (by omega) (by omega) (fun x hx => by
      rw [List.take_succ_eq_append_getElem hil] at hx
      rcases List.mem_append.1 hx with h | h
      · exact ht x h
      · rw [List.mem_singleton.1 h]; exact h4) (by omega)
     rwa [show (((s + q : Nat)) : Int) = (s : Int) + (q : Int) by omega] at this
   · have hb : bigT d = true := by
      unfold bigT
      simp only [Bool.or_eq_true, List.any_eq_true, decide_eq_true_eq]
      exact .inl (.inl ⟨_, List.getElem_mem hil, by omega⟩)
     exact Evn.pos (by omega) ((Evn.ret _).to (by unfold truthV; rw [if_pos hb]))
theorem truth_f (d : DqV) (ok : DOk d) (hm : mayD d = true) : Evn (fun k => skolemlaw16_truth.f k d.univ (s61 d.exist) d.clauses) (truthV d) := by
 unfold skolemlaw16_truth.f
 rw [s61_len]
 have := truth_l0 d ok hm d.exist.length 0 0 (by omega) (by simp) (by simp) (by omega)
 simpa using this
end Go.Proofs.YtjecjaihficcdaaGreat.PEquivNext
namespace Go.Proofs.YtjecjaihficcdaaGreat
open Go.RowKit Go.Proofs.YtjecjaihficcdaaGreatW.PrintWords
theorem truth_any (d : DqV) (ok : DOk d) (hm : mayD d = true) (vu vx vc : Value) (w : World) (hd : RD w vu vx vc d) : Calls Tryz.prog 25 #[.agg #[vu, vx, vc]] w fun e w' => e = .returned (.int .u8 (truthV d)) ∧ Ext w w' := by
 obtain ⟨K, hK⟩ := PEquivNext.truth_f d ok hm
 obtain ⟨UA, uc, XA, xc, CA, cc, rfl, rfl, rfl, l1, l2, l3, h1, h2, h3⟩ := hd.kd
 refine (PEquivNext.skolemlaw16_truth.calls K UA uc d.univ XA xc (s61 d.exist) CA cc d.clauses _ w h1 l1 h2 l2 h3 l3 (hK K (Nat.le_refl _))).mono ?_
 rintro e w' ⟨rfl, hE⟩
 exact ⟨rfl, hE⟩
end Go.Proofs.YtjecjaihficcdaaGreat
namespace Go.Proofs.YtjecjaihficcdaaGreat
open Go.RowKit
theorem RD.lens {w : World} {vu vx vc : Value} {d : DqV} (h : RD w vu vx vc d) : ∃ A1 c1 A2 c2 A3 c3, vu = .slice A1 d.univ.length c1 ∧ vx = .slice A2 d.exist.length c2 ∧ vc = .slice A3 d.clauses.length c3 := by
 obtain ⟨A1, c1, h1, -⟩ := h.u
 obtain ⟨A2, c2, ons, h2, -⟩ := h.x
 obtain ⟨A3, c3, us, h3, -, -, -, h4, -⟩ := h.c
 exact ⟨A1, c1, A2, c2, A3, c3, h1, h2, by rw [h3, h4]⟩
theorem Make_err (d : DqV) (c : ChV) (vu vx vc : Value) (w : World) (hd : RD w vu vx vc d) (ok : DOk d) (cok : COk c) (h : ¬ (mayD d = true ∧ okCh d c = true)) : ∃ x : Int, (x != 0) = true ∧ Calls Tryz.prog 21 #[.agg #[vu, vx, vc], .agg (chArr c)] w (PostMake w (⟨[], [], []⟩, x)) := by
 cases hm : mayD d
 · exact ⟨2, rfl, Make_no d c vu vx vc w hd ok hm⟩
 · cases hy : okCh d c
   · exact ⟨5, rfl, Make_bad d c vu vx vc w hd ok cok hm hy⟩
   · exact (h ⟨hm, hy⟩).elim
theorem truthV_big {d : DqV} (h : bigT d = true) : truthV d = 0 := by unfold truthV; rw [if_pos h]
theorem truthV_ne {d : DqV} (h : bigT d = false) : truthV d ≠ 0 := by
 rw [truthV_small h]
 split <;> decide
set_option maxRecDepth 100000 in
set_option maxHeartbeats 8000000 in
theorem truth_law (d : DqV) (c : ChV) (vu vx vc : Value) (w : World) (hd : RD w vu vx vc d) (h64 : D64 d) (cok : COk c) (ht : d.clauses.length ≤ 60 → sizeD d ≤ 9223372036854775807) :
 Calls Tryz.prog 6 #[.agg #[vu, vx, vc], .agg (chArr c)] w fun e w' => e = .returned (.bool true) ∧ Ext w w' := by
 have HLG := Lib.hid (fun w' (h : Ext w w') => large_any d vu vx vc w' (hd.ext h) ht)
 have HD := Lib.hid hd
 have HOK : Hid (largeD d = false → DOk d) := Lib.hid (fun h => h64.ok h)
 have HCO := Lib.hid cok
 obtain ⟨A1, c1, A2, c2, A3, c3, hu, hx, hc⟩ := hd.lens
 obtain ⟨n1, hn1⟩ : ∃ n1, n1 = d.univ.length := ⟨_, rfl⟩
 obtain ⟨n2, hn2⟩ : ∃ n2, n2 = d.exist.length := ⟨_, rfl⟩
 obtain ⟨n3, hn3⟩ : ∃ n3, n3 = d.clauses.length := ⟨_, rfl⟩
 rw [← hn1] at hu
 rw [← hn2] at hx
 rw [← hn3] at hc
 have HN2 := Lib.hid hn2
 subst hu hx hc
 clear hd h64 ht cok hn1 hn2 hn3
 have HMO : Hid (∀ (ok : DOk d) (hm : mayD d = true) (hy : okCh d c = true) w' (h : Ext w w'), Calls Tryz.prog 21 #[.agg #[.slice A1 n1 c1, .slice A2 n2 c2, .slice A3 n3 c3], .agg (chArr c)] w' (PostMake w' (madeV d c, 0))) := Lib.hid (fun ok hm hy w' h => Make_ok d c _ _ _ w' (HD.out.ext h) ok HCO.out hm hy)
 have HME : Hid (∀ (ok : DOk d) (hn : ¬ (mayD d = true ∧ okCh d c = true)) w' (h : Ext w w'), ∃ x : Int, (x != 0) = true ∧ Calls Tryz.prog 21 #[.agg #[.slice A1 n1 c1, .slice A2 n2 c2, .slice A3 n3 c3], .agg (chArr c)] w' (PostMake w' (⟨[], [], []⟩, x))) := Lib.hid (fun ok hn w' h => Make_err d c _ _ _ w' (HD.out.ext h) ok HCO.out hn)
 have HCC : Hid (okCh d c = okCh d c) := Lib.hid rfl
 obtain ⟨cc, hcc⟩ : ∃ cc, cc = c := ⟨_, rfl⟩
 have HC := Lib.hid hcc
 unfold chArr at HMO HME ⊢
 rw [← hcc] at HMO HME ⊢
 have HAL : Hid (mayD d = true → okCh d cc = true → (mayD (madeV d cc) = true ∧ DOk (madeV d cc) ∨ ¬ DOk d) ∧ (madeV d cc).exist.length + 1 = d.exist.length ∧ (bigT d = false → truthV d = truthV (madeV d cc))) := Lib.hid (fun hm hy => ⟨by
  by_cases ok : DOk d
  · exact .inl ⟨(made_may hm hy).1, made_ok hm hy ok⟩
  · exact .inr ok, (made_may hm hy).2, fun hb => truth_made hm hy hb⟩)
 clear hcc HC HCC HCO
 obtain ⟨ck, hck⟩ : ∃ x, x = cc.kind := ⟨_, rfl⟩
 obtain ⟨cl, hcl⟩ : ∃ x, x = cc.lit := ⟨_, rfl⟩
 obtain ⟨ct, hct⟩ : ∃ x, x = cc.tz := ⟨_, rfl⟩
 obtain ⟨cp, hcp⟩ : ∃ x, x = cc.pos := ⟨_, rfl⟩
 obtain ⟨co, hco⟩ : ∃ x, x = cc.other := ⟨_, rfl⟩
 rw [← hck, ← hcl, ← hct, ← hcp, ← hco] at HMO HME ⊢
 clear hck hcl hct hcp hco
 have fct : ∃ W : World, W = (w.alloc (.cells #[.slice A1 n1 c1, .slice A2 n2 c2, .slice A3 n3 c3] 27)).alloc (.cells #[.int .u8 ck, .int .i64 cl, .int .i64 ct, .int .i64 cp, .int .i64 co] 37) ∧
  Blk W w.heap.size 27 [.slice A1 n1 c1, .slice A2 n2 c2, .slice A3 n3 c3] ∧ Blk W (w.heap.size + 1) 37 [.int .u8 ck, .int .i64 cl, .int .i64 ct, .int .i64 cp, .int .i64 co] ∧ Ext w W := by
  refine ⟨_, rfl, ?_, Blk.new' (by simp), (Ext.alloc w _).trans (Ext.alloc _ _)⟩
  exact ((Ext.alloc _ _).chg (fun _ => False)).blk (Blk.new w 27 _) id
 obtain ⟨W, hW, b1, b2, hE⟩ := fct
 have HW := Lib.hid hW
 have HE := Lib.hid hE
 have FC : Hid (∀ wr, Ext W wr → (wr.cell? ⟨w.heap.size, 0, none⟩ = some (.slice A1 n1 c1) ∧ wr.cell? ⟨w.heap.size, 1, none⟩ = some (.slice A2 n2 c2) ∧ wr.cell? ⟨w.heap.size, 2, none⟩ = some (.slice A3 n3 c3)) ∧
  (wr.cell? ⟨w.heap.size + 1, 0, none⟩ = some (.int .u8 ck) ∧ wr.cell? ⟨w.heap.size + 1, 1, none⟩ = some (.int .i64 cl) ∧ wr.cell? ⟨w.heap.size + 1, 2, none⟩ = some (.int .i64 ct) ∧ wr.cell? ⟨w.heap.size + 1, 3, none⟩ = some (.int .i64 cp) ∧ wr.cell? ⟨w.heap.size + 1, 4, none⟩ = some (.int .i64 co))) := Lib.hid (fun wr h => by
  have q1 := (h.chg (fun _ => False)).blk b1 id
  have q2 := (h.chg (fun _ => False)).blk b2 id
  exact ⟨⟨q1.cell 0, q1.cell 1, q1.cell 2⟩, ⟨q2.cell 0, q2.cell 1, q2.cell 2, q2.cell 3, q2.cell 4⟩⟩)
 clear hW hE b1 b2
 obtain ⟨⟨p0, p1, p2⟩, ⟨q0, q1, q2, q3, q4⟩⟩ := FC.out W (Ext.refl _)
 cases hl : largeD d with
 | true =>
   rw [hl] at HLG
   clear HOK hl HMO HME
   go_enter Tryz.func6, Tryz.ntmps6
   go_upto_region 1 with fail
   rw [← HW.out]
   go_wp2_with (first
    | (go_at_call 9; refine (HLG.out _ HE.out).mono ?_; rintro e w2 ⟨rfl, hE⟩; have HE2 := Lib.hid (HE.out.trans hE); clear hE)
    | (go_at_call 10; refine (awake_any _).mono ?_; rintro e w3 ⟨rfl, hE⟩; have HE3 := Lib.hid (HE2.out.trans hE); clear hE))
   go_ret
   exact ⟨rfl, HE3.out⟩
 | false =>
   have ok := HOK.out hl
   rw [hl] at HLG
   by_cases hyes : mayD d = true ∧ okCh d cc = true
   · obtain ⟨hm, hy⟩ := hyes
     obtain ⟨ha1, ha2, ha3⟩ := HAL.out hm hy
     obtain ⟨hma, oka⟩ := ha1.resolve_right (fun h => h ok)
     have HM2 := Lib.hid (HMO.out ok hm hy)
     have HRM := Lib.hid (fun w' u x c (h : RD w' u x c d) => refMayD_any ok u x c w' h)
     have HRA := Lib.hid (fun w' u x c (h : RD w' u x c (madeV d cc)) => refMayD_any oka u x c w' h)
     have HTD := Lib.hid (fun w' u x c (h : RD w' u x c d) => truth_any d ok hm u x c w' h)
     have HTA := Lib.hid (fun w' u x c (h : RD w' u x c (madeV d cc)) => truth_any (madeV d cc) oka hma u x c w' h)
     rw [hm] at HRM
     rw [hma] at HRA
     obtain ⟨na, hna⟩ : ∃ na, na = (madeV d cc).exist.length := ⟨_, rfl⟩
     have HNA := Lib.hid hna
     have hxl := ok.xl
     have hnn : na + 1 = n2 := by rw [hna, HN2.out]; exact ha2
     have hn2l : n2 ≤ 1000000 := by rw [HN2.out]; exact hxl
     have hw1 : IntKind.i64.wrap ((n2 : Int) - 1) = (na : Int) := by
      rw [IntWalk.i64_in _ (by omega)]; omega
     have HBG := Lib.hid ha3
     clear HOK hl HMO HME HAL ha1 ha2 ha3 hma hy hna hxl hnn hm
     unfold PostMake at HM2
     simp only at HM2
     generalize madeV d cc = dm at HM2 HRA HTA HBG HNA
     clear ok oka
     go_enter Tryz.func6, Tryz.ntmps6
     go_upto_region 1 with fail
     rw [← HW.out]
     go_upto_region 4 with (first
      | (go_at_call 9; refine (HLG.out _ HE.out).mono ?_; rintro e w2 ⟨rfl, hE⟩; have HE2 := Lib.hid hE; obtain ⟨⟨p0a, p1a, p2a⟩, ⟨q0a, q1a, q2a, q3a, q4a⟩⟩ := FC.out _ hE; clear hE)
      | (go_at_call 21; refine (HM2.out _ (HE.out.trans HE2.out)).mono ?_; rintro e w3 ⟨mu, mx, mc, rfl, hr, hE⟩; obtain ⟨U1, uc1, U2, uc2, U3, uc3, h1, h2, h3⟩ := hr.lens; rw [← HNA.out] at h2; obtain ⟨nu1, hnu1⟩ : ∃ x, x = dm.univ.length := ⟨_, rfl⟩; obtain ⟨nu3, hnu3⟩ : ∃ x, x = dm.clauses.length := ⟨_, rfl⟩; rw [← hnu1] at h1; rw [← hnu3] at h3; subst h1 h2 h3; have HE3 := Lib.hid (HE2.out.trans hE); have HR3 := Lib.hid hr; clear hE hr hnu1 hnu3))
     have e4 := Ext.alloc w3 (.cells #[.slice U1 nu1 uc1, .slice U2 na uc2, .slice U3 nu3 uc3] 27)
     have HB4 := Lib.hid (Blk.new w3 27 [.slice U1 nu1 uc1, .slice U2 na uc2, .slice U3 nu3 uc3])
     have HE4 := Lib.hid (HE3.out.trans e4)
     have HR4 := Lib.hid (HR3.out.ext e4)
     clear p0 p1 p2 q0 q1 q2 q3 q4 p0a p1a p2a q0a q1a q2a q3a q4a HE3 HE2 HR3
     generalize w3.heap.size = b4 at HB4 ⊢
     generalize w3.alloc (.cells #[.slice U1 nu1 uc1, .slice U2 na uc2, .slice U3 nu3 uc3] 27) = w4 at e4 HB4 HE4 HR4 ⊢
     clear e4
     have FA : Hid (∀ wr, Ext w4 wr → wr.cell? ⟨b4, 0, none⟩ = some (.slice U1 nu1 uc1) ∧ wr.cell? ⟨b4, 1, none⟩ = some (.slice U2 na uc2) ∧ wr.cell? ⟨b4, 2, none⟩ = some (.slice U3 nu3 uc3)) := Lib.hid (fun wr h => ⟨(HB4.out.ext h).cell 0, (HB4.out.ext h).cell 1, (HB4.out.ext h).cell 2⟩)
     obtain ⟨⟨p0, p1, p2⟩, -⟩ := FC.out _ HE4.out
     obtain ⟨a0, a1, a2⟩ := FA.out _ (Ext.refl _)
     go_upto_region 8 with (first
      | (go_at_call_of 24 (Value.agg #[.slice U1 nu1 uc1, .slice U2 na uc2, .slice U3 nu3 uc3]); refine (HRA.out _ _ _ _ HR4.out).mono ?_; rintro e w5 ⟨rfl, hE⟩; have HE5 := Lib.hid hE; obtain ⟨⟨p0a, p1a, p2a⟩, -⟩ := FC.out _ (HE4.out.trans hE); obtain ⟨a0a, a1a, a2a⟩ := FA.out _ hE; clear hE)
      | (go_at_call 24; refine (HRM.out _ _ _ _ (HD.out.ext (HE.out.trans (HE4.out.trans HE5.out)))).mono ?_; rintro e w6 ⟨rfl, hE⟩; have HE6 := Lib.hid (HE5.out.trans hE); obtain ⟨⟨p0b, p1b, p2b⟩, -⟩ := FC.out _ (HE4.out.trans HE6.out); obtain ⟨a0b, a1b, a2b⟩ := FA.out _ HE6.out; clear hE))
     have HRD6 := Lib.hid (HD.out.ext (HE.out.trans (HE4.out.trans HE6.out)))
     have HRA6 := Lib.hid (HR4.out.ext HE6.out)
     have HE7 := Lib.hid (HE.out.trans (HE4.out.trans HE6.out))
     cases hb : bigT d with
     | true =>
       rw [truthV_big hb] at HTD
       clear hb HBG
       go_wp2_with (first
        | (go_at_call 25; refine (HTD.out _ _ _ _ HRD6.out).mono ?_; rintro e w7 ⟨rfl, hE⟩; have HE8 := Lib.hid (HE7.out.trans hE); clear hE)
        | (go_at_call 10; refine (awake_any _).mono ?_; rintro e w9 ⟨rfl, hE⟩; have HE9 := Lib.hid (HE8.out.trans hE); clear hE))
       go_ret
       exact ⟨rfl, HE9.out⟩
     | false =>
       have hne := truthV_ne hb
       have heq := HBG.out hb
       rw [← heq] at HTA
       generalize truthV d = V at HTD HTA hne
       have hvb : (V == 0) = false := by simpa using hne
       have HVB := Lib.hid hvb
       clear hb HBG heq hne
       go_wp2_with (first
        | (go_at_call_of 25 (Value.agg #[.slice A1 n1 c1, .slice A2 n2 c2, .slice A3 n3 c3]); refine (HTD.out _ _ _ _ HRD6.out).mono ?_; rintro e w7 ⟨rfl, hE⟩; have HE8 := Lib.hid hE; obtain ⟨a0c, a1c, a2c⟩ := FA.out _ (HE6.out.trans hE); clear hE)
        | (go_at_call 25; refine (HTA.out _ _ _ _ (HRA6.out.ext HE8.out)).mono ?_; rintro e w8 ⟨rfl, hE⟩; have HE10 := Lib.hid ((HE7.out.trans HE8.out).trans hE); clear hE)
        | (go_at_call 10; refine (awake_any _).mono ?_; rintro e w9 ⟨rfl, hE⟩; have HE9 := Lib.hid (HE10.out.trans hE); clear hE))
       go_ret
       exact ⟨rfl, HE9.out⟩
   · have HM2 := Lib.hid (HME.out ok hyes)
     clear HOK hl HMO HME HAL hyes ok
     go_enter Tryz.func6, Tryz.ntmps6
     go_upto_region 1 with fail
     rw [← HW.out]
     go_upto_region 4 with (first
      | (go_at_call 9; refine (HLG.out _ HE.out).mono ?_; rintro e w2 ⟨rfl, hE⟩; have HE2 := Lib.hid hE; obtain ⟨⟨p0a, p1a, p2a⟩, ⟨q0a, q1a, q2a, q3a, q4a⟩⟩ := FC.out _ hE; clear hE)
      | (go_at_call 21; obtain ⟨x, hx0, hmk⟩ := HM2.out _ (HE.out.trans HE2.out); refine hmk.mono ?_; rintro e w3 ⟨mu, mx, mc, rfl, hr, hE⟩; obtain ⟨U1, uc1, U2, uc2, U3, uc3, h1, h2, h3⟩ := hr.lens; simp only [List.length_nil] at h1 h2 h3; subst h1 h2 h3; have HE3 := Lib.hid (HE2.out.trans hE); clear hE hr hmk))
     have e4 := Ext.alloc w3 (.cells #[.slice U1 0 uc1, .slice U2 0 uc2, .slice U3 0 uc3] 27)
     have HB4 := Lib.hid (Blk.new w3 27 [.slice U1 0 uc1, .slice U2 0 uc2, .slice U3 0 uc3])
     have HE4 := Lib.hid (HE3.out.trans e4)
     clear p0 p1 p2 q0 q1 q2 q3 q4 p0a p1a p2a q0a q1a q2a q3a q4a HE3 HE2
     generalize w3.heap.size = b4 at HB4 ⊢
     generalize w3.alloc (.cells #[.slice U1 0 uc1, .slice U2 0 uc2, .slice U3 0 uc3] 27) = w4 at e4 HB4 HE4 ⊢
     clear e4
     have a0 := HB4.out.cell 0
     have a1 := HB4.out.cell 1
     have a2 := HB4.out.cell 2
     simp only [List.getElem?_cons_zero, List.getElem?_cons_succ] at a0 a1 a2
     go_wp2_with (go_at_call 10; refine (awake_any _).mono ?_; rintro e w9 ⟨rfl, hE⟩; have HE9 := Lib.hid ((HE.out.trans HE4.out).trans hE); clear hE)
     go_ret
     exact ⟨rfl, HE9.out⟩
end Go.Proofs.YtjecjaihficcdaaGreat
namespace Go.Proofs.YtjecjaihficcdaaGreat
open Go.ChangeShapes Go.WideShapes Go.ChangeAt Go.RowKit
theorem cellsK : Tryz.prog.cellsOf 35 = 1 := by kernel_rfl
theorem cellsCh : Tryz.prog.cellsOf 37 = 5 := by kernel_rfl
theorem open_Ch {H : Type} {enc : TypeId × Value → H} {W : World} {base : Nat} {held : Bool} {fuel : Nat} {x : DataW H × List MemPlace} {v : Value} (hv : ∃ cs, v = .agg cs ∧ cs.size = 5) (h : DataW.trod enc Tryz.prog W base (fun _ => true) held fuel 37 v.cells.toList = some x) :
 ∃ c : ChV, v = .agg (chArr c) ∧ COk c := by
 obtain ⟨cs, rfl, hs⟩ := hv
 obtain ⟨cl⟩ := cs
 match cl, hs with
 | [v0, v1, v2, v3, v4], _ =>
   obtain ⟨xs, n, -, -, -, hlen, hf⟩ := DataW.trod_struct Tryz.underlying37 h
   match xs, hlen with
   | [y0, y1, y2, y3, y4], _ =>
     have t0 := hf 0 _ rfl
     have t1 := hf 1 _ rfl
     have t2 := hf 2 _ rfl
     have t3 := hf 3 _ rfl
     have t4 := hf 4 _ rfl
     have t0' : DataW.trod enc Tryz.prog W base (fun _ => true) held n 35 (([v0, v1, v2, v3, v4].drop 0).take (Tryz.prog.cellsOf 35)) = some y0 := t0
     have e0 : DataW.trod enc Tryz.prog W base (fun _ => true) held n 35 [v0] = some y0 := by rw [cellsK] at t0'; exact t0'
     have t1' : DataW.trod enc Tryz.prog W base (fun _ => true) held n 3 (([v0, v1, v2, v3, v4].drop 1).take (Tryz.prog.cellsOf 3)) = some y1 := t1
     have e1 : DataW.trod enc Tryz.prog W base (fun _ => true) held n 3 [v1] = some y1 := by rw [cellsI] at t1'; exact t1'
     have t2' : DataW.trod enc Tryz.prog W base (fun _ => true) held n 3 (([v0, v1, v2, v3, v4].drop 2).take (Tryz.prog.cellsOf 3)) = some y2 := t2
     have e2 : DataW.trod enc Tryz.prog W base (fun _ => true) held n 3 [v2] = some y2 := by rw [cellsI] at t2'; exact t2'
     have t3' : DataW.trod enc Tryz.prog W base (fun _ => true) held n 3 (([v0, v1, v2, v3, v4].drop 3).take (Tryz.prog.cellsOf 3)) = some y3 := t3
     have e3 : DataW.trod enc Tryz.prog W base (fun _ => true) held n 3 [v3] = some y3 := by rw [cellsI] at t3'; exact t3'
     have t4' : DataW.trod enc Tryz.prog W base (fun _ => true) held n 3 (([v0, v1, v2, v3, v4].drop 4).take (Tryz.prog.cellsOf 3)) = some y4 := t4
     have e4 : DataW.trod enc Tryz.prog W base (fun _ => true) held n 3 [v4] = some y4 := by rw [cellsI] at t4'; exact t4'
     obtain ⟨k, hk, -, -⟩ := DataW.trod_int Tryz.underlying35 e0
     obtain ⟨a1, h1, -, w1⟩ := DataW.trod_int Tryz.underlying3 e1
     obtain ⟨a2, h2, -, w2⟩ := DataW.trod_int Tryz.underlying3 e2
     obtain ⟨a3, h3, -, w3⟩ := DataW.trod_int Tryz.underlying3 e3
     obtain ⟨a4, h4, -, w4⟩ := DataW.trod_int Tryz.underlying3 e4
     simp only [List.cons.injEq, and_true] at hk h1 h2 h3 h4
     subst hk h1 h2 h3 h4
     exact ⟨⟨k, a1, a2, a3, a4⟩, rfl, ⟨I64_wf w1, I64_wf w2, I64_wf w3, I64_wf w4⟩⟩
set_option maxRecDepth 100000 in
theorem equivTruth_lifted (os : Os) (started : os.Started) (H : Type) (enc : TypeId × Value → H) (F : Stop.Interp) :
 ReturnsInHanded {} Tryz.checked os 6 .any ((Rows.OpenSpec.upto Rows.equivTruthSpec).pre6 enc Tryz.prog Tryz.f6 Rows.equivTruthUptoRow.domain false) (((Rows.OpenSpec.upto Rows.equivTruthSpec).at F).post enc Tryz.prog Tryz.f6 false true false false) := by
 refine returnsInHanded_of_cond (C := Tryz.checked) (s := Rows.OpenSpec.upto Rows.equivTruthSpec) (k := Rows.uptoSmall) rfl ownK started (by kernel_rfl) Tryz.func6
  (OpenSpec.witness (enc := enc) (C := Tryz.checked) (s := Rows.OpenSpec.upto Rows.equivTruthSpec) (k := Rows.uptoSmall) rfl false ⟨#[], #[.agg #[.slice none 0 0, .slice none 0 0, .slice none 0 0], .agg #[.int .u8 0, .int .i64 0, .int .i64 0, .int .i64 0, .int .i64 0]], []⟩ 8 (by kernel_rfl) (by kernel_rfl) (by kernel_rfl)
   (x := ([.agg [.nil, .nil, .nil], .agg [.lit (.int .u8 0), .lit (.int .i64 0), .lit (.int .i64 0), .lit (.int .i64 0), .lit (.int .i64 0)]], [], [])) (by kernel_rfl) rfl (by kernel_rfl)) ?_
 intro W base args ds gs before hval0 hW _ hk _
 have hval : ∀ (j : Nat) t v, Tryz.f6.params[j]? = some t → args[j]? = some v → Value.okWide Tryz.prog W .any base t v := hval0
 have hW' := hW
 obtain ⟨p, q, hA0, hV, rfl, hfz, hnd⟩ := hW
 have hA : DataW.TrodAll enc Tryz.prog W 0 (fun _ => true) true Tryz.f6.params.toList args.toList ds p := hA0
 rw [Tryz.params6] at hA hval
 obtain ⟨v0, v1, d0, d1, p0, p1, rfl, rfl, rfl, h0, h1⟩ := trodAll_two hA
 obtain ⟨rfl, rfl⟩ := trodVars_none hV
 have hcs : ∃ cs, v0 = .agg cs ∧ cs.size = 3 := by
  obtain ⟨cs, h1, h2⟩ := okWide_struct Tryz.underlying27 (hval 0 27 v0 rfl rfl)
  exact ⟨cs, h1, by rw [h2, cellsD]⟩
 have hcs1 : ∃ cs, v1 = .agg cs ∧ cs.size = 5 := by
  obtain ⟨cs, h1, h2⟩ := okWide_struct Tryz.underlying37 (hval 1 37 v1 rfl rfl)
  exact ⟨cs, h1, by rw [h2, cellsCh]⟩
 have h0k := h0
 have h1k := h1
 obtain ⟨fuel0, hf0⟩ := h0
 obtain ⟨fuel1, hf1⟩ := h1
 clear hA0 hval0
 have hbk : Rows.uptoBulk d0 ≤ 1048576 := by
  have h1 := of_decide_eq_true hk
  simp only [List.append_nil, Rows.uptoBulkAll] at h1
  omega
 obtain ⟨vu, vx, vc, d, rfl, hd, h64, hsz⟩ := open_RDc hcs hf0 hbk
 obtain ⟨c, rfl, cok⟩ := open_Ch hcs1 hf1
 simp only [List.append_nil] at hW'
 have hlt : ∀ x ∈ p0 ++ p1, x.block < W.heap.size := fun x hx => by simpa using hW'.lt x hx
 refine (truth_law d c vu vx vc W hd h64 cok (fun _ => hsz)).mono fun e W' ⟨he, hE⟩ => ?_
 subst he
 have hargs : DataW.TrodAll enc Tryz.prog W' 0 (fun b => decide (b < W.heap.size)) true [27, 37] [.agg #[vu, vx, vc], .agg (chArr c)] [d0, d1] (p0 ++ p1) :=
  trodAll_mk2 (Below.trod laidOutK (by kernel_rfl) (of_decide_eq_true (by kernel_rfl)) h0k hE (fun x hx => hlt x (List.mem_append_left _ hx))) (Below.trod laidOutK (by kernel_rfl) (of_decide_eq_true (by kernel_rfl)) h1k hE (fun x hx => hlt x (List.mem_append_right _ hx)))
 exact ⟨_, rfl, _, _, _, [], p0 ++ p1, [], hW', trodAll_mk1 (shut_bool Tryz.underlying4 true), hargs, rfl, hE.frame _, fun h => by cases h⟩
theorem equivTruth_holds : Rows.EquivTruthUptoSaid :=
 OpenClaim.holds_of_cond 6 Tryz.f6 rfl rfl rfl rfl rfl rfl rfl ⟨rfl, rfl, rfl, rfl, rfl⟩ rfl rfl rfl rfl rfl (by kernel_rfl) Tryz.func6 (by kernel_rfl)
  (of_decide_eq_true (by kernel_rfl)) (by unfold Func.isWrapper; first | (rw [if_pos (by decide +kernel)]; kernel_rfl) | (rw [if_neg (by decide +kernel)]; exact ⟨rfl, rfl⟩))
  (fun os started H enc _ F => equivTruth_lifted os started H enc F)
#print axioms equivTruth_holds
end Go.Proofs.YtjecjaihficcdaaGreat
