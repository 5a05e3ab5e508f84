/- Walks and plain laws that this claim uses. -/
import Derived.Test.YtjecjaihficcdaaGreatHxE
import Derived.Test.YtjecjaihficcdaaGreatHxA
import Derived.Test.YtjecjaihficcdaaGreatHxC
import Derived.IntWalk
import Derived.Deep.Cut
import Derived.Deep.CutRange
import Derived.Test.YtjecjaihficcdaaGreatHxD
import Derived.RangeFuncLeaves
import Derived.OwnWalkIn
import Derived.TacticsInMore
import Derived.LoopNIn
import Derived.LoopIn
import Derived.ArgAppend
namespace Go.Proofs.YtjecjaihficcdaaGreat
def fset {α : Type} (m : Int → α) (n : Int) (v : α) : Int → α := fun k => if k = n then v else m k
theorem fset_same {α : Type} (m : Int → α) (n : Int) (v : α) : fset m n v n = v := if_pos rfl
theorem fset_ne {α : Type} (m : Int → α) {n k : Int} (v : α) (h : k ≠ n) : fset m n v k = m k := if_neg h
structure Tj where
 num : Int → Int
 low : Int → Int
 on : Int → Bool
 cnt : Nat
 path : List Int
 cls : List (List Int)
 work : List (Int × Nat)
def tEnter (s : Tj) (x : Int) : Tj := { s with num := fset s.num x (s.cnt + 1), low := fset s.low x (s.cnt + 1), on := fset s.on x true, path := s.path ++ [x], cnt := s.cnt + 1 }
def tLeave (s : Tj) (x : Int) : Tj :=
 { s with on := fun y => if y ∈ s.path.drop (s.path.idxOf x) then false else s.on y, path := s.path.take (s.path.idxOf x), cls := s.cls ++ [s.path.drop (s.path.idxOf x)] }
def tUp (s : Tj) (x : Int) : List (Int × Nat) → Tj
 | [] => s
 | (up, _) :: _ => { s with low := fset s.low up (min (s.low up) (s.low x)) }
def tPop (s : Tj) (x : Int) (rest : List (Int × Nat)) : Tj :=
 let s2 := tUp { s with work := rest } x rest
 if s2.low x = s2.num x then tLeave s2 x else s2
def tStep (nb : Int → List Int) (s : Tj) : Tj :=
 match s.work with
 | [] => s
 | (x, k) :: rest =>
   if h : k < (nb x).length then
    if s.num (nb x)[k] = 0 then { tEnter s (nb x)[k] with work := ((nb x)[k], 0) :: (x, k + 1) :: rest }
    else if s.on (nb x)[k] = true then { s with low := fset s.low x (min (s.low x) (s.num (nb x)[k])), work := (x, k + 1) :: rest }
    else { s with work := (x, k + 1) :: rest }
   else tPop s x rest
structure Fr where
 x : Int
 k : Nat
 r : List Int
def pathOf : List Fr → List Int
 | [] => []
 | f :: fs => pathOf fs ++ (f.x :: f.r)
theorem mem_pathOf (fr : List Fr) (y : Int) : y ∈ pathOf fr ↔ ∃ f ∈ fr, y = f.x ∨ y ∈ f.r := by
 induction fr with
 | nil => simp [pathOf]
 | cons f fs ih => simp only [pathOf, List.mem_append, List.mem_cons, ih, exists_eq_or_imp]; exact or_comm
structure TI (nb : Int → List Int) (s : Tj) (fr : List Fr) : Prop where
 work : s.work = fr.map fun f => (f.x, f.k)
 path : s.path = pathOf fr
 sorted : s.path.Pairwise fun a b => s.num a < s.num b
 onp : ∀ y, s.on y = true ↔ y ∈ s.path
 ent : ∀ y, s.num y ≠ 0 ↔ y ∈ s.path ∨ y ∈ s.cls.flatten
 pos : ∀ y, 0 ≤ s.num y ∧ s.num y ≤ s.cnt
 disj : ∀ y ∈ s.path, y ∉ s.cls.flatten
 lowle : ∀ y ∈ s.path, s.low y ≤ s.num y
 lowr : ∀ y ∈ s.path, ∃ u ∈ s.path, s.num u = s.low y ∧ Rch nb y u
 frx : ∀ f ∈ fr, ∀ v ∈ f.r, Rch nb f.x v ∧ s.low v < s.num v ∧ s.low f.x ≤ s.low v ∧ ∀ z ∈ nb v, s.num z ≠ 0 ∧ (z ∈ s.path → s.low v ≤ s.num z)
 frk : ∀ f ∈ fr, f.k ≤ (nb f.x).length ∧ ∀ z ∈ (nb f.x).take f.k, s.num z ≠ 0 ∧ (z ∈ s.path → s.low f.x ≤ s.num z)
 chain : fr.Pairwise fun f g => Rch nb g.x f.x
 clss : ∀ C ∈ s.cls, C ≠ [] ∧ ∀ a ∈ C, ∀ b ∈ C, Rch nb a b
 clsc : ∀ A C B, s.cls = A ++ C :: B → ∀ v ∈ C, ∀ z ∈ nb v, z ∈ A.flatten ∨ z ∈ C
 clsn : s.cls.flatten.Nodup
section
variable {nb : Int → List Int} {s : Tj} {fr : List Fr}
theorem TI.nodup (h : TI nb s fr) : s.path.Nodup := h.sorted.imp fun {a b} hab e => by subst e; omega
theorem TI.enter (h : TI nb s fr) (y : Int) (h0 : s.num y = 0) (hc : ∀ f fs, fr = f :: fs → Rch nb f.x y) : TI nb { tEnter s y with work := (y, 0) :: s.work } (⟨y, 0, []⟩ :: fr) := by
 have hyp : y ∉ s.path := fun hm => (h.ent y).2 (.inl hm) h0
 have hyc : y ∉ s.cls.flatten := fun hm => (h.ent y).2 (.inr hm) h0
 have ne : ∀ {v}, v ∈ s.path → v ≠ y := fun hv e => hyp (e ▸ hv)
 have fx : ∀ f ∈ fr, f.x ∈ s.path := fun f hf => by rw [h.path, mem_pathOf]; exact ⟨f, hf, .inl rfl⟩
 have fv : ∀ f ∈ fr, ∀ v ∈ f.r, v ∈ s.path := fun f hf v hv => by rw [h.path, mem_pathOf]; exact ⟨f, hf, .inr hv⟩
 have pc := h.pos
 refine ⟨?_, ?_, ?_, fun z => ?_, fun z => ?_, fun z => ?_, fun z hz => ?_, fun z hz => ?_, fun z hz => ?_, fun f hf v hv => ?_, fun f hf => ?_, ?_, h.clss, h.clsc, h.clsn⟩
 · simp [h.work]
 · show s.path ++ [y] = pathOf fr ++ [y]
   rw [h.path]
 · show (s.path ++ [y]).Pairwise fun a b => fset s.num y (s.cnt + 1) a < fset s.num y (s.cnt + 1) b
   rw [List.pairwise_append]
   refine ⟨?_, by simp, fun a ha b hb => ?_⟩
   · exact h.sorted.imp_of_mem fun {a b} ha hb hab => by rw [fset_ne _ _ (ne ha), fset_ne _ _ (ne hb)]; exact hab
   · simp at hb; subst hb
     rw [fset_same, fset_ne _ _ (ne ha)]
     have := (pc a).2; omega
 · show fset s.on y true z = true ↔ z ∈ s.path ++ [y]
   by_cases e : z = y
   · subst e; simp [fset_same]
   · rw [fset_ne _ _ e, h.onp]; simp [e]
 · show fset s.num y (s.cnt + 1) z ≠ 0 ↔ z ∈ s.path ++ [y] ∨ z ∈ s.cls.flatten
   by_cases e : z = y
   · subst e; rw [fset_same]; simp; omega
   · rw [fset_ne _ _ e, h.ent]; simp only [List.mem_append, List.mem_singleton, e, or_false]
 · show 0 ≤ fset s.num y (s.cnt + 1) z ∧ fset s.num y (s.cnt + 1) z ≤ ((s.cnt + 1 : Nat) : Int)
   by_cases e : z = y
   · subst e; rw [fset_same]; omega
   · rw [fset_ne _ _ e]; have := pc z; omega
 · show z ∉ s.cls.flatten
   have hz' : z ∈ s.path ++ [y] := hz
   simp only [List.mem_append, List.mem_singleton] at hz'
   rcases hz' with hz' | rfl
   · exact h.disj z hz'
   · exact hyc
 · show fset s.low y (s.cnt + 1) z ≤ fset s.num y (s.cnt + 1) z
   have hz' : z ∈ s.path ++ [y] := hz
   simp only [List.mem_append, List.mem_singleton] at hz'
   rcases hz' with hz' | rfl
   · rw [fset_ne _ _ (ne hz'), fset_ne _ _ (ne hz')]; exact h.lowle z hz'
   · rw [fset_same, fset_same]; omega
 · show ∃ u ∈ s.path ++ [y], fset s.num y (s.cnt + 1) u = fset s.low y (s.cnt + 1) z ∧ Rch nb z u
   have hz' : z ∈ s.path ++ [y] := hz
   simp only [List.mem_append, List.mem_singleton] at hz'
   rcases hz' with hz' | rfl
   · obtain ⟨u, hu, h1, h2⟩ := h.lowr z hz'
     exact ⟨u, by simp [hu], by rw [fset_ne _ _ (ne hu), fset_ne _ _ (ne hz')]; exact h1, h2⟩
   · exact ⟨z, by simp, by rw [fset_same, fset_same], .start⟩
 · show Rch nb f.x v ∧ fset s.low y (s.cnt + 1) v < fset s.num y (s.cnt + 1) v ∧ fset s.low y (s.cnt + 1) f.x ≤ fset s.low y (s.cnt + 1) v ∧ ∀ z ∈ nb v, fset s.num y (s.cnt + 1) z ≠ 0 ∧ (z ∈ s.path ++ [y] → fset s.low y (s.cnt + 1) v ≤ fset s.num y (s.cnt + 1) z)
   rcases List.mem_cons.1 hf with rfl | hf
   · cases hv
   · obtain ⟨h1, h2, h3, h4⟩ := h.frx f hf v hv
     have hvp := fv f hf v hv
     rw [fset_ne _ _ (ne hvp), fset_ne _ _ (ne hvp), fset_ne _ _ (ne (fx f hf))]
     refine ⟨h1, h2, h3, fun z hz => ?_⟩
     obtain ⟨h5, h6⟩ := h4 z hz
     have ez : z ≠ y := fun e => by subst e; exact h5 h0
     rw [fset_ne _ _ ez]
     exact ⟨h5, fun hz' => h6 (by simpa [ez] using hz')⟩
 · show f.k ≤ _ ∧ ∀ z ∈ (nb f.x).take f.k, fset s.num y (s.cnt + 1) z ≠ 0 ∧ (z ∈ s.path ++ [y] → fset s.low y (s.cnt + 1) f.x ≤ fset s.num y (s.cnt + 1) z)
   rcases List.mem_cons.1 hf with rfl | hf
   · exact ⟨Nat.zero_le _, fun z hz => by simp at hz⟩
   · obtain ⟨h1, h2⟩ := h.frk f hf
     refine ⟨h1, fun z hz => ?_⟩
     obtain ⟨h5, h6⟩ := h2 z hz
     have ez : z ≠ y := fun e => by subst e; exact h5 h0
     rw [fset_ne _ _ ez, fset_ne _ _ (ne (fx f hf))]
     exact ⟨h5, fun hz' => h6 (by simpa [ez] using hz')⟩
 · rw [List.pairwise_cons]
   refine ⟨fun g hg => ?_, h.chain⟩
   cases fr with
   | nil => cases hg
   | cons f fs =>
     have hfy := hc f fs rfl
     rcases List.mem_cons.1 hg with rfl | hg
     · exact hfy
     · exact ((List.pairwise_cons.1 h.chain).1 g hg).trans hfy
theorem TI.next {x : Int} {k : Nat} {r : List Int} {fs : List Fr} (h : TI nb s (⟨x, k, r⟩ :: fs)) (hk : k < (nb x).length) (hn : s.num (nb x)[k] ≠ 0) (low' : Int → Int) (hl : low' = if s.on (nb x)[k] = true then fset s.low x (min (s.low x) (s.num (nb x)[k])) else s.low) :
 TI nb { s with low := low', work := (x, k + 1) :: fs.map fun f => (f.x, f.k) } (⟨x, k + 1, r⟩ :: fs) := by
 have hxp : x ∈ s.path := by rw [h.path]; simp [pathOf]
 have hnd := h.nodup
 have hle : ∀ v, low' v ≤ s.low v := fun v => by
  rw [hl]; split
  · by_cases e : v = x
    · subst e; rw [fset_same]; omega
    · rw [fset_ne _ _ e]; omega
  · omega
 have hot : ∀ v, v ≠ x → low' v = s.low v := fun v e => by
  rw [hl]; split
  · rw [fset_ne _ _ e]
  · rfl
 have hpath : s.path = pathOf (⟨x, k + 1, r⟩ :: fs) := h.path
 have nx : ∀ f ∈ (⟨x, k, r⟩ : Fr) :: fs, ∀ v ∈ f.r, v ≠ x := fun f hf v hv e => by
  subst e
  rw [h.path] at hnd
  rcases List.mem_cons.1 hf with rfl | hf
  · simp only [pathOf, List.nodup_append, List.nodup_cons] at hnd
    exact hnd.2.1.1 hv
  · simp only [pathOf, List.nodup_append] at hnd
    exact hnd.2.2 v ((mem_pathOf fs v).2 ⟨f, hf, .inr hv⟩) v (by simp) rfl
 have nx2 : ∀ f ∈ fs, f.x ≠ x := fun f hf e => by
  rw [h.path] at hnd
  simp only [pathOf, List.nodup_append] at hnd
  exact hnd.2.2 f.x ((mem_pathOf fs f.x).2 ⟨f, hf, .inl rfl⟩) x (by simp) e
 refine ⟨rfl, hpath, h.sorted, h.onp, h.ent, h.pos, h.disj, fun y hy => ?_, fun y hy => ?_, fun f hf v hv => ?_, fun f hf => ?_, ?_, h.clss, h.clsc, h.clsn⟩
 · exact Int.le_trans (hle y) (h.lowle y hy)
 · show ∃ u ∈ s.path, s.num u = low' y ∧ Rch nb y u
   by_cases e : y = x
   · subst e
     rw [hl]
     split
     · rename_i hon
       rw [fset_same]
       rcases Int.le_total (s.low y) (s.num (nb y)[k]) with hm | hm
       · rw [Int.min_eq_left hm]; exact h.lowr y hy
       · rw [Int.min_eq_right hm]; exact ⟨(nb y)[k], (h.onp _).1 hon, rfl, Rch.start.step (List.getElem_mem hk)⟩
     · exact h.lowr y hy
   · rw [hot y e]; exact h.lowr y hy
 · show Rch nb f.x v ∧ low' v < s.num v ∧ low' f.x ≤ low' v ∧ ∀ z ∈ nb v, s.num z ≠ 0 ∧ (z ∈ s.path → low' v ≤ s.num z)
   obtain ⟨f', hf', e1, e2⟩ : ∃ f' ∈ (⟨x, k, r⟩ : Fr) :: fs, f'.x = f.x ∧ f'.r = f.r := by
    rcases List.mem_cons.1 hf with rfl | hf
    · exact ⟨_, List.mem_cons_self, rfl, rfl⟩
    · exact ⟨f, List.mem_cons_of_mem _ hf, rfl, rfl⟩
   rw [← e2] at hv
   obtain ⟨h1, h2, h3, h4⟩ := h.frx f' hf' v hv
   rw [← e1]
   rw [hot v (nx f' hf' v hv)]
   exact ⟨h1, h2, Int.le_trans (hle _) h3, h4⟩
 · show f.k ≤ _ ∧ ∀ z ∈ (nb f.x).take f.k, s.num z ≠ 0 ∧ (z ∈ s.path → low' f.x ≤ s.num z)
   rcases List.mem_cons.1 hf with rfl | hf
   · obtain ⟨h1, h2⟩ := h.frk _ List.mem_cons_self
     refine ⟨hk, fun z hz => ?_⟩
     have hz' : z ∈ (nb x).take (k + 1) := hz
     rw [List.take_succ_eq_append_getElem hk, List.mem_append] at hz'
     rcases hz' with hz' | hz'
     · obtain ⟨h3, h4⟩ := h2 z hz'
       exact ⟨h3, fun hp => Int.le_trans (hle x) (h4 hp)⟩
     · simp at hz'
       subst hz'
       refine ⟨hn, fun hp => ?_⟩
       show low' x ≤ _
       rw [hl, if_pos ((h.onp _).2 hp), fset_same]; omega
   · obtain ⟨h1, h2⟩ := h.frk f (List.mem_cons_of_mem _ hf)
     exact ⟨h1, fun z hz => ⟨(h2 z hz).1, fun hp => Int.le_trans (hle _) ((h2 z hz).2 hp)⟩⟩
 · have := h.chain
   rw [List.pairwise_cons] at this ⊢
   exact this
theorem TI.merge {x : Int} {k : Nat} {r : List Int} {g : Fr} {fs : List Fr} (h : TI nb s (⟨x, k, r⟩ :: g :: fs)) (hk : (nb x).length ≤ k) (hlow : s.low x < s.num x) :
 TI nb { s with low := fset s.low g.x (min (s.low g.x) (s.low x)), work := (g :: fs).map fun f => (f.x, f.k) } (⟨g.x, g.k, g.r ++ x :: r⟩ :: fs) := by
 have hnd := h.nodup
 have hch := h.chain
 rw [List.pairwise_cons] at hch
 have hgx : Rch nb g.x x := hch.1 g List.mem_cons_self
 have hxp : x ∈ s.path := by rw [h.path]; simp [pathOf]
 have hgp : g.x ∈ s.path := by rw [h.path]; simp [pathOf]
 have hpath : s.path = pathOf (⟨g.x, g.k, g.r ++ x :: r⟩ :: fs) := by rw [h.path]; simp [pathOf]
 rw [h.path] at hnd
 simp only [pathOf, List.nodup_append, List.nodup_cons] at hnd
 have hxg : x ≠ g.x := fun e => hnd.2.2 g.x (by simp) x (by simp) e.symm
 have hle : ∀ v, fset s.low g.x (min (s.low g.x) (s.low x)) v ≤ s.low v := fun v => by
  by_cases e : v = g.x
  · rw [e, fset_same]; omega
  · rw [fset_ne _ _ e]; omega
 have nx : ∀ f ∈ (⟨x, k, r⟩ : Fr) :: g :: fs, ∀ v ∈ f.r, v ≠ g.x := fun f hf v hv e => by
  rcases List.mem_cons.1 hf with rfl | hf
  · exact hnd.2.2 g.x (by simp) v (by simp; exact .inr hv) e.symm
  · rcases List.mem_cons.1 hf with rfl | hf
    · exact hnd.1.2.1.1 (e ▸ hv)
    · exact hnd.1.2.2 v ((mem_pathOf fs v).2 ⟨f, hf, .inr hv⟩) g.x (by simp) e
 have nx2 : ∀ f ∈ fs, f.x ≠ g.x := fun f hf e => hnd.1.2.2 f.x ((mem_pathOf fs f.x).2 ⟨f, hf, .inl rfl⟩) g.x (by simp) e
 have up : ∀ v, (∀ z ∈ nb v, s.num z ≠ 0 ∧ (z ∈ s.path → s.low v ≤ s.num z)) → ∀ z ∈ nb v, s.num z ≠ 0 ∧ (z ∈ s.path → fset s.low g.x (min (s.low g.x) (s.low x)) v ≤ s.num z) :=
  fun v hv z hz => ⟨(hv z hz).1, fun hp => Int.le_trans (hle v) ((hv z hz).2 hp)⟩
 refine ⟨rfl, hpath, h.sorted, h.onp, h.ent, h.pos, h.disj, fun y hy => ?_, fun y hy => ?_, fun f hf v hv => ?_, fun f hf => ?_, ?_, h.clss, h.clsc, h.clsn⟩
 · exact Int.le_trans (hle y) (h.lowle y hy)
 · show ∃ u ∈ s.path, s.num u = fset s.low g.x (min (s.low g.x) (s.low x)) y ∧ Rch nb y u
   by_cases e : y = g.x
   · subst e
     rw [fset_same]
     rcases Int.le_total (s.low g.x) (s.low x) with hm | hm
     · rw [Int.min_eq_left hm]; exact h.lowr _ hy
     · rw [Int.min_eq_right hm]
       obtain ⟨u, hu, h1, h2⟩ := h.lowr x hxp
       exact ⟨u, hu, h1, hgx.trans h2⟩
   · rw [fset_ne _ _ e]; exact h.lowr y hy
 · show Rch nb f.x v ∧ fset s.low g.x (min (s.low g.x) (s.low x)) v < s.num v ∧ fset s.low g.x (min (s.low g.x) (s.low x)) f.x ≤ fset s.low g.x (min (s.low g.x) (s.low x)) v ∧ ∀ z ∈ nb v, s.num z ≠ 0 ∧ (z ∈ s.path → fset s.low g.x (min (s.low g.x) (s.low x)) v ≤ s.num z)
   rcases List.mem_cons.1 hf with rfl | hf
   · have hv' : v ∈ g.r ∨ v = x ∨ v ∈ r := by simpa using hv
     show Rch nb g.x v ∧ _ < _ ∧ fset s.low g.x (min (s.low g.x) (s.low x)) g.x ≤ _ ∧ _
     rcases hv' with hv' | rfl | hv'
     · obtain ⟨h1, h2, h3, h4⟩ := h.frx g (by simp) v hv'
       refine ⟨h1, Int.lt_of_le_of_lt (hle v) h2, ?_, up v h4⟩
       rw [fset_same, fset_ne _ _ (nx g (by simp) v hv')]; omega
     · refine ⟨hgx, Int.lt_of_le_of_lt (hle v) hlow, ?_, up v fun z hz => ?_⟩
       · rw [fset_same, fset_ne _ _ hxg]; omega
       · have := (h.frk _ List.mem_cons_self).2 z
         exact this (by show z ∈ (nb v).take k; rw [List.take_of_length_le hk]; exact hz)
     · obtain ⟨h1, h2, h3, h4⟩ := h.frx ⟨x, k, r⟩ (by simp) v hv'
       refine ⟨hgx.trans h1, Int.lt_of_le_of_lt (hle v) h2, ?_, up v h4⟩
       rw [fset_same, fset_ne _ _ (nx ⟨x, k, r⟩ (by simp) v hv')]
       have : s.low x ≤ s.low v := h3
       omega
   · obtain ⟨h1, h2, h3, h4⟩ := h.frx f (by simp [hf]) v hv
     refine ⟨h1, Int.lt_of_le_of_lt (hle v) h2, ?_, up v h4⟩
     rw [fset_ne _ _ (nx2 f hf), fset_ne _ _ (nx f (by simp [hf]) v hv)]; exact h3
 · show f.k ≤ _ ∧ ∀ z ∈ (nb f.x).take f.k, s.num z ≠ 0 ∧ (z ∈ s.path → fset s.low g.x (min (s.low g.x) (s.low x)) f.x ≤ s.num z)
   obtain ⟨f', hf', e1, e2⟩ : ∃ f' ∈ g :: fs, f'.x = f.x ∧ f'.k = f.k := by
    rcases List.mem_cons.1 hf with rfl | hf
    · exact ⟨g, List.mem_cons_self, rfl, rfl⟩
    · exact ⟨f, List.mem_cons_of_mem _ hf, rfl, rfl⟩
   obtain ⟨h1, h2⟩ := h.frk f' (List.mem_cons_of_mem _ hf')
   rw [e1, e2] at h1 h2
   exact ⟨h1, fun z hz => ⟨(h2 z hz).1, fun hp => Int.le_trans (hle _) ((h2 z hz).2 hp)⟩⟩
 · have := hch.2
   rw [List.pairwise_cons] at this ⊢
   exact this
theorem idxOf_mid (P r : List Int) (x : Int) (h : x ∉ P) : (P ++ x :: r).idxOf x = P.length := by
 induction P with
 | nil => simp
 | cons y P ih =>
   have hy : y ≠ x := fun e => h (by simp [e])
   rw [List.cons_append, List.idxOf_cons, ih (fun hm => h (by simp [hm]))]
   simp [beq_eq_false_iff_ne.2 hy]
theorem TI.leave {x : Int} {k : Nat} {r : List Int} {fs : List Fr} (h : TI nb s (⟨x, k, r⟩ :: fs)) (hk : (nb x).length ≤ k) (hlow : s.low x = s.num x) (low' : Int → Int) (hl : ∀ v, v ∈ s.path → low' v = s.low v) :
 TI nb (tLeave { s with low := low', work := fs.map fun f => (f.x, f.k) } x) fs ∧ s.path.drop (s.path.idxOf x) = x :: r ∧ s.path.take (s.path.idxOf x) = pathOf fs := by
 have hp : s.path = pathOf fs ++ x :: r := h.path
 have hnd := h.nodup
 have hso := h.sorted
 rw [hp] at hnd hso
 have hxP : x ∉ pathOf fs := fun hm => (List.nodup_append.1 hnd).2.2 x hm x (by simp) rfl
 have hi : s.path.idxOf x = (pathOf fs).length := by rw [hp, idxOf_mid _ _ _ hxP]
 have hd : s.path.drop (s.path.idxOf x) = x :: r := by rw [hi, hp, List.drop_left']; rfl
 have ht : s.path.take (s.path.idxOf x) = pathOf fs := by rw [hi, hp, List.take_left']; rfl
 refine ⟨?_, hd, ht⟩
 have hrx : ∀ v ∈ r, Rch nb x v ∧ s.low v < s.num v ∧ s.low x ≤ s.low v ∧ ∀ z ∈ nb v, s.num z ≠ 0 ∧ (z ∈ s.path → s.low v ≤ s.num z) := fun v hv => h.frx ⟨x, k, r⟩ (by simp) v hv
 have hlt : ∀ u ∈ pathOf fs, s.num u < s.num x := fun u hu => (List.pairwise_append.1 hso).2.2 u hu x (by simp)
 have hge : ∀ u ∈ s.path, s.num x ≤ s.num u → u = x ∨ u ∈ r := fun u hu hn => by
  rw [hp] at hu
  simp only [List.mem_append, List.mem_cons] at hu
  rcases hu with hu | hu
  · have := hlt u hu; omega
  · exact hu
 have back : ∀ n : Nat, ∀ v, (v = x ∨ v ∈ r) → s.num v ≤ n → Rch nb v x := by
  intro n
  induction n using Nat.strongRecOn with
  | ind n ih =>
    intro v hv hn
    rcases hv with rfl | hv
    · exact .start
    · obtain ⟨h1, h2, h3, h4⟩ := hrx v hv
      have hvp : v ∈ s.path := by rw [hp]; simp [hv]
      obtain ⟨u, hu, h5, h6⟩ := h.lowr v hvp
      have hu0 := (h.pos u).1
      have := hge u hu (by omega)
      exact h6.trans (ih (s.num u).toNat (by omega) u this (by omega))
 have fwd : ∀ v, (v = x ∨ v ∈ r) → Rch nb x v := fun v hv => hv.elim (fun e => e ▸ .start) fun hv => (hrx v hv).1
 have nbs : ∀ v, (v = x ∨ v ∈ r) → ∀ z ∈ nb v, z ∈ s.cls.flatten ∨ z = x ∨ z ∈ r := fun v hv z hz => by
  have hz' : s.num z ≠ 0 ∧ (z ∈ s.path → s.num x ≤ s.num z) := by
   rcases hv with rfl | hv
   · have := (h.frk ⟨v, k, r⟩ (by simp)).2 z (by show z ∈ (nb v).take k; rw [List.take_of_length_le hk]; exact hz)
     exact ⟨this.1, fun hp => by have h9 : s.low v ≤ s.num z := this.2 hp; omega⟩
   · obtain ⟨_, _, h3, h4⟩ := hrx v hv
     exact ⟨(h4 z hz).1, fun hp => by have := (h4 z hz).2 hp; omega⟩
  rcases (h.ent z).1 hz'.1 with h1 | h1
  · exact .inr (hge z h1 (hz'.2 h1))
  · exact .inl h1
 have inP : ∀ {y}, y ∈ pathOf fs → y ∈ s.path := fun hy => by rw [hp]; simp [hy]
 have inR : ∀ {y}, (y = x ∨ y ∈ r) → y ∈ s.path := fun hy => by rw [hp]; simp [hy]
 have apart : ∀ {y}, y ∈ pathOf fs → ¬ (y = x ∨ y ∈ r) := fun hy hn => (List.nodup_append.1 hnd).2.2 _ hy _ (by simpa using hn) rfl
 have hfl : (s.cls ++ [x :: r]).flatten = s.cls.flatten ++ (x :: r) := by simp
 have fx : ∀ f ∈ fs, f.x ∈ pathOf fs := fun f hf => (mem_pathOf _ _).2 ⟨f, hf, .inl rfl⟩
 have fv : ∀ f ∈ fs, ∀ v ∈ f.r, v ∈ pathOf fs := fun f hf v hv => (mem_pathOf _ _).2 ⟨f, hf, .inr hv⟩
 unfold tLeave
 simp only [hd, ht]
 refine ⟨rfl, rfl, (List.pairwise_append.1 hso).1, fun y => ?_, fun y => ?_, h.pos, fun y hy => ?_, fun y hy => ?_, fun y hy => ?_, fun f hf v hv => ?_, fun f hf => ?_, (List.pairwise_cons.1 h.chain).2, fun C hC => ?_, fun A C B he v hv z hz => ?_, ?_⟩
 · show (if y ∈ x :: r then false else s.on y) = true ↔ y ∈ pathOf fs
   split
   · rename_i hm
     simp only [Bool.false_eq_true, false_iff]
     exact fun hy => apart hy (by simpa using hm)
   · rename_i hm
     rw [h.onp, hp]
     simp only [List.mem_append]
     exact ⟨fun hy => hy.resolve_right hm, .inl⟩
 · show s.num y ≠ 0 ↔ y ∈ pathOf fs ∨ y ∈ (s.cls ++ [x :: r]).flatten
   rw [h.ent, hfl, hp]
   simp only [List.mem_append]
   constructor
   · rintro ((h1 | h1) | h1)
     · exact .inl h1
     · exact .inr (.inr h1)
     · exact .inr (.inl h1)
   · rintro (h1 | h1 | h1)
     · exact .inl (.inl h1)
     · exact .inr h1
     · exact .inl (.inr h1)
 · show y ∉ (s.cls ++ [x :: r]).flatten
   rw [hfl, List.mem_append]
   rintro (h1 | h1)
   · exact h.disj y (inP hy) h1
   · exact apart hy (by simpa using h1)
 · show low' y ≤ s.num y
   rw [hl y (inP hy)]; exact h.lowle y (inP hy)
 · show ∃ u ∈ pathOf fs, s.num u = low' y ∧ Rch nb y u
   rw [hl y (inP hy)]
   obtain ⟨u, hu, h1, h2⟩ := h.lowr y (inP hy)
   refine ⟨u, ?_, h1, h2⟩
   have h3 := h.lowle y (inP hy)
   have h4 := hlt y hy
   rw [hp] at hu
   simp only [List.mem_append, List.mem_cons] at hu
   rcases hu with hu | rfl | hu
   · exact hu
   · omega
   · have : s.num x < s.num u := by
      have := (List.pairwise_append.1 hso).2.1
      rw [List.pairwise_cons] at this
      exact this.1 u hu
     omega
 · show Rch nb f.x v ∧ low' v < s.num v ∧ low' f.x ≤ low' v ∧ ∀ z ∈ nb v, s.num z ≠ 0 ∧ (z ∈ pathOf fs → low' v ≤ s.num z)
   obtain ⟨h1, h2, h3, h4⟩ := h.frx f (by simp [hf]) v hv
   rw [hl v (inP (fv f hf v hv)), hl f.x (inP (fx f hf))]
   exact ⟨h1, h2, h3, fun z hz => ⟨(h4 z hz).1, fun hz' => (h4 z hz).2 (inP hz')⟩⟩
 · show f.k ≤ _ ∧ ∀ z ∈ (nb f.x).take f.k, s.num z ≠ 0 ∧ (z ∈ pathOf fs → low' f.x ≤ s.num z)
   obtain ⟨h1, h2⟩ := h.frk f (by simp [hf])
   rw [hl f.x (inP (fx f hf))]
   exact ⟨h1, fun z hz => ⟨(h2 z hz).1, fun hz' => (h2 z hz).2 (inP hz')⟩⟩
 · rw [List.mem_append, List.mem_singleton] at hC
   rcases hC with hC | rfl
   · exact h.clss C hC
   · refine ⟨by simp, fun a ha b hb => ?_⟩
     have ha' : a = x ∨ a ∈ r := by simpa using ha
     exact (back (s.num a).toNat a ha' (by have := (h.pos a).1; omega)).trans (fwd b (by simpa using hb))
 · rcases List.eq_nil_or_concat B with rfl | ⟨B', b, rfl⟩
   · have e1 : s.cls = A ∧ x :: r = C := by
      have : s.cls ++ [x :: r] = A ++ [C] := he
      exact ⟨(List.append_inj' this rfl).1, by simpa using (List.append_inj' this rfl).2⟩
     obtain ⟨rfl, rfl⟩ := e1
     have := nbs v (by simpa using hv) z hz
     simpa using this
   · have e1 : s.cls = A ++ C :: B' := by
      have he' : s.cls ++ [x :: r] = A ++ C :: B'.concat b := he
      have : s.cls ++ [x :: r] = (A ++ C :: B') ++ [b] := by rw [he']; simp [List.concat_eq_append]
      exact (List.append_inj' this rfl).1
     exact h.clsc A C B' e1 v hv z hz
 · show (s.cls ++ [x :: r]).flatten.Nodup
   rw [hfl, List.nodup_append]
   refine ⟨h.clsn, (List.nodup_append.1 hnd).2.1, fun a ha b hb e => ?_⟩
   subst e
   exact h.disj a (inR (by simpa using hb)) ha
end
end Go.Proofs.YtjecjaihficcdaaGreat
namespace Go.Proofs.YtjecjaihficcdaaGreat
open Go.RowKit
def kvI (n : Int) : Value := Value.int .i64 n
theorem fam_kvI : KeyFam Tryz.prog 3 kvI := fam_int Tryz.underlying3
def rowAt (ks : List (Int × Value)) (n : Int) : Value := (lkp ks n).getD (.slice none 0 0)
structure GM (e : TypeId) (w : World) (base g : Nat) (ks : List (Int × Value)) (rows : Int → List Value) : Prop where
 map : MapK kvI w g ks
 own : ∀ n, w.ownsRow base e 1 (rowAt ks n) (rows n).length (rows n)
 apart : ∀ n m b, n ≠ m → (rowAt ks n).ownBlock = some b → (rowAt ks m).ownBlock ≠ some b
 dom : ∀ n, (lkp ks n).isSome = true ↔ rows n ≠ []
 gb : base ≤ g
theorem row_ne_map {e : TypeId} {w : World} {base g n : Nat} {v : Value} {xs : List Value} {ks : List (Int × Value)} (h : w.ownsRow base e 1 v n xs) (hm : MapK kvI w g ks) : ∀ k, v.ownBlock = some k → ¬ k = g := by
 intro k hk e
 subst e
 obtain ⟨-, -, cur, h1⟩ := own_typed h hk
 obtain ⟨es, clock, h2, -⟩ := hm
 rw [h1] at h2
 cases h2
theorem GM.new (e : TypeId) (w : World) (base : Nat) (hb : base ≤ w.heap.size) : GM e (w.alloc (.map #[] 0)) base w.heap.size [] (fun _ => []) :=
 ⟨MapK.new w, fun _ => World.ownsRow_nil _ _ _ 1, fun _ _ _ _ h => by simp [rowAt, lkp, Value.ownBlock] at h, fun n => by simp [lkp], hb⟩
theorem GM.ext {e : TypeId} {w w' : World} {base g : Nat} {ks : List (Int × Value)} {rows : Int → List Value} (h : GM e w base g ks rows) (k : Ext w w') : GM e w' base g ks rows :=
 ⟨h.map.ext k, fun n => own_ext (h.own n) k, h.apart, h.dom, h.gb⟩
theorem rowAt_put (ks : List (Int × Value)) (n m : Int) (v : Value) : rowAt (kput ks n v) m = if m = n then v else rowAt ks m := by
 unfold rowAt
 rw [lkp_kput]
 split <;> rfl
theorem GM.put {e : TypeId} {w w1 w2 : World} {base g g' cap L : Nat} {ks : List (Int × Value)} {rows : Int → List Value} (h : GM e w base g ks rows) (n : Int) (u : Value) (hL : (rows n).length = L)
 (hown : w1.ownsRow base e 1 (.slice (some ⟨g', 0, none⟩) (L + 1) cap) (L + 1) (rows n ++ [u])) (hc : Chg (fun i => some i = (rowAt ks n).ownBlock) w w1) (hat : (rowAt ks n).ownBlock = some g' ∨ w.heap.size ≤ g')
 (hm : MapK kvI w2 g (kput ks n (.slice (some ⟨g', 0, none⟩) (L + 1) cap))) (hu : Chg (fun i => i = g) w1 w2) :
 GM e w2 base g (kput ks n (.slice (some ⟨g', 0, none⟩) (L + 1) cap)) (fset rows n (rows n ++ [u])) ∧ Chg (fun i => base ≤ i) w w2 := by
 have hg1 : MapK kvI w1 g ks := h.map.keep hc (fun e1 => row_ne_map (h.own n) h.map _ e1.symm rfl)
 have hown2 := hu.own hown (fun k hk => row_ne_map hown hg1 k hk)
 refine ⟨⟨hm, fun m => ?_, fun m m' b hne hb hb' => ?_, fun m => ?_, h.gb⟩, ?_⟩
 · rw [rowAt_put]
   by_cases hmn : m = n
   · subst hmn
     rw [if_pos rfl, fset_same]
     simpa [hL] using hown2
   · rw [if_neg hmn, fset_ne _ _ hmn]
     have h1 := hc.own (h.own m) (fun k hk e1 => h.apart m n k hmn hk e1.symm)
     exact hu.own h1 (fun k hk => row_ne_map (h.own m) h.map k hk)
 · rw [rowAt_put] at hb hb'
   by_cases h1 : m = n
   · subst h1
     rw [if_pos rfl] at hb
     rw [if_neg (fun e => hne e.symm)] at hb'
     injection hb with hb
     have hb2 : g' = b := hb
     subst hb2
     rcases hat with h2 | h2
     · exact h.apart m m' _ hne h2 hb'
     · have := (own_typed (h.own m') hb').2.1; omega
   · rw [if_neg h1] at hb
     by_cases h3 : m' = n
     · subst h3
       rw [if_pos rfl] at hb'
       injection hb' with hb'
       have hb2 : g' = b := hb'
       subst hb2
       rcases hat with h2 | h2
       · exact h.apart m' m _ (fun e => hne e.symm) h2 hb
       · have := (own_typed (h.own m) hb).2.1; omega
     · rw [if_neg h3] at hb'
       exact h.apart m m' b hne hb hb'
 · rw [lkp_kput]
   by_cases hmn : m = n
   · subst hmn
     rw [if_pos rfl, fset_same]; simp
   · rw [if_neg hmn, fset_ne _ _ hmn]
     exact h.dom m
 · exact (hc.mono fun i hi => (own_typed (h.own n) hi.symm).1).trans (hu.mono fun i hi => by rw [hi]; exact h.gb)
def impR (f : List (List Int)) (k : Nat) (y : Int) : List Value := (nbL (f.take k) y).map (Value.int .i64)
theorem nbL_succ (f : List (List Int)) (k : Nat) (hk : k < f.length) (y : Int) : nbL (f.take (k + 1)) y = nbL (f.take k) y ++ nbC y f[k] := by
 unfold nbL
 rw [List.take_succ_eq_append_getElem hk, List.flatMap_append]; simp
theorem nbC_len (y : Int) (c : List Int) : (nbC y c).length ≤ 2 := by
 unfold nbC
 split
 · rw [List.length_append]; split <;> split <;> simp
 · simp
theorem nbL_len (f : List (List Int)) (y : Int) : (nbL f y).length ≤ 2 * f.length := by
 unfold nbL
 induction f with
 | nil => simp
 | cons c f ih => rw [List.flatMap_cons, List.length_append, List.length_cons]; have := nbC_len y c; omega
theorem impR_two (f : List (List Int)) (k : Nat) (hk : k < f.length) (a b : Int) (hab : f[k] = [a, b]) :
 fset (fset (impR f k) (-a) (impR f k (-a) ++ [.int .i64 b])) (-b) (fset (impR f k) (-a) (impR f k (-a) ++ [.int .i64 b]) (-b) ++ [.int .i64 a]) = impR f (k + 1) := by
 funext y
 unfold impR
 rw [nbL_succ f k hk, hab, List.map_append]
 have e : (nbC y [a, b]) = (if -a = y then [b] else []) ++ (if -b = y then [a] else []) := rfl
 rw [e, List.map_append]
 by_cases h1 : y = -b
 · subst h1
   rw [fset_same, if_pos rfl]
   by_cases h2 : -b = -a
   · rw [h2, fset_same, if_pos rfl]; simp
   · rw [fset_ne _ _ h2, if_neg (fun e => h2 e.symm)]; simp
 · have n1 : ¬ -b = y := fun e => h1 e.symm
   rw [fset_ne _ _ h1, if_neg n1]
   by_cases h2 : y = -a
   · subst h2; rw [fset_same, if_pos rfl]; simp
   · have n2 : ¬ -a = y := fun e => h2 e.symm
     rw [fset_ne _ _ h2, if_neg n2]; simp
theorem impR_none (f : List (List Int)) (k : Nat) (hk : k < f.length) (h : f[k].length ≠ 2) : impR f k = impR f (k + 1) := by
 funext y
 unfold impR
 rw [nbL_succ f k hk]
 have : nbC y f[k] = [] := by
  unfold nbC
  split
  · rename_i e; rw [e] at h; exact absurd rfl h
  · rfl
 rw [this, List.append_nil]
theorem zeroValue_sl (w : World) : (zeroValue 24).run Tryz.prog w = .ok (.slice none 0 0) w := by kernel_rfl
theorem GM.lookup {w : World} {base g : Nat} {ks : List (Int × Value)} {rows : Int → List Value} (h : GM 3 w base g ks rows) (n : Int) :
 (Instr.lookup 67 (.map (some g)) (.int .i64 n) false).run Tryz.prog w = .ok (rowAt ks n) w := h.map.lookup fam_kvI Tryz.underlying67 (zeroValue_sl w) n
def PostImp (w : World) (f : List (List Int)) (e : Ending) (w' : World) : Prop := ∃ g ks, e = .returned (.map (some g)) ∧ GM 3 w' w.heap.size g ks (impR f f.length) ∧ Ext w w'
set_option maxRecDepth 100000 in
set_option maxHeartbeats 4000000 in
theorem implications_any (f : List (List Int)) (u : Value) (w : World) (h64 : All64L f) (kr : RLL w u f) (hm : mayCnfB f = true) : Calls Tryz.prog 39 #[u] w (PostImp w f) := by
 obtain ⟨A, c, vs, rfl, h1, h2, h3, h4, h5⟩ := kr
 have H4 := Lib.hid h4
 have H5 := Lib.hid h5
 have H3 := Lib.hid h3
 have HM := Lib.hid hm
 have hlen := mayCnfB_len hm
 obtain ⟨j0, hj, hy, hy1, hy2⟩ := info_parts info_int
 have HJ := Lib.hid hj
 have HY := Lib.hid hy
 have HY1 := Lib.hid hy1
 have HY2 := Lib.hid hy2
 have hmm := @run_makeMap Tryz.prog
 clear h4 h5 h3 hm hj hy hy1 hy2
 have hG0 := GM.new 3 w w.heap.size (Nat.le_refl _)
 have HG0 := Lib.hid hG0
 have HE0 := Lib.hid (Ext.alloc w (.map #[] 0))
 clear hG0
 go_enter Tryz.func39, Tryz.ntmps39
 go_wp2_with fail
 go_loopg [9] vs.length (fun gn i wr => ∃ k : Nat, k ≤ vs.length ∧ gn + k = vs.length ∧ i = .int .i64 k ∧ Hid (∃ ks, GM 3 wr w.heap.size w.heap.size ks (impR f k)) ∧ Hid (Ext w wr))
 case atStart => exact ⟨0, Nat.zero_le _, by omega, rfl, Lib.hid ⟨[], HG0.out⟩, HE0⟩
 case round =>
  obtain ⟨k, hk, hgk, rfl, HG, HE⟩ := hrel
  obtain ⟨w1, rfl⟩ : ∃ w1 : World, w1 = wr := ⟨_, rfl⟩
  by_cases hlt : k < vs.length
  · have hkf : k < f.length := by have := H4.out; omega
    obtain ⟨ad, rfl, hck⟩ := (H3.out.ext HE.out) k hlt
    obtain ⟨B, cb, hbe, b1, b2, b3⟩ := (H5.out k hlt hkf)
    have HROW := Lib.hid b3
    rw [hbe] at hck
    obtain ⟨L, hL⟩ : ∃ L, L = f[k].length := ⟨_, rfl⟩
    rw [← hL] at b1 b2 hck
    have HL := Lib.hid hL
    clear hbe b3 hL
    by_cases h2 : L = 2
    · have hb : ((L : Int) == 2) = true := by subst h2; rfl
      obtain ⟨p, q, hpq⟩ := two_of (HL.out.symm.trans h2)
      subst h2
      have hasc := ((mayB_iff _).1 (mayCnfB_get HM.out k hkf)).2
      rw [hpq] at hasc
      have hp := varOf_eq (n := p) (by have := hasc p (by simp); omega)
      have hq := varOf_eq (n := q) (by have := hasc q (by simp); omega)
      have hpr := varOf_range p
      have hqr := varOf_range q
      have p1 : -65536 ≤ p := by omega
      have p2 : p ≤ 65536 := by omega
      have q1 : -65536 ≤ q := by omega
      have q2 : q ≤ 65536 := by omega
      have hr := HROW.out
      rw [hpq] at hr
      obtain ⟨bd, rfl, r0⟩ := hr 0 (by simp)
      obtain ⟨bd', e', r1⟩ := hr 1 (by simp)
      injection e' with e'
      subst e'
      simp only [List.map_cons, List.map_nil, List.getElem_cons_zero, List.getElem_cons_succ] at r0 r1
      rw [show bd.add 0 = bd by simp [Addr.add]] at r0
      rw [show bd.add 1 = ⟨bd.block, bd.off + 1, none⟩ by simp [Addr.add]] at r1
      have R0 := Lib.hid r0
      have R1 := Lib.hid r1
      have HTWO := Lib.hid (impR_two f k hkf p q hpq)
      obtain ⟨rw0, hR0⟩ : ∃ rw0, rw0 = impR f k := ⟨_, rfl⟩
      have hl0 : ∀ y, (rw0 y).length ≤ 2 * k := fun y => by rw [hR0]; unfold impR; rw [List.length_map]; have := nbL_len (f.take k) y; rw [List.length_take] at this; omega
      have HL0 := Lib.hid hl0
      obtain ⟨ks0, hg0⟩ := HG.out
      rw [← hR0] at hg0 HTWO
      have HG0 := Lib.hid hg0
      have HE0' := HE
      obtain ⟨w20, rfl⟩ : ∃ w20 : World, w20 = w1 := ⟨_, rfl⟩
      have hmg := HE.out.size
      clear hr hpq hasc hp hq hpr hqr hR0 hl0 hg0 HG hmm r0 r1 HE0'
      have hk2 : k ≤ 20000 := by have := H4.out; omega
      obtain ⟨c0, c1, M, hM⟩ : ∃ c0 : w20.cell? bd = some (.int .i64 p), ∃ c1 : w20.cell? ⟨bd.block, bd.off + 1, none⟩ = some (.int .i64 q), ∃ M, M = (rw0 (-p)).length := ⟨HE.out.cell R0.out, HE.out.cell R1.out, _, rfl⟩
      have hrl := own_row (HG0.out.own (-p))
      rw [← hM] at hrl
      obtain ⟨A1, C1, hv1, -⟩ := hrl
      have hlk : ∀ w', Ext w20 w' → (Instr.lookup 67 (.map (some w.heap.size)) (.int .i64 (-p)) false).run Tryz.prog w' = .ok (.slice A1 M C1) w' := fun w' he => by
       have := (HG0.out.ext he).lookup (-p)
       rwa [hv1] at this
      have hl1 := hlk _ (Ext.drew w20)
      have hl2 := hlk _ ((Ext.alloc w20 (.cells #[.int .i64 q] 3)).trans (Ext.drew _))
      have hl3 := hlk _ ((Ext.drew w20).trans (Ext.alloc _ (.cells #[.int .i64 q] 3)))
      have c0b : (w20.alloc (.cells #[.int .i64 q] 3)).cell? bd = some (.int .i64 p) := (Ext.alloc w20 _).cell c0
      have c1b : (w20.alloc (.cells #[.int .i64 q] 3)).cell? ⟨bd.block, bd.off + 1, none⟩ = some (.int .i64 q) := (Ext.alloc w20 _).cell c1
      have hMl : M ≤ 2 * k := by rw [hM]; exact HL0.out _
      have hsz := HE.out.size
      have HV1 := Lib.hid hv1
      have HMM := Lib.hid hM
      clear hlk hv1 hM
      go_upto_region 6 with fail
      have hwr : IntKind.i64.wrap ((-p)) = (-p) := IntWalk.i64_in _ (by omega)
      go_cut [16] from 16 to 31 (fun s wy => Hid (∃ ks, GM 3 wy w.heap.size w.heap.size ks (fset rw0 (-p) (rw0 (-p) ++ [.int .i64 q]))) ∧ Hid (Ext w wy))
      case first =>
       go_region_held3 (fun w' => w'.cell? bd = some (.int .i64 p) ∧ w'.cell? ⟨bd.block, bd.off + 1, none⟩ = some (.int .i64 q)) (first | exact ⟨c0, c1⟩ | exact ⟨c0b, c1b⟩ | exact ⟨cp3, c43⟩ | exact ⟨cpu, c4u⟩ | go_keep) (first | (
        refine step_append_lies _ rfl (.tmp 26) (.tmp 30) 24 rfl w.heap.size 3 j0 (.int .i64 0) 1 8 Tryz.underlying24 HJ.out HY.out HY1.out HY2.out rfl (by decide) (.slice A1 M C1) M (rw0 (-p)) rfl ?c1 ⟨w20.heap.size, 0, none⟩ 1 1 [.int .i64 q] rfl rfl ?c2 (by simp [Value.oneCell']) (by omega) (by unfold maxLen; omega) (by omega) (by simp; omega) (w20.heap.size + 1) (by simp) ?_
        case c1 => exact own_ext (by have := HG0.out.own (-p); rw [HV1.out, ← HMM.out] at this; exact this) ((Ext.alloc w20 _).trans (Ext.drew _))
        case c2 => exact one_cell w20 _ _
        intro g cap w1 hown hgrow hat hlt
        have hGR := (((Ext.alloc w20 _).trans (Ext.drew _)).chg _).trans (grown_chg hgrow)
        have hGR2 : Chg (fun i => some i = (rowAt ks0 (-p)).ownBlock) w20 w1 := by rw [HV1.out]; exact hGR
        have hat2 : (rowAt ks0 (-p)).ownBlock = some g ∨ w20.heap.size ≤ g := by rw [HV1.out]; exact hat.imp id (fun e => by omega)
        have hEw1 : Ext w w1 := hGR2.toExt HE.out (fun i hi => (own_typed (HG0.out.own (-p)) hi.symm).1)
        have cp3 := hEw1.cell R0.out
        have c43 := hEw1.cell R1.out
        have hmk : MapK kvI w1 w.heap.size ks0 := HG0.out.map.keep hGR2 (fun e1 => row_ne_map (HG0.out.own (-p)) HG0.out.map _ e1.symm rfl)
        obtain ⟨wu, hrun, hmu, hcu, -⟩ := hmk.update (P := Tryz.prog) fam_kvI Tryz.underlying67 (-p) (.slice (some ⟨g, 0, none⟩) (M + 1) cap)
        unfold kvI at hrun
        have hEwu : Ext w wu := hcu.toExt hEw1 (fun i hi => by omega)
        have cpu := hEwu.cell R0.out
        have c4u := hEwu.cell R1.out
        have hput := HG0.out.put (-p) (.int .i64 q) HMM.out.symm hown hGR2 hat2 hmu hcu
        have HPUT : Hid (∃ ks, GM 3 wu w.heap.size w.heap.size ks (fset rw0 (-p) (rw0 (-p) ++ [.int .i64 q]))) := Lib.hid ⟨_, hput.1⟩
        have HEU := Lib.hid hEwu
        clear hown hgrow hat hlt hmu hcu hGR hGR2 hat2 hEw1 hmk hEwu hput))
       all_goals
        (go_wp2; go_meet; exact ⟨HPUT, HEU⟩)
      case rest =>
      obtain ⟨HGN, HE6⟩ := hcut
      obtain ⟨w60, rfl⟩ : ∃ w60 : World, w60 = wc := ⟨_, rfl⟩
      obtain ⟨rw1, hrw⟩ : ∃ r, r = fset rw0 (-p) (rw0 (-p) ++ [.int .i64 q]) := ⟨_, rfl⟩
      have HL1 : Hid (∀ y, (rw1 y).length ≤ 2 * k + 1) := Lib.hid (fun y => by
       rw [hrw]
       by_cases hy : y = (-p)
       · subst hy; rw [fset_same, List.length_append]; have := HL0.out (-p); simp; omega
       · rw [fset_ne _ _ hy]; have := HL0.out y; omega)
      obtain ⟨ks1, hg1⟩ := HGN.out
      rw [← hrw] at hg1 HTWO
      have HG1 := Lib.hid hg1
      clear HGN hrw hg1 c0 c1 c0b c1b hl1 hl2 hl3 hwr
      obtain ⟨c0, c1, M, hM⟩ : ∃ c0 : w60.cell? bd = some (.int .i64 p), ∃ c1 : w60.cell? ⟨bd.block, bd.off + 1, none⟩ = some (.int .i64 q), ∃ M, M = (rw1 (-q)).length := ⟨HE6.out.cell R0.out, HE6.out.cell R1.out, _, rfl⟩
      have hrl := own_row (HG1.out.own (-q))
      rw [← hM] at hrl
      obtain ⟨A1, C1, hv1, -⟩ := hrl
      have hlk : ∀ w', Ext w60 w' → (Instr.lookup 67 (.map (some w.heap.size)) (.int .i64 (-q)) false).run Tryz.prog w' = .ok (.slice A1 M C1) w' := fun w' he => by
       have := (HG1.out.ext he).lookup (-q)
       rwa [hv1] at this
      have hl1 := hlk _ (Ext.drew w60)
      have hl2 := hlk _ ((Ext.alloc w60 (.cells #[.int .i64 p] 3)).trans (Ext.drew _))
      have hl3 := hlk _ ((Ext.drew w60).trans (Ext.alloc _ (.cells #[.int .i64 p] 3)))
      have c0b : (w60.alloc (.cells #[.int .i64 p] 3)).cell? bd = some (.int .i64 p) := (Ext.alloc w60 _).cell c0
      have c1b : (w60.alloc (.cells #[.int .i64 p] 3)).cell? ⟨bd.block, bd.off + 1, none⟩ = some (.int .i64 q) := (Ext.alloc w60 _).cell c1
      have hMl : M ≤ 2 * k + 1 := by rw [hM]; exact HL1.out _
      have hsz := HE6.out.size
      have HV1 := Lib.hid hv1
      have HMM := Lib.hid hM
      clear hlk hv1 hM
      go_upto_region 7 with fail
      have hwr : IntKind.i64.wrap ((-q)) = (-q) := IntWalk.i64_in _ (by omega)
      go_region_held3 (fun w' => w'.cell? bd = some (.int .i64 p) ∧ w'.cell? ⟨bd.block, bd.off + 1, none⟩ = some (.int .i64 q)) (first | exact ⟨c0, c1⟩ | exact ⟨c0b, c1b⟩ | exact ⟨cp3, c43⟩ | exact ⟨cpu, c4u⟩ | go_keep) (first | (
       refine step_append_lies _ rfl (.tmp 42) (.tmp 46) 24 rfl w.heap.size 3 j0 (.int .i64 0) 1 8 Tryz.underlying24 HJ.out HY.out HY1.out HY2.out rfl (by decide) (.slice A1 M C1) M (rw1 (-q)) rfl ?c1 ⟨w60.heap.size, 0, none⟩ 1 1 [.int .i64 p] rfl rfl ?c2 (by simp [Value.oneCell']) (by omega) (by unfold maxLen; omega) (by omega) (by simp; omega) (w60.heap.size + 1) (by simp) ?_
       case c1 => exact own_ext (by have := HG1.out.own (-q); rw [HV1.out, ← HMM.out] at this; exact this) ((Ext.alloc w60 _).trans (Ext.drew _))
       case c2 => exact one_cell w60 _ _
       intro g cap w1 hown hgrow hat hlt
       have hGR := (((Ext.alloc w60 _).trans (Ext.drew _)).chg _).trans (grown_chg hgrow)
       have hGR2 : Chg (fun i => some i = (rowAt ks1 (-q)).ownBlock) w60 w1 := by rw [HV1.out]; exact hGR
       have hat2 : (rowAt ks1 (-q)).ownBlock = some g ∨ w60.heap.size ≤ g := by rw [HV1.out]; exact hat.imp id (fun e => by omega)
       have hEw1 : Ext w w1 := hGR2.toExt HE6.out (fun i hi => (own_typed (HG1.out.own (-q)) hi.symm).1)
       have cp3 := hEw1.cell R0.out
       have c43 := hEw1.cell R1.out
       have hmk : MapK kvI w1 w.heap.size ks1 := HG1.out.map.keep hGR2 (fun e1 => row_ne_map (HG1.out.own (-q)) HG1.out.map _ e1.symm rfl)
       obtain ⟨wu, hrun, hmu, hcu, -⟩ := hmk.update (P := Tryz.prog) fam_kvI Tryz.underlying67 (-q) (.slice (some ⟨g, 0, none⟩) (M + 1) cap)
       unfold kvI at hrun
       have hEwu : Ext w wu := hcu.toExt hEw1 (fun i hi => by omega)
       have cpu := hEwu.cell R0.out
       have c4u := hEwu.cell R1.out
       have hput := HG1.out.put (-q) (.int .i64 p) HMM.out.symm hown hGR2 hat2 hmu hcu
       have HPUT : Hid (∃ ks, GM 3 wu w.heap.size w.heap.size ks (fset rw1 (-q) (rw1 (-q) ++ [.int .i64 p]))) := Lib.hid ⟨_, hput.1⟩
       have HEU := Lib.hid hEwu
       clear hown hgrow hat hlt hmu hcu hGR hGR2 hat2 hEw1 hmk hEwu hput))
      all_goals
       have HG2' : Hid (∃ ks, GM 3 wu w.heap.size w.heap.size ks (impR f (k + 1))) := Lib.hid (by rw [← HTWO.out]; exact HPUT.out)
       go_wp2
       go_roundg (vs.length - (k + 1))
       case measure => omega
       case rel => exact ⟨k + 1, by omega, by omega, by go_num, HG2', HEU⟩
    · have hb : ((L : Int) == 2) = false := by simp; omega
      have HG2 : Hid (∃ ks, GM 3 w1 w.heap.size w.heap.size ks (impR f (k + 1))) := Lib.hid (by rw [← impR_none f k hkf (fun e => h2 (HL.out.trans e))]; exact HG.out)
      go_wp2
      go_roundg (vs.length - (k + 1))
      case measure => omega
      case rel => exact ⟨k + 1, by omega, by omega, by go_num, HG2, HE⟩
  · obtain rfl : k = vs.length := by omega
    go_wp2
    go_ret
    obtain ⟨ks, hg⟩ := HG.out
    exact ⟨_, ks, rfl, by rw [H4.out] at hg; exact hg, HE.out⟩
end Go.Proofs.YtjecjaihficcdaaGreat
namespace Go.Proofs.YtjecjaihficcdaaGreat
open Go.RowKit
attribute [local go_sem] Oper.semAt_some
theorem Chg.cell {S : Nat → Prop} {w w' : World} (h : Chg S w w') {a : Addr} {v : Value} (hc : w.cell? a = some v) (hn : ¬ S a.block) : w'.cell? a = some v := by
 rw [← hc]
 have := h.block a.block (World.block_lt_of_cell? w a hc) hn
 simp [World.cell?, this]
theorem add_block (ad : Addr) (j : Nat) : (ad.add j).block = ad.block := by unfold Addr.add; split <;> rfl
def RowB (A : Option Addr) (n : Nat) (k : Nat) : Prop := 0 < n ∧ ∃ ad, A = some ad ∧ k = ad.block
theorem Row.chg {S : Nat → Prop} {w w' : World} {A : Option Addr} {vs : List Value} (h : Row w A vs) (e : Chg S w w') (hn : ∀ k, RowB A vs.length k → ¬ S k) : Row w' A vs := fun j hj => by
 obtain ⟨ad, ha, hc⟩ := h j hj
 exact ⟨ad, ha, e.cell hc (by rw [add_block]; exact hn _ ⟨by omega, ad, ha, rfl⟩)⟩
theorem RowB.lt {w : World} {A : Option Addr} {vs : List Value} (h : Row w A vs) {k : Nat} (hk : RowB A vs.length k) : k < w.heap.size := by
 obtain ⟨h0, ad, rfl, rfl⟩ := hk
 obtain ⟨ad', ha, hc⟩ := h 0 h0
 cases ha
 have := World.block_lt_of_cell? w _ hc
 rwa [add_block] at this
def backL (us : List Value) : Nat → List (Int × Value)
 | 0 => []
 | k + 1 => backL us k ++ [(((us.length - 1 - k : Nat) : Int), us.getD (us.length - 1 - k) undef)]
theorem backL_pre (us : List Value) (k : Nat) : ∀ m, k ≤ m → backL us k <+: backL us m := by
 intro m
 induction m with
 | zero => intro h; obtain rfl : k = 0 := by omega
           exact List.prefix_refl _
 | succ m ih =>
   intro h
   rcases Nat.lt_or_ge k (m + 1) with h1 | h1
   · exact (ih (by omega)).trans (List.prefix_append _ _)
   · obtain rfl : k = m + 1 := by omega
     exact List.prefix_refl _
set_option maxRecDepth 100000 in
set_option maxHeartbeats 2000000 in
theorem back_iter (A : Option Addr) (c b : Nat) (us : List Value) (w : World) (hb : w.cell? ⟨b, 0, none⟩ = some (.slice A us.length c)) (hrow : Row w A us) (hl : us.length ≤ 9223372036854775807) :
 Iter Tryz.prog 107 #[.pointer (some ⟨b, 0, none⟩)] (fun p : Int × Value => #[.int .i64 p.1, p.2]) (backL us us.length) (fun k => k = b ∨ RowB A us.length k) w := by
 intro l J Jx W hW _ _ hY h0
 have HB := Lib.hid (hW.cell hb (fun h => h (.inl rfl)))
 have HR := Lib.hid (hrow.chg hW (fun k hk h => h (.inr hk)))
 have HY := Lib.hid hY
 clear hY hb hrow hW
 refine callsIn_of_wp Tryz.func107 rfl trivial ?_ rfl
 simp only [Tryz.ntmps107, List.size_toArray, List.length_cons, List.length_nil, Nat.reduceAdd, Nat.reduceSub, Array.replicate_succ, Array.replicate_zero, List.push_toArray, List.append_toArray, List.nil_append, List.cons_append]
 have hb0 := HB.out
 gi_wp2
 gi_loopw [3] (fun i wr => ∃ k : Nat, k ≤ us.length ∧ i = .int .i64 ((us.length : Int) - 1 - k) ∧ Hid (J (backL us k) (fun _ => False) wr ∧ wr.cell? ⟨b, 0, none⟩ = some (.slice A us.length c) ∧ Row wr A us))
  (fun i _ => (intOf i + 1).toNat)
 case atStart => exact ⟨0, Nat.zero_le _, by simp, h0, HB.out, HR.out⟩
 case round =>
  obtain ⟨k, hk, rfl, HS⟩ := hrel
  by_cases hlt : k < us.length
  · obtain ⟨j, hj⟩ : ∃ j : Nat, j = us.length - 1 - k := ⟨_, rfl⟩
    have ej : (us.length : Int) - 1 - k = (j : Int) := by omega
    have hjl : j < us.length := by omega
    obtain ⟨ad, rfl, hcell⟩ := HS.out.2.2 j hjl
    have hbx := HS.out.2.1
    obtain ⟨fn, tmps, assign, body, hy, hR⟩ := HY.out (backL us k) ((j : Int), us.getD j undef) _ wr HS.out.1 (by
     have := backL_pre us (k + 1) us.length hlt
     rw [backL, ← hj] at this
     exact this)
    have eu : us.getD j undef = us[j] := by simp [hjl]
    rw [eu] at hy
    have HK : Hid (backL us (k + 1) = backL us k ++ [((j : Int), us.getD j undef)]) := Lib.hid (by rw [backL, ← hj])
    have HJ := Lib.hid hj
    rw [ej]
    dsimp only at hy
    generalize us[j] = u at *
    have HR2 := Lib.hid hR
    clear hR eu ej hj
    gi_wp2
    refine ⟨rfl, HR2.out.mono ?_⟩
    rintro e W3 (⟨rfl, hJ3, hk3⟩ | ⟨rfl, hJx3⟩)
    · have HN : Hid (J (backL us (k + 1)) (fun _ => False) W3 ∧ W3.cell? ⟨b, 0, none⟩ = some (.slice (some ad) us.length c) ∧ Row W3 (some ad) us) := Lib.hid ⟨HK.out ▸ hJ3, hk3.cell HS.out.2.1 (fun h => h (.inl (.inl rfl))), HS.out.2.2.chg hk3 (fun k hk h => h (.inl (.inr hk)))⟩
      clear hJ3 hk3
      gi_wp2
      go_roundw
      case rel => exact ⟨k + 1, by omega, by have := HJ.out; first | (congr 1; omega) | congr 1, HN⟩
      case measure => (simp [intOf]; try omega)
    · gi_wp2
      refine bodyPost_ret (results_none rfl _ _ _) rfl ?_
      exact ⟨⟨_, rfl⟩, .inr ⟨backL us (k + 1), _, backL_pre us _ _ hlt, HK.out ▸ hJx3⟩⟩
  · obtain rfl : k = us.length := by omega
    have ej : (us.length : Int) - 1 - us.length = -1 := by omega
    rw [ej]
    gi_wp2
    go_end0
    exact ⟨⟨_, rfl⟩, .inl ⟨_, HS.out.1⟩⟩
end Go.Proofs.YtjecjaihficcdaaGreat
namespace Go.Proofs.YtjecjaihficcdaaGreat
open Go.RowKit
def qblk : Value → Option Nat
 | .slice (some a) _ _ => some a.block
 | _ => none
def OwnQ (w : World) (base : Nat) (v : Value) (xs : List Int) : Prop :=
 ∃ g off cap, ∃ cur : List Value, v = .slice (some ⟨g, off, none⟩) xs.length cap ∧ base ≤ g ∧ Blk w g 3 cur ∧ xs.length ≤ cap ∧ cap ≤ 9223372036854775807 ∧ off + cap ≤ cur.length ∧ (cur.drop off).take xs.length = xs.map (Value.int .i64)
theorem OwnQ.keep {S : Nat → Prop} {w w' : World} {base : Nat} {v : Value} {xs : List Int} (h : OwnQ w base v xs) (k : Chg S w w') (hn : ∀ b, qblk v = some b → ¬ S b) : OwnQ w' base v xs := by
 obtain ⟨g, off, cap, cur, rfl, h1, h2, r⟩ := h
 exact ⟨g, off, cap, cur, rfl, h1, k.blk h2 (hn g rfl), r⟩
theorem OwnQ.ext {w w' : World} {base : Nat} {v : Value} {xs : List Int} (h : OwnQ w base v xs) (k : Ext w w') : OwnQ w' base v xs := h.keep (k.chg fun _ => False) fun _ _ => id
theorem OwnQ.blk {w : World} {base : Nat} {v : Value} {xs : List Int} (h : OwnQ w base v xs) : ∃ b, qblk v = some b ∧ base ≤ b ∧ b < w.heap.size ∧ ∃ cur : List Value, Blk w b 3 cur := by
 obtain ⟨g, off, cap, cur, rfl, h1, h2, r⟩ := h
 exact ⟨g, rfl, h1, h2.lt, cur, h2⟩
theorem OwnQ.one (w : World) (base : Nat) (x : Int) (hb : base ≤ w.heap.size) : OwnQ (w.alloc (.cells #[.int .i64 x] 3)) base (.slice (some ⟨w.heap.size, 0, none⟩) 1 1) [x] :=
 ⟨w.heap.size, 0, 1, [.int .i64 x], rfl, hb, Blk.new w _ _, by simp, by simp, by simp, by simp⟩
theorem OwnQ.len {w : World} {base : Nat} {A : Option Addr} {n c : Nat} {xs : List Int} (h : OwnQ w base (.slice A n c) xs) : n = xs.length ∧ xs.length ≤ c ∧ c ≤ 9223372036854775807 := by
 obtain ⟨g, off, cap, cur, e, h1, h2, h3, h4, -⟩ := h
 injection e with e1 e2 e3
 exact ⟨e2, by omega, by omega⟩
theorem OwnQ.shape {w : World} {base : Nat} {v : Value} {xs : List Int} (h : OwnQ w base v xs) : ∃ A c, v = .slice A xs.length c := by
 obtain ⟨g, off, cap, cur, e, -⟩ := h
 exact ⟨_, _, e⟩
theorem OwnQ.head {w : World} {base : Nat} {A : Option Addr} {n c : Nat} {x : Int} {xs : List Int} (h : OwnQ w base (.slice A n c) (x :: xs)) : ∃ ad, A = some ad ∧ w.cell? ad = some (.int .i64 x) := by
 obtain ⟨g, off, cap, cur, e, h1, h2, h3, h4, h5, h6⟩ := h
 injection e with e1 e2 e3
 refine ⟨_, e1, ?_⟩
 rw [h2.cell]
 have := congrArg (fun l => l[0]?) h6
 simp at this
 simpa using this
theorem OwnQ.tail {w : World} {base : Nat} {A : Option Addr} {c : Nat} {x : Int} {xs : List Int} (h : OwnQ w base (.slice A (xs.length + 1) c) (x :: xs)) :
 OwnQ w base (.slice (if c = 1 then A else A.map (·.add 1)) xs.length (c - 1)) xs ∧ qblk (.slice (if c = 1 then A else A.map (·.add 1)) xs.length (c - 1)) = qblk (.slice A (xs.length + 1) c) := by
 obtain ⟨g, off, cap, cur, e, h1, h2, h3, h4, h5, h6⟩ := h
 injection e with e1 e2 e3
 subst e1 e3
 simp only [List.length_cons] at h3 h6
 have h7 : (cur.drop (off + 1)).take xs.length = xs.map (Value.int .i64) := by
  have := congrArg List.tail h6
  rw [List.map_cons, List.tail_cons] at this
  rw [← this, ← List.drop_one, List.drop_take, List.drop_drop]
  rfl
 by_cases hc : c = 1
 · have hx : xs = [] := List.length_eq_zero_iff.1 (by omega)
   subst hx
   subst hc
   rw [if_pos rfl]
   exact ⟨⟨g, off, 0, cur, rfl, h1, h2, by simp, by omega, by omega, by simp⟩, rfl⟩
 · rw [if_neg hc]
   have e : (Option.map (·.add 1) (some (⟨g, off, none⟩ : Addr))) = some ⟨g, off + 1, none⟩ := by simp [Addr.add]
   rw [e]
   exact ⟨⟨g, off + 1, c - 1, cur, rfl, h1, h2, by omega, by omega, by omega, h7⟩, rfl⟩
theorem drop_set_take (cur : List Value) (off n : Nat) (u : Value) (h : off + n < cur.length) : ((cur.set (off + n) u).drop off).take (n + 1) = (cur.drop off).take n ++ [u] := by
 rw [List.drop_set, if_neg (by omega), show off + n - off = n by omega]
 have h1 : n < ((cur.drop off).set n u).length := by simp; omega
 rw [List.take_succ_eq_append_getElem h1, List.take_set_of_le (Nat.le_refl _)]
 simp
theorem OwnQ.app_run {w : World} {base : Nat} {v : Value} {xs : List Int} (h : OwnQ w base v xs) (ty : TypeId) (y : Int) (ad : Addr) (hc : w.cell? ad = some (.int .i64 y)) (hl : xs.length ≤ 10000000) (hb : base ≤ w.heap.size) :
 ∃ v' w', (Builtin.append_ #[24, 24] ty #[v, .slice (some ad) 1 1]).run Tryz.prog w = .ok v' w' ∧ OwnQ w' base v' (xs ++ [y]) ∧ Chg (fun i => qblk v = some i) w w' ∧ (qblk v' = qblk v ∨ ∃ b, qblk v' = some b ∧ w.heap.size ≤ b) := by
 obtain ⟨i0, hi, hz0, hz1, hz2⟩ := info_parts info_int
 obtain ⟨g, off, cap, cur, rfl, h1, h2, h3, h4, h5, h6⟩ := h
 have hnews : ∀ j u, [Value.int .i64 y][j]? = some u → w.cell? (ad.add j) = some u := fun j u hj => by
  match j with
  | 0 => simp at hj; subst hj; rw [show ad.add 0 = ad by simp [Addr.add]]; exact hc
  | j + 1 => simp at hj
 by_cases hr : xs.length + 1 ≤ cap
 · have hrun := run_append_room_cells (P := Tryz.prog) w 24 ty 3 i0 Tryz.underlying24 hi g off xs.length cap ad 1 1 [.int .i64 y] (by rw [hz1]; rfl) hnews (by simp [Value.oneCell']) hr
    (fun j hj => by
     obtain rfl : j = 0 := by simpa using hj
     rw [hz1, Nat.mul_one, Nat.add_zero, h2.cell, List.getElem?_eq_getElem (by omega)]; rfl)
    (fun j hj => h2.free _)
   rw [hz1, Nat.mul_one] at hrun
   refine ⟨_, _, hrun, ⟨g, off, cap, cur.set (off + xs.length) (.int .i64 y), by simp, h1, h2.set _ _, by simp; omega, h4, by rw [List.length_set]; exact h5, ?_⟩, (Chg.set w g _ _).mono fun i hi => by rw [hi]; rfl, .inl rfl⟩
   rw [List.length_append, List.length_singleton, drop_set_take _ _ _ _ (by omega), h6]; simp
 · obtain ⟨v', w', hrun, ho, hg⟩ := run_append_arg_grows (P := Tryz.prog) w 24 ty 3 i0 (.int .i64 0) 1 8 Tryz.underlying24 hi hz0 hz1 hz2 rfl (by decide) ⟨g, off, none⟩ xs.length cap (xs.map (Value.int .i64)) (by simp)
    (fun j u hj => by
     have hjl : j < xs.length := by have := (List.getElem?_eq_some_iff.1 hj).1; simpa using this
     rw [Addr.add_lit, h2.cell]
     have := congrArg (fun l => l[j]?) h6
     simp only [List.getElem?_take, if_pos hjl, List.getElem?_drop] at this
     rw [this, hj])
    ad 1 1 [.int .i64 y] rfl hnews (by omega) (by unfold maxLen; omega) (by omega)
   obtain ⟨-, ⟨rfl, h0⟩ | ⟨g', cap', cur', rfl, hb', hg', hn', hm', hs', ht'⟩⟩ := ho
   · omega
   · refine ⟨_, _, hrun, ⟨g', 0, cap', cur'.toList, by simp, by omega, by unfold Blk; simpa using hg', by simpa using hn', by unfold maxLen at hm'; omega, by simp at hs' ⊢; omega, ?_⟩, (grown_chg hg).mono (fun i hi => (by cases hi)), .inr ⟨g', rfl, hb'⟩⟩
     rw [List.drop_zero, List.length_append, List.length_singleton]
     rw [Nat.mul_one] at ht'
     rw [ht']; simp
theorem appQ {ops : Array Oper} {rest : List Oper} {o : Oper} {a : Act} {Q : Exit → Act → World → Prop} {w : World} (hgd : o.guard = none) (s x : Operand)
 (ho : o.op = .call { callee := .builtin .append, args := #[s, x], argTypes := #[24, 24] })
 {base : Nat} {v : Value} {xs : List Int} {y : Int} (hs : a.eval s = v) (hx : a.eval x = .slice (some ⟨w.heap.size, 0, none⟩) 1 1) (hown : OwnQ w base v xs) (hl : xs.length ≤ 10000000) (hbase : base ≤ w.heap.size)
 (h : ∀ v' w', OwnQ w' base v' (xs ++ [y]) → Chg (fun i => qblk v = some i) w w' → (qblk v' = qblk v ∨ ∃ b, qblk v' = some b ∧ w.heap.size ≤ b) → wpList Tryz.prog ops Q rest (a.put o.dst v') w') : wpList Tryz.prog ops Q (o :: rest) a (w.alloc (.cells #[.int .i64 y] 3)) := by
 refine wpList_plain hgd fun K hK => ?_
 obtain ⟨v', w', hrun, h1, h2, h3⟩ := (hown.ext (Ext.alloc w (.cells #[.int .i64 y] 3))).app_run o.type y ⟨w.heap.size, 0, none⟩ (Var1.new w 3 (.int .i64 y)).cell hl (by simp; omega)
 unfold Oper.wp
 simp [execOp, ho, resolve, invoke, builtin, hs, hx, hrun, Result.andThen]
 exact hK _ _ (h v' w' h1 (((Ext.alloc w _).chg _).trans h2) (h3.imp id fun ⟨b, hb, hl⟩ => ⟨b, hb, by simp at hl; omega⟩))
end Go.Proofs.YtjecjaihficcdaaGreat
namespace Go.Proofs.YtjecjaihficcdaaGreat
open Go.RowKit
attribute [local go_sem] Oper.semAt_some
structure GR (w : World) (g : Nat) (ks : List (Int × Value)) (f : List (List Int)) : Prop where
 map : MapK kvI w g ks
 row : ∀ n, RI w (rowAt ks n) (nbL f n)
 dom : ∀ n, n ∈ ks.map Prod.fst ↔ -n ∈ lits2 f
def GB (g : Nat) (ks : List (Int × Value)) (k : Nat) : Prop := k = g ∨ ∃ n A L c, rowAt ks n = .slice A L c ∧ RowB A L k
theorem GR.ext {w w' : World} {g : Nat} {ks : List (Int × Value)} {f : List (List Int)} (h : GR w g ks f) (e : Ext w w') : GR w' g ks f := ⟨h.map.ext e, fun n => (h.row n).ext e, h.dom⟩
theorem GR.chg {S : Nat → Prop} {w w' : World} {g : Nat} {ks : List (Int × Value)} {f : List (List Int)} (h : GR w g ks f) (e : Chg S w w') (hn : ∀ k, GB g ks k → ¬ S k) : GR w' g ks f := by
 refine ⟨h.map.keep e (hn g (.inl rfl)), fun n => ?_, h.dom⟩
 obtain ⟨A, c, h1, h2, h3, h4⟩ := h.row n
 exact ⟨A, c, h1, h2, h3, h4.chg e fun k hk => hn k (.inr ⟨n, A, _, c, h1, by rw [List.length_map] at hk; exact hk⟩)⟩
theorem GR.lt {w : World} {g : Nat} {ks : List (Int × Value)} {f : List (List Int)} (h : GR w g ks f) {k : Nat} (hk : GB g ks k) : k < w.heap.size := by
 rcases hk with rfl | ⟨n, A, L, c, e, hr⟩
 · exact h.map.lt
 · obtain ⟨A', c', h1, h2, h3, h4⟩ := h.row n
   rw [e] at h1
   injection h1 with e1 e2 e3
   subst e1 e2
   exact RowB.lt h4 (by rw [List.length_map]; exact hr)
theorem lits2_nb (f : List (List Int)) (n : Int) : -n ∈ lits2 f ↔ nbL f n ≠ [] := by
 constructor
 · intro h
   unfold lits2 at h
   obtain ⟨c, hc, hm⟩ := List.mem_flatMap.1 h
   by_cases h2 : c.length = 2
   · rw [if_pos h2] at hm
     obtain ⟨a, b, rfl⟩ := two_of h2
     have : nbC n [a, b] ≠ [] := by
      have e : nbC n [a, b] = (if -a = n then [b] else []) ++ (if -b = n then [a] else []) := rfl
      rw [e]
      simp only [List.mem_cons, List.not_mem_nil, or_false] at hm
      rcases hm with h3 | h3
      · rw [if_pos (show -a = n by omega)]; simp
      · rw [if_pos (show -b = n by omega)]; simp
     intro e
     unfold nbL at e
     rw [List.flatMap_eq_nil_iff] at e
     exact this (e _ hc)
   · rw [if_neg h2] at hm; cases hm
 · intro h
   obtain ⟨z, hz⟩ := List.exists_mem_of_ne_nil _ h
   exact (nbL_mem hz).2
theorem GM.reads {w : World} {base g : Nat} {ks : List (Int × Value)} {f : List (List Int)} (h : GM 3 w base g ks (impR f f.length)) : GR w g ks f := by
 refine ⟨h.map, fun n => ?_, fun n => ?_⟩
 · have h1 := h.own n
   unfold impR at h1
   rw [List.take_length, List.length_map] at h1
   exact OwnI.reads h1
 · have h1 := h.dom n
   rw [lits2_nb, ← show impR f f.length n ≠ [] ↔ nbL f n ≠ [] by unfold impR; rw [List.take_length]; simp, ← h1]
   cases hq : lkp ks n with
   | none => simp only [lkp_none.1 hq]; simp
   | some v => simp only [Option.isSome_some, iff_true]; exact List.mem_map.2 ⟨_, lkp_mem hq, rfl⟩
theorem GR.lookup {w : World} {g : Nat} {ks : List (Int × Value)} {f : List (List Int)} (h : GR w g ks f) (n : Int) :
 (Instr.lookup 67 (.map (some g)) (.int .i64 n) false).run Tryz.prog w = .ok (rowAt ks n) w := h.map.lookup fam_kvI Tryz.underlying67 (zeroValue_sl w) n
theorem bfs_pre (nb : Int → List Int) : ∀ n i l, l <+: bfs nb n i l
 | 0, _, l => List.prefix_refl l
 | n + 1, i, l => by
   unfold bfs
   split
   · obtain ⟨r, hr⟩ := addAll_pre (nb l[i]) l
     exact (hr ▸ List.prefix_append l r).trans (bfs_pre nb n (i + 1) _)
   · exact List.prefix_refl l
theorem slice_1q (A : Option Addr) (l c : Nat) : ∀ W : World, (Instr.slice 24 (.slice A (l + 1) c) (some (.int .i64 1)) none none).run Tryz.prog W = .ok (.slice (if c = 1 then A else A.map (·.add 1)) l (c - 1)) W := by
 intro W
 have h := slice_from (P := Tryz.prog) Tryz.underlying24 info_int A (l + 1) c 1 (by omega) W
 simpa using h
theorem zeroValue_b (w : World) : (zeroValue 4).run Tryz.prog w = .ok (.bool false) w := by kernel_rfl
theorem q_ne_map {w : World} {base g : Nat} {v : Value} {xs : List Int} {ks : List (Int × Value)} (h : OwnQ w base v xs) (hm : MapK kvI w g ks) : ¬ qblk v = some g := fun hb => by
 obtain ⟨b, h1, -, -, cur, h4⟩ := h.blk
 rw [h1] at hb; injection hb with hb; subst hb
 obtain ⟨es, clock, h5, -⟩ := hm
 unfold Blk at h4
 rw [h4] at h5; cases h5
def metK (l : List Int) : List (Int × Value) := l.map fun x => (x, .bool true)
theorem lkp_metK (l : List Int) (y : Int) : lkp (metK l) y = if y ∈ l then some (.bool true) else none := by
 induction l with
 | nil => rfl
 | cons x l ih =>
   unfold metK lkp at *
   rw [List.map_cons, List.find?_cons]
   by_cases h : y = x
   · simp [h]
   · simp only [h, decide_false, List.mem_cons, false_or]
     exact ih
theorem kput_metK {l : List Int} {y : Int} (h : y ∉ l) : kput (metK l) y (.bool true) = metK (l ++ [y]) := by
 rw [kput_new]
 · simp [metK]
 · simpa [metK] using h
def msz (w : World) (g : Nat) : Nat := match w.heap[g]? with | some (.map es _) => es.size | _ => 0
theorem MapK.msz {w : World} {g : Nat} {ks : List (Int × Value)} (h : MapK kvI w g ks) : msz w g = ks.length := by
 obtain ⟨es, clock, hg, hl⟩ := h.size
 unfold Go.Proofs.YtjecjaihficcdaaGreat.msz
 rw [hg]; exact hl
def qlen : Value → Nat
 | .slice _ n _ => n
 | _ => 0
theorem addAll_app (l a b : List Int) : addAll l (a ++ b) = addAll (addAll l a) b := by unfold addAll; rw [List.foldl_append]
theorem addAll_take_len (l ys : List Int) (m : Nat) : (addAll l (ys.take m)).length ≤ (addAll l ys).length := by
 conv => rhs; rw [← List.take_append_drop m ys, addAll_app]
 exact addAll_len _ _
structure RS (J : List Int → (Nat → Prop) → World → Prop) (B b3 b2 g : Nat) (ks : List (Int × Value)) (f : List (List Int)) (x : Int) (told l q : List Int) (T : Nat → Prop) (v : Value) (w : World) : Prop where
 j : J told T w
 tb : ∀ k, T k → B ≤ k
 tm : T B
 tq : ∀ b, qblk v = some b → T b
 q : OwnQ w B v q
 met : MapK kvI w B (metK l)
 cx : w.cell? ⟨b3, 0, none⟩ = some (.int .i64 x)
 cg : w.cell? ⟨b2, 0, none⟩ = some (.map (some g))
 gr : GR w g ks f
 lt : B ≤ w.heap.size
 tl : ∀ k, T k → k < w.heap.size
section
variable {J : List Int → (Nat → Prop) → World → Prop} {B b3 b2 g : Nat} {ks : List (Int × Value)} {f : List (List Int)} {x : Int} {told l q : List Int} {T : Nat → Prop} {v : Value} {w w' : World}
theorem RS.round (h : RS J B b3 b2 g ks f x told l q T v w) {told' : List Int} (hj : J told' T w') (hc : Chg (fun k => ¬ ((k = b3 ∨ k = b2 ∨ GB g ks k) ∨ T k)) w w') : RS J B b3 b2 g ks f x told' l q T v w' :=
 ⟨hj, h.tb, h.tm, h.tq, h.q.keep hc (fun b hb hn => hn (.inr (h.tq b hb))), h.met.keep hc (fun hn => hn (.inr h.tm)), hc.cell h.cx (fun hn => hn (.inl (.inl rfl))), hc.cell h.cg (fun hn => hn (.inl (.inr (.inl rfl)))),
  h.gr.chg hc (fun _ hk hn => hn (.inl (.inr (.inr hk)))), Nat.le_trans h.lt hc.size, fun k hk => Nat.lt_of_lt_of_le (h.tl k hk) hc.size⟩
theorem RS.pop {A : Option Addr} {c : Nat} {y : Int} {r : List Int} (h : RS J B b3 b2 g ks f x told l (y :: r) T (.slice A (r.length + 1) c) w) : RS J B b3 b2 g ks f x told l r T (.slice (if c = 1 then A else A.map (·.add 1)) r.length (c - 1)) w :=
 ⟨h.j, h.tb, h.tm, fun b hb => h.tq b (by rw [h.q.tail.2] at hb; exact hb), h.q.tail.1, h.met, h.cx, h.cg, h.gr, h.lt, h.tl⟩
theorem RS.push (h : RS J B b3 b2 g ks f x told l q T v w) (hJ : Abide J) (hB : ∀ k, (k = b3 ∨ k = b2 ∨ GB g ks k) → k < B) {y : Int} {v' : Value} {w1 : World} (hq : OwnQ w1 B v' (q ++ [y])) (hc : Chg (fun i => qblk v = some i) w w1) (hv : qblk v' = qblk v ∨ ∃ b, qblk v' = some b ∧ w.heap.size ≤ b)
 (hm : MapK kvI w' B (metK (l ++ [y]))) (hu : Chg (fun k => k = B) w1 w') : ∃ T', RS J B b3 b2 g ks f x told (l ++ [y]) (q ++ [y]) T' v' w' := by
 have hcT : Chg T w w' := (hc.mono fun i hi => h.tq i hi).trans (hu.mono fun i hi => by rw [hi]; exact h.tm)
 have hBw := h.lt
 have hRT : ∀ k, (k = b3 ∨ k = b2 ∨ GB g ks k) → ¬ T k := fun k hk ht => by have := hB k hk; have := h.tb k ht; omega
 have hTl : ∀ k, (T k ∨ qblk v' = some k) → k < w'.heap.size := fun k hk => by
  rcases hk with hk | hk
  · exact Nat.lt_of_lt_of_le (h.tl k hk) hcT.size
  · obtain ⟨b, hb, -, hl, -⟩ := hq.blk
    rw [hb] at hk; injection hk with hk; subst hk
    exact Nat.lt_of_lt_of_le hl hu.size
 refine ⟨fun k => T k ∨ qblk v' = some k, hJ told T _ w w' h.j hcT (fun i hi => .inl hi) (fun i hi => ?_) hTl, fun k hk => ?_, .inl h.tm, fun b hb => .inr hb, ?_, hm, hcT.cell h.cx (hRT _ (.inl rfl)), hcT.cell h.cg (hRT _ (.inr (.inl rfl))), h.gr.chg hcT (fun k hk => hRT k (.inr (.inr hk))), Nat.le_trans h.lt hcT.size, hTl⟩
 · rcases hi with hi | hi
   · exact .inl hi
   · rcases hv with hv | ⟨b, hb, hl⟩
     · exact .inl (h.tq i (by rw [← hv]; exact hi))
     · rw [hb] at hi; injection hi with hi; subst hi; exact .inr hl
 · rcases hk with hk | hk
   · exact h.tb k hk
   · obtain ⟨b, hb, hl, -⟩ := hq.blk
     rw [hb] at hk; injection hk with hk; subst hk; exact hl
 · refine hq.keep hu (fun b hb e => ?_)
   exact q_ne_map hq (h.met.keep hc (q_ne_map h.q h.met)) (by rw [hb, e])
end
set_option maxRecDepth 100000 in
set_option maxHeartbeats 4000000 in
theorem reached_iter (f : List (List Int)) (g b3 b2 : Nat) (ks : List (Int × Value)) (x : Int) (w : World) (hf : f.length ≤ 20000) (hx : w.cell? ⟨b3, 0, none⟩ = some (.int .i64 x)) (hgb : w.cell? ⟨b2, 0, none⟩ = some (.map (some g))) (hg : GR w g ks f) :
 Iter Tryz.prog 92 #[.pointer (some ⟨b3, 0, none⟩), .pointer (some ⟨b2, 0, none⟩)] (fun y : Int => #[.int .i64 y]) (reachL f x) (fun k => k = b3 ∨ k = b2 ∨ GB g ks k) w := by
 intro l J Jx W hW hJa _ hY h0
 have hB0 : ∀ k, (k = b3 ∨ k = b2 ∨ GB g ks k) → k < w.heap.size := fun k hk => by
  rcases hk with rfl | rfl | hk
  · exact World.block_lt_of_cell? w _ hx
  · exact World.block_lt_of_cell? w _ hgb
  · exact hg.lt hk
 have hx1 := hW.cell hx (fun h => h (.inl rfl))
 have hg1 := hW.cell hgb (fun h => h (.inr (.inl rfl)))
 have hgr1 := hg.chg hW (fun k hk h => h (.inr (.inr hk)))
 have HB := Lib.hid (fun k hk => Nat.lt_of_lt_of_le (hB0 k hk) hW.size)
 have hb3 : b3 < W.heap.size := World.block_lt_of_cell? W _ hx1
 have hb2 : b2 < W.heap.size := World.block_lt_of_cell? W _ hg1
 obtain ⟨w1, hup, hm1, hc1, hs1⟩ := (MapK.new W).update (P := Tryz.prog) fam_kvI Tryz.underlying78 x (.bool true)
 have hE1 : Ext W w1 := hc1.toExt (Ext.alloc W _) (fun i hi => by omega)
 unfold kvI at hup
 have hx2 := hE1.cell hx1
 have hsw : w1.heap.size = W.heap.size + 1 := by rw [hs1]; simp
 have hE2 : Ext W (w1.alloc (.cells #[.int .i64 x] 3)) := hE1.trans (Ext.alloc _ _)
 have HS0 : Hid (RS J W.heap.size b3 b2 g ks f x [] [x] [x] (fun k => k = W.heap.size ∨ k = w1.heap.size) (.slice (some ⟨w1.heap.size, 0, none⟩) 1 1) (w1.alloc (.cells #[.int .i64 x] 3))) := Lib.hid
  ⟨hJa [] (fun _ => False) _ W _ h0 (hE2.chg _) (fun _ h => h.elim) (fun i hi => .inr (by omega)) (fun i hi => by simp only [World.size_alloc]; omega), fun k hk => by omega, .inl rfl, fun b hb => .inr (by injection hb with hb; exact hb.symm), OwnQ.one w1 _ x (by omega), hm1.ext (Ext.alloc _ _), hE2.cell hx1, hE2.cell hg1, hgr1.ext hE2, hE2.size, fun k hk => by simp only [World.size_alloc]; omega⟩
 have HY := Lib.hid hY
 have HJ := Lib.hid hJa
 have HGR1 := Lib.hid hgr1
 have HSW := Lib.hid hsw
 have hmm := @run_makeMap Tryz.prog
 clear hY hx hgb hg hW hJa h0 hB0 hgr1 hm1 hc1 hs1 hE1 hE2 hsw hg1
 refine callsIn_of_wp Tryz.func92 rfl trivial ?_ rfl
 simp only [Tryz.ntmps92, List.size_toArray, List.length_cons, List.length_nil, Nat.reduceAdd, Nat.reduceSub, Array.replicate_succ, Array.replicate_zero, List.push_toArray, List.append_toArray, List.nil_append, List.cons_append]
 gi_wp2
 gi_loopw [5] (fun v wr => ∃ (i n : Nat) (l' : List Int) (T : Nat → Prop) (A : Option Addr) (L c : Nat), v = .slice A L c ∧ n + i = 2 * f.length + 2 ∧ Hid (i ≤ l'.length ∧ bfs (nbL f) n i l' = reachL f x ∧ L = (l'.drop i).length ∧ RS J W.heap.size b3 b2 g ks f x (l'.take i) l' (l'.drop i) T v wr))
  (fun v wr => 2 * f.length + 2 - (msz wr W.heap.size - qlen v))
 case atStart => exact ⟨0, 2 * f.length + 2, [x], _, _, 1, 1, rfl, rfl, Lib.hid ⟨by simp, rfl, rfl, HS0.out⟩⟩
 case round =>
  obtain ⟨i, n, l', T, A, L, c, rfl, hni, HS⟩ := hrel
  obtain ⟨w2, rfl⟩ : ∃ w2 : World, w2 = wr := ⟨_, rfl⟩
  by_cases hlt : i < l'.length
  · obtain ⟨y, hy⟩ : ∃ y, y = l'[i] := ⟨_, rfl⟩
    obtain ⟨r, hr⟩ : ∃ r, r = l'.drop (i + 1) := ⟨_, rfl⟩
    have hdr : l'.drop i = y :: r := by rw [List.drop_eq_getElem_cons hlt, hy, hr]
    obtain ⟨n', hn'⟩ : ∃ n', n = n' + 1 := by
     cases n with
     | zero =>
       exfalso
       have h1 := HS.out.2.1
       have h2 := reachL_len f x
       rw [← h1] at h2
       have h3 : l'.length ≤ 2 * f.length + 1 := h2
       omega
     | succ n => exact ⟨n, rfl⟩
    subst hn'
    have hbf := HS.out.2.1
    unfold bfs at hbf
    rw [dif_pos hlt, ← hy] at hbf
    have hL : L = r.length + 1 := by rw [HS.out.2.2.1, hdr]; rfl
    have hrs := HS.out.2.2.2
    rw [hdr, hL] at hrs
    have hpop := hrs.pop
    have hpre : l'.take i ++ [y] = l'.take (i + 1) := by rw [List.take_succ_eq_append_getElem hlt, hy]
    obtain ⟨fn, tmps, assign, body, hyy, hR⟩ := HY.out (l'.take i) y T w2 hrs.j (by
     rw [hpre]
     refine (List.take_prefix _ _).trans ?_
     have := bfs_pre (nbL f) (n' + 1) i l'
     rwa [HS.out.2.1] at this)
    obtain ⟨ad, rfl, hcell⟩ := hrs.q.head
    have hlen := hrs.q.len
    obtain ⟨TA, hTA⟩ : ∃ TA, (if c = 1 then some ad else Option.map (fun x => x.add 1) (some ad)) = TA := ⟨_, rfl⟩
    have hsl : ∀ W : World, (Instr.slice 24 (.slice (some ad) (r.length + 1) c) (some (.int .i64 1)) none none).run Tryz.prog W = .ok (.slice TA r.length (c - 1)) W := fun W => by rw [← hTA]; exact slice_1q (some ad) r.length c W
    rw [hTA] at hpop
    have HMS2 := Lib.hid HS.out.2.2.2.met.msz
    have HR2 := Lib.hid hR
    have HPOP := Lib.hid hpop
    have HBF := Lib.hid hbf
    have HPRE := Lib.hid hpre
    have HYE := Lib.hid hy
    have HRE := Lib.hid hr
    have hLL := Lib.hid hL
    have hc1 : r.length + 1 ≤ c := by have := hlen.2.1; simpa using this
    have hc2 : c ≤ 9223372036854775807 := hlen.2.2
    subst hL
    clear hR hpop hbf hpre hy hr hrs hdr HS hlen hTA
    gi_wp2
    refine ⟨rfl, HR2.out.mono ?_⟩
    rintro e W3 (⟨rfl, hJ3, hk3⟩ | ⟨rfl, hJx3⟩)
    · have HRS := Lib.hid (HPOP.out.round hJ3 hk3)
      clear hJ3 hk3 hcell hyy hsl
      obtain ⟨RA, rc, hre, hr1, hr2, hr3⟩ := HRS.out.gr.row y
      have hlk := HRS.out.gr.lookup y
      rw [hre] at hlk
      have cg3 := HRS.out.cg
      obtain ⟨M, hM⟩ : ∃ M, M = (nbL f y).length := ⟨_, rfl⟩
      rw [← hM] at hlk hr1 hr2
      have HMM := Lib.hid hM
      have HROW := Lib.hid hr3
      have HRW0 : Hid (Row W RA ((nbL f y).map (Value.int .i64))) := Lib.hid (by
       obtain ⟨A', c', e1, -, -, e4⟩ := HGR1.out.row y
       rw [hre] at e1
       injection e1 with e1 e2 e3
       subst e1
       exact e4)
      clear hre hr3 hM
      gi_wp2
      refine wpIn_wide.2 ?_
      go_loopg [5, 30] M (fun gn v j wr => ∃ (m : Nat) (T2 : Nat → Prop) (A2 : Option Addr) (L2 c2 : Nat), m ≤ M ∧ gn + m = M ∧ j = .int .i64 m ∧ v = .slice A2 L2 c2 ∧
       Hid (RS J W.heap.size b3 b2 g ks f x (l'.take i ++ [y]) (addAll l' ((nbL f y).take m)) ((addAll l' ((nbL f y).take m)).drop (i + 1)) T2 v wr) ∧ Hid (Row wr RA ((nbL f y).map (Value.int .i64))))
      case atStart => exact ⟨0, T, _, _, _, Nat.zero_le _, by omega, rfl, rfl, Lib.hid (by rw [List.take_zero, show addAll l' [] = l' from rfl, ← HRE.out]; exact HRS.out), HROW⟩
      case round =>
       obtain ⟨m, T2, A2, L2, c2, hm, hgm, rfl, rfl, HR4, HRW⟩ := hrel
       obtain ⟨w4, rfl⟩ : ∃ w4 : World, w4 = wr := ⟨_, rfl⟩
       by_cases hml : m < M
       · have hmf : m < (nbL f y).length := by rw [← HMM.out]; exact hml
         obtain ⟨bd, rfl, hz⟩ := HRW.out.int m hmf
         obtain ⟨l4, hl4⟩ : ∃ l4, l4 = addAll l' ((nbL f y).take m) := ⟨_, rfl⟩
         have hnext : addAll l' ((nbL f y).take (m + 1)) = addN l4 (nbL f y)[m] := by rw [List.take_succ_eq_append_getElem hmf, addAll_snoc, ← hl4]
         have hi4 : i + 1 ≤ l4.length := by rw [hl4]; have := addAll_len l' ((nbL f y).take m); omega
         have hl4b : l4.length ≤ 2 * f.length + 1 := by
          have h1 := addAll_take_len l' (nbL f y) m
          have h2 := (bfs_pre (nbL f) n' (i + 1) (addAll l' (nbL f y))).length_le
          rw [HBF.out] at h2
          have := reachL_len f x
          rw [hl4]; omega
         rw [← hl4] at HR4
         generalize (nbL f y)[m] = z at hz hnext
         have hlk2 := HR4.out.met.lookup (P := Tryz.prog) fam_kvI Tryz.underlying78 (zeroValue_b w4) z
         rw [lkp_metK] at hlk2
         unfold kvI at hlk2
         have HNX := Lib.hid hnext
         have HI4 := Lib.hid hi4
         clear hnext hl4 hi4
         by_cases hzl : z ∈ l4
         · rw [if_pos hzl] at hlk2
           have hlk3 : (Instr.lookup 78 (.map (some W.heap.size)) (.int .i64 z) false).run Tryz.prog w4 = .ok (.bool true) w4 := hlk2
           have HN4 : Hid (addAll l' ((nbL f y).take (m + 1)) = l4) := Lib.hid (by rw [HNX.out]; unfold addN; rw [if_pos hzl])
           clear hlk2 hzl
           go_wp2
           go_roundg (M - (m + 1))
           case measure => omega
           case rel => exact ⟨m + 1, T2, A2, L2, c2, by omega, by omega, by go_num, rfl, by rw [HN4.out]; exact HR4, HRW⟩
         · rw [if_neg hzl] at hlk2
           have hlk3 : (Instr.lookup 78 (.map (some W.heap.size)) (.int .i64 z) false).run Tryz.prog w4 = .ok (.bool false) w4 := hlk2
           have HN4 : Hid (addAll l' ((nbL f y).take (m + 1)) = l4 ++ [z]) := Lib.hid (by rw [HNX.out]; unfold addN; rw [if_neg hzl])
           have HZL := Lib.hid hzl
           have hql : (l4.drop (i + 1)).length ≤ 10000000 := by rw [List.length_drop]; omega
           have HQL := Lib.hid hql
           clear hlk2 hzl hql
           go_wp2_with (at_builtin
                        refine appQ rfl (.tmp 40) (.tmp 42) rfl (base := W.heap.size) (v := .slice A2 L2 c2) (xs := l4.drop (i + 1)) (y := z) rfl rfl HR4.out.q HQL.out HR4.out.lt ?_
                        intro v' w5 hq hc hv
                        obtain ⟨A5, c5, rfl⟩ := hq.shape
                        obtain ⟨w6, hup6, hm6, hu6, -⟩ := (HR4.out.met.keep hc (q_ne_map HR4.out.q HR4.out.met)).update (P := Tryz.prog) fam_kvI Tryz.underlying78 z (.bool true)
                        unfold kvI at hup6
                        rw [kput_metK HZL.out] at hm6
                        have HP := Lib.hid (HR4.out.push HJ.out HB.out hq hc hv hm6 hu6)
                        have HC46 := Lib.hid ((hc.mono fun i hi => HR4.out.tb i (HR4.out.tq i hi)).trans (hu6.mono fun i hi => (by rw [hi]; exact Nat.le_refl _ : W.heap.size ≤ i)))
                        clear hq hc hv hm6 hu6)
           obtain ⟨T6, hp6⟩ := HP.out
           rw [show (l4.drop (i + 1) ++ [z]).length = l4.length - (i + 1) + 1 by simp] at hp6
           go_roundg (M - (m + 1))
           case measure => omega
           case rel => exact ⟨m + 1, T6, A5, _, c5, by omega, by omega, by go_num, rfl, by rw [HN4.out, List.drop_append_of_le_length HI4.out]; exact Lib.hid hp6, Lib.hid (HRW.out.chg HC46.out (fun k hk h => by have := RowB.lt HRW0.out hk; omega))⟩
       · obtain rfl : m = M := by omega
         have hfull : addAll l' ((nbL f y).take m) = addAll l' (nbL f y) := by rw [HMM.out, List.take_length]
         rw [hfull] at HR4
         obtain ⟨l4, hl4⟩ : ∃ l4, l4 = addAll l' (nbL f y) := ⟨_, rfl⟩
         rw [← hl4] at HR4
         have hl1 : i + 1 ≤ l4.length := by rw [hl4]; have := addAll_len l' (nbL f y); omega
         have htk : l4.take (i + 1) = l'.take i ++ [y] := by
          rw [HPRE.out, hl4]
          obtain ⟨s, hs⟩ := addAll_pre (nbL f y) l'
          rw [hs, List.take_append_of_le_length (by omega)]
         have HNEW : Hid (i + 1 ≤ l4.length ∧ bfs (nbL f) n' (i + 1) l4 = reachL f x ∧ L2 = (l4.drop (i + 1)).length ∧ RS J W.heap.size b3 b2 g ks f x (l4.take (i + 1)) l4 (l4.drop (i + 1)) T2 (.slice A2 L2 c2) w4) := Lib.hid
          ⟨hl1, by rw [hl4]; exact HBF.out, HR4.out.q.len.1, by rw [htk]; exact HR4.out⟩
         have hms := HR4.out.met.msz
         have hL2 := HR4.out.q.len.1
         have HMS := Lib.hid hms
         have HL2 := Lib.hid hL2
         clear hfull hl4 htk hms hL2 hl1
         go_wp2
         go_roundw
         case rel => exact ⟨i + 1, n', l4, T2, A2, L2, c2, rfl, by omega, HNEW⟩
         case measure =>
          have e1 := HMS.out
          have e2 := HMS2.out
          have e3 := HL2.out
          have e4 := congrArg List.length HRE.out
          have e5 : l'.length ≤ 2 * f.length + 1 := by
           have h1 := addAll_len l' (nbL f y)
           have h2 := (bfs_pre (nbL f) n' (i + 1) (addAll l' (nbL f y))).length_le
           rw [HBF.out] at h2
           have := reachL_len f x
           omega
          have e6 := HNEW.out.1
          simp only [metK, List.length_map, List.length_drop] at e1 e2 e3 e4
          rw [e1, e2]
          simp only [qlen]
          omega
    · gi_wp2
      refine bodyPost_ret (results_none rfl _ _ _) rfl ?_
      exact ⟨⟨_, rfl⟩, .inr ⟨l'.take i ++ [y], _, by rw [HPRE.out]; exact (List.take_prefix _ _).trans (by have := bfs_pre (nbL f) n' (i + 1) (addAll l' (nbL f y)); rw [HBF.out] at this; obtain ⟨s, hs⟩ := addAll_pre (nbL f y) l'; exact (hs ▸ List.prefix_append l' s).trans this), hJx3⟩⟩
  · have hi : i = l'.length := by have := HS.out.1; omega
    subst hi
    have hbf : l' = reachL f x := by
     rw [← HS.out.2.1]
     cases n with
     | zero => rfl
     | succ n => unfold bfs; rw [dif_neg (by omega)]
    have hL : L = 0 := by rw [HS.out.2.2.1]; simp
    subst hL
    have HJF : Hid (J (reachL f x) T w2) := Lib.hid (by have := HS.out.2.2.2.j; rw [List.take_length] at this; rw [← hbf]; exact this)
    clear hbf
    gi_wp2
    go_end0
    exact ⟨⟨_, rfl⟩, .inl ⟨_, HJF.out⟩⟩
end Go.Proofs.YtjecjaihficcdaaGreat
