import Derived.Test.YtfcbjcohepkkfaaGreatSepM
import Derived.Test.YtfcbjcohepkkfaaGreatSepE
import Derived.Lib.SlKeysI
import Derived.Sort.KeysCollected
/-
  What a contract of the shelf leaves that says 'Below': rows that are new; a map's keys, as the shelf speaks of them.
-/
namespace Go.Proofs.YtfcbjcohepkkfaaGreat.Sep
open Go.RowKit Go.Maps Go.MapKept Go.WideShapes Go.Sort
open Go.WideElems (Fit rd rg)
set_option linter.unusedVariables false

/-- A world of which nobody counts what was drawn. -/
def zeroed (W : World) : World := { W with drawn := 0 }
theorem Old.start0 (W : World) : St (zeroed W) [Old (zeroed W)] W :=
  ⟨⟨hp W, fun _ => none, fun _ => .inr rfl, Hp.sub.refl _, fun _ _ e => (by cases e), fun g _ => rfl, trivial⟩, rfl, rfl, rfl, Nat.le_refl _, Nat.zero_le _⟩
theorem Old.below0 {W w : World} {L : List Chunk} (s : St (zeroed W) (Old (zeroed W) :: L) w) : Below W.heap.size W w :=
  ⟨s.2.os, s.2.tape, s.2.output, s.2.size, fun g hg => Old.block s.1 g hg⟩
theorem Ext.of_below {W w w' : World} {B : Nat} (hW : W.drawn = 0) (e : Ext W w) (b : Below B w w') : Ext W w' :=
  ⟨b.os.trans e.os, b.tape.trans e.tape, b.output.trans e.output, Nat.le_trans e.size b.size, by rw [hW]; exact Nat.zero_le _⟩
theorem St.of_below {W w w' : World} {L : List Chunk} (hW : W.drawn = 0) (s : St W L w) (b : Below w.heap.size w w') : St W L w' := ⟨s.1.below b, Ext.of_below hW s.2 b⟩
theorem Hp.sub_below {w w' : World} (b : Below w.heap.size w w') : (hp w).sub (hp w') := fun g o e => by
  have hlt : g < w.heap.size := lt_of_blk e
  exact (b.block g hlt).trans e
/-- A new row. -/
theorem St.of_row {W w w' : World} {L : List Chunk} (hW : W.drawn = 0) (s : St W L w) (b : Below w.heap.size w w') {e k n : Nat} {v : Value} {xs : List Value} (r : w'.ownsRow w.heap.size e k v n xs) :
    ∃ A c, v = .slice A n c ∧ St W (Own e k A n c xs :: L) w' := by
  obtain ⟨hl, ⟨rfl, rfl⟩ | ⟨g, cap, cur, rfl, hg, hb, h1, h2, h3, h4⟩⟩ := r
  · have : xs = [] := by simpa using hl
    subst this
    exact ⟨none, 0, rfl, Own.none_ none (s.of_below hW b)⟩
  · refine ⟨some ⟨g, 0, none⟩, cap, rfl, ?_, Ext.of_below hW s.2 b⟩
    refine SatH.new s.1 (Hp.sub_below b) (k1 := fun i => if i = g then some (.cells cur e (0, 0)) else none) ⟨hl, h1, h2, .inr ⟨g, 0, cur.toList, rfl, by simp, ?_, ?_⟩⟩ ?_ ?_
    · rw [Array.length_toList, h3]; omega
    · intro j u hu
      rw [← h4, List.getElem?_take] at hu
      split at hu
      · rw [Nat.zero_add]; exact hu
      · cases hu
    · intro i o ho
      by_cases hi : i = g
      · subst hi; simp at ho; subst ho; exact hb
      · simp [hi] at ho
    · intro i
      by_cases hi : i = g
      · right; subst hi; exact Array.getElem?_eq_none (by omega)
      · left; simp [hi]

section
variable {α : Type} {P : Program} {k : TypeId} {enc : α → Value} {D : List (α × Value)} {g : Nat} {w : World}
/-- A reading that looks at nothing. -/
def blind (_ : Value) : Option (DataW Unit × List MemPlace) := some (.nil, [])
theorem MapIn.fit {es : Array MapEntry} {c : Nat} (h : MapIn P k enc es c D) : Fit P k blind es c :=
  ⟨h.size, h.stamped, fun x hx => by obtain ⟨l, hl⟩ := h.keys x hx; exact ⟨(l, .nil), by simp [rd, hl, blind]⟩⟩
def kl (P : Program) (k : TypeId) (v : Value) : Lit := (keyOf P k v).getD (.bool false)
theorem rg_blind {x : MapEntry} (h : ∃ l, keyOf P k x.key = some l) : rg P k blind x = (kl P k x.key, .nil) := by
  obtain ⟨l, hl⟩ := h
  simp [rg, rd, hl, blind, kl]
theorem MapIs.owns (h : MapIs P k enc g D w) : ∃ D0, w.ownsMap P k blind g D.length D0 ∧ Maps.size D0 = D.length ∧ ∃ es, D0 = .map es ∧ (es.map (·.1)).Perm (D.map fun p => kl P k (enc p.1)) := by
  obtain ⟨es, c, hb, hm⟩ := h
  have hp := sorted_perm (es.toList.map (rg P k blind))
  have hl : D.length = es.size := hm.length
  refine ⟨_, ⟨es, c, hb, hm.fit, by omega, rfl⟩, ?_, _, rfl, ?_⟩
  · simp only [Maps.size]
    rw [hp.length_eq, List.length_map, Array.length_toList, hl]
  · refine (hp.map _).trans (List.Perm.of_eq ?_)
    have e1 : (es.toList.map (rg P k blind)).map (·.1) = (es.toList.map (·.key)).map (kl P k) := by
      rw [List.map_map, List.map_map]
      exact List.map_congr_left fun x hx => by simp only [Function.comp]; rw [rg_blind (hm.keys x hx)]
    rw [e1]
    have e2 : es.toList.map (·.key) = D.map fun p => enc p.1 := by
      have := congrArg (List.map Prod.fst) hm.list
      rw [List.map_map, List.map_map] at this
      exact this
    rw [e2, List.map_map]
    rfl
end
/-- Keys that are whole numbers. -/
def encI (n : Int) : Value := .int .i64 n
theorem encI_inj (a b : Int) (h : encI a = encI b) : a = b := by cases h; rfl
end Go.Proofs.YtfcbjcohepkkfaaGreat.Sep
