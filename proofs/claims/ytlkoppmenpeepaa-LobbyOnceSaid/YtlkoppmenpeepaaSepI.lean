import Derived.Test.YtlkoppmenpeepaaSepG
/-
  What has come of a map's keys, whatever they are: each once; in the end all.
-/
namespace Go.Proofs.Ytlkoppmenpeepaa.Sep
open Go.RowKit Go.Maps Go.WideAt
set_option linter.unusedVariables false
theorem same_iff {a b : Lit} (hb : WideAt.IsKeyLit b) : a.sameKey b = true ↔ a = b := by
  cases a <;> cases b <;> simp_all [Lit.sameKey, WideAt.IsKeyLit]
/-- The keys that have come: none twice; one is among them just where the map has it and it's no longer to come. -/
def Coll {α : Type} (P : Program) (k : TypeId) (enc : α → Value) (D0 : DataW Unit) (left : Lit → Bool) (ss : List α) : Prop :=
  ss.Nodup ∧ ∀ x, x ∈ ss ↔ ∃ l, keyOf P k (enc x) = some l ∧ has D0 l = true ∧ left l = false
section
variable {α : Type} {P : Program} {k : TypeId} {enc : α → Value} {D0 : DataW Unit} {left : Lit → Bool} {ss : List α}
theorem Coll.start : Coll P k enc D0 (has D0) [] :=
  ⟨List.nodup_nil, fun x => ⟨fun h => by simp at h, fun ⟨l, _, h1, h2⟩ => by rw [h1] at h2; cases h2⟩⟩
theorem Coll.step (h : Coll P k enc D0 left ss) (K : Keyed P k) (inj : ∀ a b, enc a = enc b → a = b) {x : α} {l : Lit} (hkey : keyOf P k (enc x) = some l) (hlk : left l = true) (hhas : has D0 l = true) :
    Coll P k enc D0 (fun z => left z && !z.sameKey l) (ss ++ [x]) := by
  have hl : WideAt.IsKeyLit l := K.key hkey
  have hnew : x ∉ ss := fun hx => by
    obtain ⟨l', h1, _, h3⟩ := (h.2 x).1 hx
    rw [hkey] at h1; cases h1
    rw [hlk] at h3; cases h3
  refine ⟨List.nodup_append.2 ⟨h.1, by simp, fun a ha b hb => by simp at hb; subst hb; exact fun e => hnew (e ▸ ha)⟩, fun y => ?_⟩
  rw [List.mem_append, List.mem_singleton]
  constructor
  · rintro (hy | rfl)
    · obtain ⟨l', h1, h2, h3⟩ := (h.2 y).1 hy
      exact ⟨l', h1, h2, by show (left l' && _) = false; rw [h3]; rfl⟩
    · exact ⟨l, hkey, hhas, by show (left l && !l.sameKey l) = false; rw [(same_iff hl).2 rfl]; simp⟩
  · rintro ⟨l', h1, h2, h3⟩
    cases hle : left l' with
    | false => exact .inl ((h.2 y).2 ⟨l', h1, h2, hle⟩)
    | true =>
      right
      change (left l' && !l'.sameKey l) = false at h3
      rw [hle] at h3
      have : l'.sameKey l = true := by simpa using h3
      obtain rfl := (same_iff hl).1 this
      exact inj _ _ (K.inj h1 hkey)
theorem Coll.perm {D : List (α × Value)} {es : List (Lit × DataW Unit)} (h : Coll P k enc D0 left ss) (K : Keyed P k) (inj : ∀ a b, enc a = enc b → a = b) (hl : ∀ l, left l = false) (hD : D0 = .map es) (hp : (es.map (·.1)).Perm (D.map fun p => kl P k (enc p.1)))
    (hk : ∀ p ∈ D, ∃ l, keyOf P k (enc p.1) = some l) (hn : (D.map (·.1)).Nodup) : ss.Perm (D.map (·.1)) := by
  subst hD
  refine (List.perm_ext_iff_of_nodup h.1 hn).2 fun x => ?_
  rw [h.2 x]
  constructor
  · rintro ⟨l, h1, h2, _⟩
    rw [has_eq, List.any_eq_true] at h2
    obtain ⟨p, hp1, hp2⟩ := h2
    obtain rfl := (same_iff (K.key h1)).1 hp2
    have : p.1 ∈ D.map fun p => kl P k (enc p.1) := hp.mem_iff.1 (List.mem_map.2 ⟨p, hp1, rfl⟩)
    obtain ⟨q, hq, e⟩ := List.mem_map.1 this
    obtain ⟨l', hl'⟩ := hk q hq
    have e2 : l' = p.1 := by rw [← e, kl, hl']; rfl
    subst e2
    exact List.mem_map.2 ⟨q, hq, inj _ _ (K.inj hl' h1)⟩
  · intro hx
    obtain ⟨q, hq, rfl⟩ := List.mem_map.1 hx
    obtain ⟨l, hl1⟩ := hk q hq
    refine ⟨l, hl1, ?_, hl l⟩
    have : l ∈ es.map (·.1) := hp.mem_iff.2 (List.mem_map.2 ⟨q, hq, by rw [kl, hl1]; rfl⟩)
    obtain ⟨p, hp1, e⟩ := List.mem_map.1 this
    rw [has_eq, List.any_eq_true]
    exact ⟨p, hp1, (same_iff (K.key hl1)).2 e⟩
end
end Go.Proofs.Ytlkoppmenpeepaa.Sep
