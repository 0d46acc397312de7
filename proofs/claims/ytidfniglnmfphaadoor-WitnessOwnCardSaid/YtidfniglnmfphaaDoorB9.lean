import Derived.Test.YtidfniglnmfphaaDoorB8
namespace Go.Proofs.YtidfniglnmfphaaDoor.B
open Go.RowKit Go.Maps Go.Sort Go.Shelf Go.Proofs.YtidfniglnmfphaaDoor.Sep Go.Proofs.YtidfniglnmfphaaDoor.P
set_option linter.unusedVariables false
set_option linter.unusedSimpArgs false
theorem without_snoc {R : List Rw} {k : Nat} {x : Rw} (h : R[k]? = some x) (f t : K) : without (R.take (k + 1)) f t = without (R.take k) f t ++ (if inS f t x then [] else [x]) := by
  rw [take_snoc h]; unfold without; rw [List.filter_append]; cases e : inS f t x <;> simp [e]
theorem without_le (R : List Rw) (f t : K) : (without R f t).length ≤ R.length := List.length_filter_le _ _
theorem rws_drop (R : List Rw) (k : Nat) (hk : k ≤ R.length) : (rws R).extract (k * 2) (R.length * 2) = rws (R.drop k) := by
  rw [List.extract_eq_take_drop]
  have e : rws R = rws (R.take k) ++ rws (R.drop k) := by rw [← rws_append, List.take_append_drop]
  have l1 : (rws (R.take k)).length = k * 2 := by rw [rws_len, List.length_take, Nat.min_eq_left hk]
  have l2 : (rws (R.drop k)).length = R.length * 2 - k * 2 := by rw [rws_len, List.length_drop]; omega
  rw [e, ← l1, List.drop_left, l1, ← l2, List.take_length]
theorem put_all {R : List Rw} {r : Rw} {k : Nat} (h : ∀ y ∈ R.take k, y.key < r.key) (hk : k = R.length) : put R r = R ++ [r] := by
  subst hk
  rw [List.take_length] at h
  induction R with
  | nil => rfl
  | cons x R ih => unfold put; rw [if_pos (h x (by simp)), ih fun y hy => h y (by simp [hy])]; rfl
theorem put_at : ∀ {R : List Rw} {r x : Rw} {k : Nat}, (∀ y ∈ R.take k, y.key < r.key) → R[k]? = some x → ¬ x.key < r.key → put R r = R.take k ++ r :: (if x.key = r.key then R.drop (k + 1) else R.drop k)
  | [], r, x, k, h, hx, hn => by simp at hx
  | y :: R, r, x, 0, h, hx, hn => by
    simp at hx; subst hx
    unfold put
    rw [if_neg hn]
    split <;> simp
  | y :: R, r, x, k + 1, h, hx, hn => by
    unfold put
    rw [if_pos (h y (by simp)), put_at (k := k) (fun z hz => h z (by simp [hz])) (by simpa using hx) hn]
    simp
theorem results_5 {P : Program} {a : Act} {N : Nat} {E : Env} {fn : Func} {w : World} {r1 r2 r3 r4 r5 : ResultVar} {v1 v2 v3 v4 v5 : Value} (h : fn.results = #[r1, r2, r3, r4, r5]) (ha : Has a N E) (h1 : resIs P E w r1 v1) (h2 : resIs P E w r2 v2) (h3 : resIs P E w r3 v3) (h4 : resIs P E w r4 v4) (h5 : resIs P E w r5 v5) :
    (results fn a.tmps).run P w = .ok (.tuple #[v1, v2, v3, v4, v5]) w := by
  rw [results_eq]
  simp [h, resIs_run ha h1, resIs_run ha h2, resIs_run ha h3, resIs_run ha h4, resIs_run ha h5]

end Go.Proofs.YtidfniglnmfphaaDoor.B
