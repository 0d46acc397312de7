import Derived.Test.YtidfniglnmfphaaB12
namespace Go.Proofs.Ytidfniglnmfphaa.B
open Go.RowKit Go.Maps Go.Sort Go.Shelf Go.Proofs.Ytidfniglnmfphaa.Sep Go.Proofs.Ytidfniglnmfphaa.P
set_option linter.unusedVariables false
set_option linter.unusedSimpArgs false
theorem le_many {ds : List Dn} {d : Dn} (h : d ∈ ds) : d.l.length ≤ many (tns ds) := by
  induction ds with
  | nil => cases h
  | cons x ds ih =>
    have e : many (tns (x :: ds)) = x.l.length + many (tns ds) := by simp [many, Dn.t]
    rw [e]
    rcases List.mem_cons.1 h with rfl | h
    · omega
    · have := ih h; omega
theorem eqints_n (W : World) (L : List Chunk) (w : World) (A B : Option Addr) (ca cb n m : Nat) (la lb : List Nat) (hra : Knows L fun w => Reads w 1 A n (nats la)) (hrb : Knows L fun w => Reads w 1 B m (nats lb)) (h1 : la.length = n) (h2 : lb.length = m) (hn : lb.length ≤ 140737488351232) (e : la = lb) (s : St W L w) :
    Calls Try.prog 16 #[.slice A n ca, .slice B m cb] w fun e w' => e = .returned (.bool true) ∧ St W L w' := by
  subst h1 h2; exact eqints_is W L w A B ca cb la lb hra hrb hn e s
section
variable (W : World) (L : List Chunk) (w : World) (B : Option Addr) (cb : Nat) (ds ds2 : List Dn) (hk : Knows L (DonesIn B ds2)) (hn : Bn ds) (hcp : Copy ds ds2)
include hk hn hcp
theorem rorderC_ok (h0 : code (tns ds) = 0) (s : St W L w) : Calls Try.prog 12 #[.slice B ds.length cb] w fun e w' => ∃ B c o, e = .returned (.tuple #[.slice B ds.length c, .int .i64 0]) ∧ IsOrd (tns ds) o ∧ St W (Own 3 1 B ds.length c (nats o) :: L) w' := by
  have := rorder_ok W L w B cb ds2 hk (hcp.bn hn) (by rw [hcp.tns]; exact h0) s
  rwa [hcp.tns, hcp.length] at this
theorem rorderC_no (h0 : code (tns ds) ≠ 0) (s : St W L w) : Calls Try.prog 12 #[.slice B ds.length cb] w fun e w' => e = .returned (.tuple #[.slice none 0 0, .int .i64 (code (tns ds))]) ∧ St W L w' := by
  have := rorder_no W L w B cb ds2 hk (hcp.bn hn) (by rw [hcp.tns]; exact h0) s
  rwa [hcp.tns, hcp.length] at this
theorem rcheckC_ok (h0 : code (tns ds) = 0) (s : St W L w) : Calls Try.prog 14 #[.slice B ds.length cb] w fun e w' => ∃ o, e = .returned (.tuple #[.int .i64 ((fst (found (tns ds) o) : Nat) : Int), .int .i64 ((snd (found (tns ds) o) : Nat) : Int), .bool (found (tns ds) o).isSome, .int .i64 0]) ∧ IsOrd (tns ds) o ∧ St W L w' := by
  have := rcheckT_ok W L w B cb ds2 hk (hcp.bn hn) (by rw [hcp.tns]; exact h0) s
  rwa [hcp.tns, hcp.length] at this
theorem rcheckC_no (h0 : code (tns ds) ≠ 0) (s : St W L w) : Calls Try.prog 14 #[.slice B ds.length cb] w fun e w' => e = .returned (.tuple #[.int .i64 0, .int .i64 0, .bool false, .int .i64 (code (tns ds))]) ∧ St W L w' := by
  have := rcheckT_no W L w B cb ds2 hk (hcp.bn hn) (by rw [hcp.tns]; exact h0) s
  rwa [hcp.tns, hcp.length] at this
theorem rrowsC_ok (h0 : code (tns ds) = 0) (s : St W L w) : Calls Try.prog 15 #[.slice B ds.length cb] w fun e w' => ∃ B c o, e = .returned (.tuple #[.slice B (rowsOf (tns ds) o).length c, .int .i64 0]) ∧ IsOrd (tns ds) o ∧ St W (Own 54 2 B (rowsOf (tns ds) o).length c (rws (rowsOf (tns ds) o)) :: L) w' := by
  have := rrows_ok W L w B cb ds2 hk (hcp.bn hn) (by rw [hcp.tns]; exact h0) s
  rwa [hcp.tns, hcp.length] at this
theorem rrowsC_no (h0 : code (tns ds) ≠ 0) (s : St W L w) : Calls Try.prog 15 #[.slice B ds.length cb] w fun e w' => e = .returned (.tuple #[.slice none 0 0, .int .i64 (code (tns ds))]) ∧ St W L w' := by
  have := rrows_no W L w B cb ds2 hk (hcp.bn hn) (by rw [hcp.tns]; exact h0) s
  rwa [hcp.tns, hcp.length] at this
end

end Go.Proofs.Ytidfniglnmfphaa.B
