/- What the laws of logs that are cut off need: bytes that are all one, slices of slices of booleans that come in: walked. -/
import Derived.Test.YtgfpibojgkleiaaNWlD
import Derived.Test.YtgfpibojgkleiaaNPlBs
namespace Go.Proofs.Ytgfpibojgkleiaa.NWl
open Go Go.RowKit Go.Proofs.Ytgfpibojgkleiaa.MX Go.Proofs.Ytgfpibojgkleiaa.PWal Go.Proofs.Ytgfpibojgkleiaa.NPl
set_option linter.unusedVariables false
set_option linter.unusedSimpArgs false
set_option linter.unusedVariables false
set_option maxHeartbeats 1000000 in
theorem fillw_any (x : Int) (n : Nat) (w : World) (hn : n ≤ 100000) (hx : 0 ≤ x ∧ x < 256) : Calls Try.prog 23 #[.int .u8 x, .int .i64 n] w (Tells 5 .u8 w (List.replicate n x)) := by
  refine calls_of_X (vs := [_, _]) (M := Hp w (fun _ => False) []) Try.func23 rfl Try.ntmps23 rfl (Hp.nil _ _) ?_
  repeat first
    | refine XC_region ?_
    | refine X_nil ?_
    | refine XC_seq ?_
    | refine XT_seq ?_
    | refine XC_block ?_
    | refine Y_res (r_move rfl) rfl ?_
    | refine Y_res (r_assign rfl) rfl ?_
    | refine Y_res (r_len rfl) rfl ?_
    | (refine X_make rfl rfl (by omega) (by omega) (by omega) rfl ?_; intro _ _)
  rename_i g hg
  have e0 : ∀ j, j ≤ n → (List.replicate j x ++ List.replicate (n - j) (0 : Int)).length = n := fun j hj => by simp; omega
  refine XC_loop (ι := Nat) (fun j => j ≤ n) (fun j => [(0, .int .u8 x), (5, .slice (some ⟨g, 0, none⟩) n n), (10, .int .i64 n), (11, .int .i64 j)]) (fun j => Hp w (fun _ => False) [Ch.sl (some ⟨g, 0, none⟩) n 5 .u8 (List.replicate j x ++ List.replicate (n - j) 0)]) (fun j => n - j) 0 (Nat.zero_le _) ⟨rfl, rfl, rfl, rfl, trivial⟩ (fun _ h => h) ?_
  intro j hj
  have e1 := e0 j hj
  repeat first
    | refine XC_region ?_
    | refine X_nil ?_
    | refine XC_seq ?_
    | refine XT_seq ?_
    | refine Y_res (r_lss rfl rfl) rfl ?_
  refine XC_condP rfl (fun hlt => ?_) (fun hge => ?_)
  · have hj2 : j < n := by omega
    have e2 : (List.replicate j x ++ List.replicate (n - j) (0 : Int)).set j x = List.replicate (j + 1) x ++ List.replicate (n - (j + 1)) 0 := by
      rw [List.set_append_right _ _ (by simp), show n - j = (n - (j + 1)) + 1 by omega, List.replicate_succ, List.length_replicate, Nat.sub_self, List.set_cons_zero, List.replicate_succ' (n := j)]
      simp
    repeat first
      | refine XC_region ?_
      | refine X_nil ?_
      | refine XC_seq ?_
      | refine XT_seq ?_
      | refine XC_block ?_
      | refine XT_block_normal ?_
      | refine XC_skip ?_
      | refine Y_res (r_move rfl) rfl ?_
      | refine Y_res (r_assign rfl) rfl ?_
      | refine Y_res (r_add64 rfl rfl (by omega)) rfl ?_
      | refine Y_res (r_indexS rfl rfl (by omega) (by first | omega | (simp only [List.length_set, List.length_replicate]; omega))) rfl ?_
      | refine X_storeI rfl rfl (by first | omega | (simp only [List.length_set, List.length_replicate]; omega)) ?_
    rw [e2]
    exact XT_round (j + 1) hj2 (by omega) ⟨rfl, rfl, rfl, rfl, trivial⟩ (fun _ h => h)
  · obtain rfl : j = n := by omega
    have e3 : List.replicate j x ++ List.replicate (j - j) (0 : Int) = List.replicate j x := by simp
    rw [e3]
    repeat first
      | refine XC_region ?_
      | refine X_nil ?_
      | refine XC_seq ?_
      | refine XT_seq ?_
      | refine XT_block_same rfl ?_
      | refine XT_then_exit ?_
      | refine XC_exit ?_
      | refine XC_ret ?_
      | refine Y_res (r_move rfl) rfl ?_
      | refine Y_res (r_assign rfl) rfl ?_
    exact XT_tells (.inl rfl) Try.results23 rfl (by simp)
set_option maxHeartbeats 2000000 in
theorem alike_any (x : Int) (n : Nat) (A : Option Addr) (c : Nat) (w : World) (hr : Rds w A c .u8 (List.replicate n x)) : Calls Try.prog 21 #[.slice A n c] w (Says w (.bool true)) := by
  have hle := hr.le
  have hcap := hr.cap
  rw [List.length_replicate] at hle
  have hg : ∀ i, i < n → (List.replicate n x).getD i 0 = x := fun i hi => by rw [List.getD_eq_getElem?_getD, List.getElem?_replicate, if_pos hi]; rfl
  have hll : (List.replicate n x).length = n := List.length_replicate
  refine calls_of_X (vs := [_]) (M := Hp w (fun _ => False) []) Try.func21 rfl Try.ntmps21 rfl (Hp.nil _ _) ?_
  repeat first
    | refine XC_region ?_
    | refine X_nil ?_
    | refine XC_seq ?_
    | refine XT_seq ?_
    | refine XC_block ?_
    | refine Y_res (r_move rfl) rfl ?_
    | refine Y_res (r_assign rfl) rfl ?_
    | refine Y_res (r_len rfl) rfl ?_
  refine XC_loop (ι := Nat) (fun i => i ≤ n) (fun i => [(0, .slice A n c), (5, .slice A n c), (6, .int .i64 n), (7, .int .i64 i)]) (fun i => Hp w (fun _ => False) []) (fun i => n - i) 0 (Nat.zero_le _) ⟨rfl, rfl, rfl, rfl, trivial⟩ (fun _ h => h) ?_
  intro i hi
  repeat first
    | refine XC_region ?_
    | refine X_nil ?_
    | refine XC_seq ?_
    | refine XT_seq ?_
    | refine Y_res (r_lss rfl rfl) rfl ?_
  refine XC_condP rfl (fun hlt => ?_) (fun hge => ?_)
  · have hi2 : i < n := by omega
    have h1 := hg i hi2
    have h2 := hg 0 (by omega)
    repeat first
      | refine XC_region ?_
      | refine X_nil ?_
      | refine XC_seq ?_
      | refine XT_seq ?_
      | refine XC_block ?_
      | refine XC_skip ?_
      | refine Y_res (r_move rfl) rfl ?_
      | refine Y_res (r_assign rfl) rfl ?_
      | refine Y_res (r_neq rfl rfl) rfl ?_
      | refine Y_res (r_indexR rfl rfl (by assumption) (by omega) (by omega)) rfl ?_
      | refine Y_res (r_loadR rfl (by assumption) (by first | exact old_false | assumption) (by omega)) rfl ?_
    refine XC_condP rfl (fun hx => absurd (by rw [h1, h2]) hx) (fun _ => ?_)
    repeat first
      | refine XC_region ?_
      | refine X_nil ?_
      | refine XT_seq ?_
      | refine XT_block_normal ?_
      | refine XC_skip ?_
      | refine Y_res (r_move rfl) rfl ?_
      | refine Y_res (r_add64 rfl rfl (by omega)) rfl ?_
    exact XT_round (i + 1) hi2 (by omega) ⟨rfl, rfl, rfl, rfl, trivial⟩ (fun _ h => h)
  · repeat first
      | refine XC_region ?_
      | refine X_nil ?_
      | refine XC_seq ?_
      | refine XT_seq ?_
      | refine XT_block_same rfl ?_
      | refine XT_then_exit ?_
      | refine XC_exit ?_
      | refine XC_ret ?_
      | refine Y_res (r_assign rfl) rfl ?_
    exact XT_says (.inl rfl) Try.results21 rfl rfl
def shBBs := shSl Try.underlying43 shBs
abbrev BlD := Option Addr × Nat × List Bool
theorem bbs_at {w : World} {l : List BlD} {A : Option Addr} {c : Nat} (h : shBBs.has w [.slice A l.length c] (A, c, l)) :
    (0 < l.length → A = some (adOf A)) ∧ l.length ≤ c ∧ c ≤ 9223372036854775807 ∧ ∀ (j : Nat) (o : BlD), l[j]? = some o → w.cell? ((adOf A).add j) = some (.slice o.1 o.2.2.length o.2.1) ∧ RdV w o.1 o.2.1 1 o.2.2.length (o.2.2.map Value.bool) := by
  have hc : Try.prog.cellsOf 44 = 1 := by kernel_rfl
  have hcell := fun (j : Nat) (o : BlD) (hj : l[j]? = some o) => shSl_cell hc h (j := j) (x := o) hj
  obtain ⟨h1, h2, h3, h4, _, h5⟩ := h
  have hm : maxLen ≤ 9223372036854775807 := by decide
  refine ⟨fun hp => ?_, h2, Nat.le_trans h3 hm, fun j o hj => ?_⟩
  · cases A with
    | none => have := h4 rfl; dsimp only at this h2; omega
    | some a => rfl
  · obtain ⟨v, k1, k2⟩ := hcell j o hj
    have k3 := k2
    have q1 : [v] = [Value.slice o.1 o.2.2.length o.2.1] := k2.1
    obtain rfl := (List.cons.inj q1).1
    exact ⟨k1, bs_rdv k3⟩
end Go.Proofs.Ytgfpibojgkleiaa.NWl
