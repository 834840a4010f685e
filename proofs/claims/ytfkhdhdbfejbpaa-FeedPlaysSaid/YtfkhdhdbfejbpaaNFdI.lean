/- Readers that leave; the laws' own anchor: walked. -/
import Derived.Test.YtfkhdhdbfejbpaaNFd
namespace Go.Proofs.Ytfkhdhdbfejbpaa.Fd
open Go Go.RowKit Go.Proofs.Ytfkhdhdbfejbpaa.MX Go.Proofs.Ytfkhdhdbfejbpaa.PFd
set_option linter.unusedVariables false
set_option linter.unusedSimpArgs false
set_option linter.unusedVariables false
section
variable {w w0 : World} {TS : Nat → Prop} {es : List Ch} {gf c : Nat} {A : Option Addr} {rs : List (Option Rd)}
def leaveO (rs : List (Option Rd)) (i : Int) : List (Option Rd) := match findO rs i with
  | none => rs
  | some _ => rs.set (i - 1).toNat none
set_option maxHeartbeats 1000000 in
theorem leave_any (i : Int) (hT : Hp w0 TS (FdCI gf A c rs es) w) (hi : -9223372036854775808 ≤ i ∧ i ≤ 9223372036854775807) :
    Calls Try.prog 19 #[.pointer (some ⟨gf, 0, none⟩), .int .i64 i] w fun e w' => e = .returned (.bool (findO rs i).isSome) ∧ Hp w0 TS (FdCI gf A c (leaveO rs i) es) w' := by
  refine calls_of_X (vs := [_, _]) (M := Hp w0 TS (FdCI gf A c rs es)) Try.func19 rfl Try.ntmps19 rfl hT ?_
  clear hT
  repeat first
    | refine XC_region ?_
    | refine X_nil ?_
    | refine XC_seq ?_
    | refine XT_seq ?_
    | refine Y_res (r_move rfl) rfl ?_
    | refine Y_res (r_assign rfl) rfl ?_
  refine X_call (g := 23) rfl rfl (fun w1 q1 => (findI_any i q1 hi).mono ?_)
  rintro e w2 ⟨rfl, q2⟩
  refine ⟨_, rfl, _, q2, ?_⟩
  clear q1 q2
  cases hf : findO rs i with
  | none =>
    have e1 : leaveO rs i = rs := by simp only [leaveO, hf]
    rw [e1]
    dsimp only [rdV]
    repeat first
      | refine XC_region ?_
      | refine X_nil ?_
      | refine XC_condT rfl ?_
      | refine XC_seq ?_
      | refine XT_seq ?_
      | refine XT_then_ret ?_
      | refine XC_ret ?_
      | refine Y_res (r_assign rfl) rfl ?_
      | refine Y_res (r_eqlNil2 rfl rfl) rfl ?_
    exact XT_ret1 (.inl rfl) Try.results19 rfl (fun w' h => ⟨rfl, h⟩)
  | some x =>
    obtain ⟨k, hik, hk⟩ := findO_some hf
    have e1 : leaveO rs i = rs.set k none := by simp only [leaveO, hf]; rw [show (i - 1).toNat = k by omega]
    have hkl : k < rs.length := (List.getElem?_eq_some_iff.1 hk).1
    rw [e1]
    dsimp only [rdV]
    unfold FdCI
    repeat first
      | refine XC_region ?_
      | refine X_nil ?_
      | refine XC_condF rfl ?_
      | refine XC_seq ?_
      | refine XT_seq ?_
      | refine XC_skip ?_
      | refine Y_res (r_move rfl) rfl ?_
      | refine Y_res (r_sub64 rfl rfl (by omega)) rfl ?_
      | refine Y_res (r_eqlNil rfl rfl) rfl ?_
      | refine Y_res (r_field' rfl) rfl ?_
      | refine Y_res (r_nilCheck rfl) rfl ?_
      | refine Y_res (r_loadB rfl rfl) rfl ?_
    refine Y_re (e := 14) (v' := .int .i64 (k : Nat)) rfl (by congr 1; omega) ?_
    repeat first
      | refine XC_region ?_
      | refine X_nil ?_
      | refine XC_seq ?_
      | refine XT_seq ?_
      | refine XC_ret ?_
      | refine Y_res (r_assign rfl) rfl ?_
      | refine Y_res (r_indexV0 (i := k) rfl rfl hkl (Nat.le_refl _)) rfl ?_
      | refine X_storeV (i := k) rfl rfl rfl (by rw [List.length_map]; exact hkl) ?_
    refine XT_ret1 (.inl rfl) Try.results19 rfl (fun w' h => ⟨rfl, ?_⟩)
    have e2 : (rs.set k none).map rdV = (rs.map rdV).set k (.pointer none) := List.map_set
    have h2 : Hp w0 TS (Ch.blk gf [.slice A (rs.set k none).length c] 57 :: Ch.sv A c 58 1 (rs.set k none).length ((rs.set k none).map rdV) :: (rs.flatMap rdCI ++ es)) w' := by rw [List.length_set, e2]; exact h
    obtain ⟨h3, h4⟩ := List.getElem?_eq_some_iff.1 hk
    refine Hp.sublist h2 (.cons_cons _ (.cons_cons _ ((List.Sublist.append ?_ (List.Sublist.refl es)))))
    have e3 : rs.flatMap rdCI = (rs.take k).flatMap rdCI ++ (rdCI (some x) ++ (rs.drop (k + 1)).flatMap rdCI) := by
      conv => lhs; rw [← List.take_append_drop k rs, List.drop_eq_getElem_cons h3, h4]
      rw [List.flatMap_append, List.flatMap_cons]
    have e4 : (rs.set k none).flatMap rdCI = (rs.take k).flatMap rdCI ++ (rs.drop (k + 1)).flatMap rdCI := by
      rw [List.set_eq_take_append_cons_drop, if_pos h3, List.flatMap_append, List.flatMap_cons]
      rfl
    rw [e3, e4]
    exact (List.Sublist.refl _).append (List.sublist_append_right _ _)
end
set_option maxHeartbeats 2000000 in
theorem anchor_any (w : World) : Calls Try.prog 6 #[] w (Says w (.bool true)) := by
  refine calls_of_X (Rr := Says w (.bool true)) (vs := []) (M := Hp w (fun _ => False) []) Try.func6 rfl Try.ntmps6 rfl (Hp.nil _ _) ?_
  repeat first
    | refine XC_region ?_
    | refine X_nil ?_
    | refine XC_seq ?_
    | refine XT_seq ?_
    | refine Y_res (r_assign rfl) rfl ?_
  refine X_call (g := 13) rfl rfl (fun w1 q1 => (newI_any q1).mono ?_)
  rintro e w2 ⟨gf, rfl, q2⟩
  refine ⟨_, rfl, _, q2, ?_⟩
  clear q1 q2
  repeat first
    | refine XC_region ?_
    | refine X_nil ?_
    | refine XC_seq ?_
    | refine XT_seq ?_
    | refine Y_res (r_move rfl) rfl ?_
    | refine Y_res (r_assign rfl) rfl ?_
    | refine Y_res (r_eqlNil rfl rfl) rfl ?_
    | refine Y_on rfl rfl ?_
  refine X_call (g := 14) rfl rfl (fun w1 q1 => (joinI_any 2 q1 (by decide) (by decide)).mono ?_)
  rintro e w2 (⟨hbad, _⟩ | ⟨_, A1, c1, x, rfl, h1, h2, h3, q2⟩)
  · exact absurd (by decide) hbad
  obtain ⟨xg, xc, cap, xs', xr, lost, buf⟩ := x
  dsimp only at h1 h2 h3
  subst h2 h3
  obtain rfl : cap = 2 := by omega
  refine ⟨_, rfl, _, q2, ?_⟩
  clear q1 q2 h1
  repeat first
    | refine XC_region ?_
    | refine X_nil ?_
    | refine XC_condF rfl ?_
    | refine XC_seq ?_
    | refine XT_seq ?_
    | refine XC_skip ?_
    | refine Y_res (r_move rfl) rfl ?_
    | refine Y_res (r_neq rfl rfl) rfl ?_
    | refine Y_on rfl rfl ?_
    | refine Y_res (r_pickF rfl rfl) rfl ?_
  have ok1 : allOk ([] ++ [some (⟨xg, xc, 2, xs', xr, 0, []⟩ : Rd)]) := fun y hy => by
    obtain rfl : y = _ := Option.some.inj (List.mem_singleton.1 hy)
    exact ⟨by dsimp only; decide, by dsimp only; decide, by dsimp only; decide⟩
  have t1 : ([] ++ [some (⟨xg, xc, 2, xs', xr, 0, []⟩ : Rd)]).map (putO (.int .i64 5)) = [some ⟨xg, xc, 2, xs' + 1, xr, 0, [.int .i64 5]⟩] := rfl
  refine X_call (g := 15) rfl rfl (fun w1 q1 => (tellI_any (.int .i64 5) q1 ok1 (by simp)).mono ?_)
  rintro e w2 ⟨rfl, q2⟩
  rw [t1] at q2
  refine ⟨_, rfl, _, q2, ?_⟩
  clear q1 q2 t1 ok1
  repeat first
    | refine XC_region ?_
    | refine X_nil ?_
    | refine XC_seq ?_
    | refine XT_seq ?_
    | refine Y_res (r_move rfl) rfl ?_
  have ok1 : allOk [some (⟨xg, xc, 2, xs' + 1, xr, 0, [.int .i64 5]⟩ : Rd)] := fun y hy => by
    obtain rfl : y = _ := Option.some.inj (List.mem_singleton.1 hy)
    exact ⟨by dsimp only; decide, by dsimp only; decide, by dsimp only; decide⟩
  have t1 : [some (⟨xg, xc, 2, xs' + 1, xr, 0, [.int .i64 5]⟩ : Rd)].map (putO (.int .i64 6)) = [some ⟨xg, xc, 2, xs' + 1 + 1, xr, 0, [.int .i64 5, .int .i64 6]⟩] := rfl
  refine X_call (g := 15) rfl rfl (fun w1 q1 => (tellI_any (.int .i64 6) q1 ok1 (by simp)).mono ?_)
  rintro e w2 ⟨rfl, q2⟩
  rw [t1] at q2
  refine ⟨_, rfl, _, q2, ?_⟩
  clear q1 q2 t1 ok1
  repeat first
    | refine XC_region ?_
    | refine X_nil ?_
    | refine XC_seq ?_
    | refine XT_seq ?_
    | refine Y_res (r_move rfl) rfl ?_
  have ok1 : allOk [some (⟨xg, xc, 2, xs' + 1 + 1, xr, 0, [.int .i64 5, .int .i64 6]⟩ : Rd)] := fun y hy => by
    obtain rfl : y = _ := Option.some.inj (List.mem_singleton.1 hy)
    exact ⟨by dsimp only; decide, by dsimp only; decide, by dsimp only; decide⟩
  have t1 : [some (⟨xg, xc, 2, xs' + 1 + 1, xr, 0, [.int .i64 5, .int .i64 6]⟩ : Rd)].map (putO (.int .i64 7)) = [some ⟨xg, xc, 2, xs' + 1 + 1 + 1, xr + 1, 1, [.int .i64 6, .int .i64 7]⟩] := rfl
  refine X_call (g := 15) rfl rfl (fun w1 q1 => (tellI_any (.int .i64 7) q1 ok1 (by simp)).mono ?_)
  rintro e w2 ⟨rfl, q2⟩
  rw [t1] at q2
  refine ⟨_, rfl, _, q2, ?_⟩
  clear q1 q2 t1 ok1
  generalize xs' + 1 + 1 + 1 = ys
  generalize xr + 1 = yr
  repeat first
    | refine XC_region ?_
    | refine X_nil ?_
    | refine XC_seq ?_
    | refine XT_seq ?_
    | refine Y_res (r_move rfl) rfl ?_
  have t1 : takeO [some (⟨xg, xc, 2, ys, yr, 1, [.int .i64 6, .int .i64 7]⟩ : Rd)] 1 = ([some ⟨xg, xc, 2, ys, yr + 1, 1, [.int .i64 7]⟩], some (.int .i64 6)) := rfl
  refine X_call (g := 16) rfl rfl (fun w1 q1 => (takeI_any 1 q1 (by decide)).mono ?_)
  rintro e w2 ⟨rfl, q2⟩
  rw [t1] at q2 ⊢
  refine ⟨_, rfl, _, q2, ?_⟩
  clear q1 q2 t1
  repeat first
    | refine XC_region ?_
    | refine X_nil ?_
    | refine XC_seq ?_
    | refine XT_seq ?_
    | refine Y_res (r_move rfl) rfl ?_
    | refine Y_res (r_assign rfl) rfl ?_
    | refine Y_res (r_extract rfl rfl) rfl ?_
  have t1 : takeO [some (⟨xg, xc, 2, ys, yr + 1, 1, [.int .i64 7]⟩ : Rd)] 1 = ([some ⟨xg, xc, 2, ys, yr + 1 + 1, 1, []⟩], some (.int .i64 7)) := rfl
  refine X_call (g := 16) rfl rfl (fun w1 q1 => (takeI_any 1 q1 (by decide)).mono ?_)
  rintro e w2 ⟨rfl, q2⟩
  rw [t1] at q2 ⊢
  refine ⟨_, rfl, _, q2, ?_⟩
  clear q1 q2 t1
  repeat first
    | refine XC_region ?_
    | refine X_nil ?_
    | refine XC_seq ?_
    | refine XT_seq ?_
    | refine Y_res (r_move rfl) rfl ?_
    | refine Y_res (r_assign rfl) rfl ?_
    | refine Y_res (r_extract rfl rfl) rfl ?_
  have t1 : takeO [some (⟨xg, xc, 2, ys, yr + 1 + 1, 1, []⟩ : Rd)] 1 = ([some ⟨xg, xc, 2, ys, yr + 1 + 1, 1, []⟩], none) := rfl
  refine X_call (g := 16) rfl rfl (fun w1 q1 => (takeI_any 1 q1 (by decide)).mono ?_)
  rintro e w2 ⟨rfl, q2⟩
  rw [t1] at q2 ⊢
  refine ⟨_, rfl, _, q2, ?_⟩
  clear q1 q2 t1
  repeat first
    | refine XC_region ?_
    | refine X_nil ?_
    | refine XC_seq ?_
    | refine XT_seq ?_
    | refine Y_res (r_move rfl) rfl ?_
    | refine Y_res (r_assign rfl) rfl ?_
    | refine Y_res (r_eql rfl rfl) rfl ?_
    | refine Y_on rfl rfl ?_
    | refine Y_res (r_notB rfl) rfl ?_
    | refine Y_res (r_extract rfl rfl) rfl ?_
    | refine Y_res (r_pickT rfl rfl) rfl ?_
  refine X_call (g := 18) rfl rfl (fun w1 q1 => (lostI_any 1 q1 (by decide)).mono ?_)
  rintro e w2 ⟨rfl, q2⟩
  refine ⟨_, rfl, _, q2, ?_⟩
  clear q1 q2
  repeat first
    | refine X_nil ?_
    | refine XT_seq ?_
    | refine XC_ret ?_
    | refine Y_res (r_assign rfl) rfl ?_
    | refine Y_res (r_eql rfl rfl) rfl ?_
    | refine Y_on rfl rfl ?_
    | refine Y_res (r_pickT rfl rfl) rfl ?_
  exact XT_says (.inl rfl) Try.results6 rfl rfl
end Go.Proofs.Ytfkhdhdbfejbpaa.Fd
