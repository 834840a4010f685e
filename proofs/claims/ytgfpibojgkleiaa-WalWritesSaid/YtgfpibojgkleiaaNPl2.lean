/- A disk's sectors written and read: walked. -/
import Derived.Test.YtgfpibojgkleiaaNPl
namespace Go.Proofs.Ytgfpibojgkleiaa.NPl
open Go Go.RowKit Go.Proofs.Ytgfpibojgkleiaa.MX
set_option linter.unusedVariables false
set_option linter.unusedSimpArgs false
set_option linter.unusedVariables false
def writeP (p : Pl) (i : Int) (b : List Int) : Pl × Int :=
  if thereP p i ≠ 0 then (p, thereP p i) else if b.length ≠ 64 then (p, 51) else if (stepP p).2 = false then ((stepP p).1, 50)
  else ({ (stepP p).1 with now := p.now.set i.toNat b, loose := p.loose ++ [(i.toNat, b)] }, 0)
theorem stepP_same (p : Pl) : (stepP p).1.n = p.n ∧ (stepP p).1.safe = p.safe ∧ (stepP p).1.now = p.now ∧ (stepP p).1.loose = p.loose := by
  unfold stepP
  split
  · exact ⟨rfl, rfl, rfl, rfl⟩
  · split <;> exact ⟨rfl, rfl, rfl, rfl⟩
theorem there0 {p : Pl} {i : Int} (h : ¬ thereP p i ≠ 0) : p.down = false ∧ 0 ≤ i ∧ i < p.n := by
  have h := Classical.not_not.1 h
  unfold thereP at h
  split at h
  · cases h
  · rename_i hd
    split at h
    · cases h
    · rename_i hi
      exact ⟨by simpa using hd, by omega, by omega⟩
theorem secC_len (s : List Int) : (secC s).length = s.length := List.length_map ..
theorem secC_one (s : List Int) : ∀ v ∈ secC s, v.oneCell' = true := fun v hv => by
  obtain ⟨x, _, rfl⟩ := List.mem_map.1 hv
  rfl
theorem wrC_one (x : Nat × List Int) : ∀ v ∈ wrC x, v.oneCell' = true := fun v hv => by
  rcases List.mem_cons.1 hv with rfl | hv
  · rfl
  · exact secC_one _ v hv
section
variable {g : Nat} {a : Ad} {p : Pl} {w w0 : World} {TS : Nat → Prop} {es : List Ch}
set_option maxRecDepth 100000 in
set_option maxHeartbeats 4000000 in
theorem write_any (i : Int) (b : List Int) (A : Option Addr) (c : Nat) (hT : Hp w0 TS (PlC g a p es) w) (hp : PlOk p) (hll : p.loose.length ≤ 10000) (hr : ∀ (cs : List Ch) w1, Hp w0 TS (cs ++ es) w1 → Rds w1 A c .u8 b) :
    Calls Try.prog 32 #[.pointer (some ⟨g, 0, none⟩), .int .i64 i, .slice A b.length c] w fun e w' => ∃ a', e = .returned (.int .i64 (writeP p i b).2) ∧ Hp w0 TS (PlC g a' (writeP p i b).1 es) w' := by
  refine calls_of_X (vs := [_, _, _]) (M := Hp w0 TS (PlC g a p es)) Try.func32 rfl Try.ntmps32 rfl hT ?_
  repeat first
    | refine XC_region ?_
    | refine X_nil ?_
    | refine XC_seq ?_
    | refine XT_seq ?_
    | refine Y_res (r_move rfl) rfl ?_
    | refine Y_res (r_assign rfl) rfl ?_
  refine X_call (g := 40) rfl rfl (fun w1 q1 => (there_any i q1).mono ?_)
  rintro e w2 ⟨rfl, q2⟩
  refine ⟨_, rfl, _, q2, ?_⟩
  repeat first
    | refine XC_region ?_
    | refine X_nil ?_
    | refine XC_seq ?_
    | refine XT_seq ?_
    | refine XC_block ?_
    | refine Y_res (r_move rfl) rfl ?_
    | refine Y_res (r_assign rfl) rfl ?_
    | refine Y_res (r_neq rfl rfl) rfl ?_
  refine XC_condP rfl (fun h1 => ?_) (fun h1 => ?_)
  · have e1 : writeP p i b = (p, thereP p i) := if_pos h1
    rw [e1]
    repeat first
      | refine XC_region ?_
      | refine X_nil ?_
      | refine XC_seq ?_
      | refine XT_seq ?_
      | refine XT_block_ret ?_
      | refine XT_then_ret ?_
      | refine XC_ret ?_
      | refine Y_res (r_move rfl) rfl ?_
      | refine Y_res (r_assign rfl) rfl ?_
    exact XT_ret1 (.inl rfl) Try.results32 rfl (fun w' h => ⟨a, rfl, h⟩)
  repeat first
    | refine XC_region ?_
    | refine X_nil ?_
    | refine XC_seq ?_
    | refine XT_seq ?_
    | refine Y_res (r_move rfl) rfl ?_
    | refine Y_res (r_assign rfl) rfl ?_
    | refine Y_res (r_neq rfl rfl) rfl ?_
    | refine Y_res (r_len rfl) rfl ?_
  refine XC_condP rfl (fun h2 => ?_) (fun h2 => ?_)
  · have e1 : writeP p i b = (p, 51) := by rw [writeP, if_neg h1, if_pos (by omega)]
    rw [e1]
    repeat first
      | refine XC_region ?_
      | refine X_nil ?_
      | refine XC_seq ?_
      | refine XT_seq ?_
      | refine XT_block_ret ?_
      | refine XT_then_ret ?_
      | refine XC_ret ?_
      | refine Y_res (r_assign rfl) rfl ?_
    exact XT_ret1 (.inl rfl) Try.results32 rfl (fun w' h => ⟨a, rfl, h⟩)
  have hbl : b.length = 64 := by omega
  repeat first
    | refine XC_region ?_
    | refine XC_seq ?_
    | refine Y_res (r_move rfl) rfl ?_
  refine X_call (g := 41) rfl rfl (fun w3 q3 => (step_any q3 hp).mono ?_)
  rintro e w4 ⟨rfl, q4⟩
  refine ⟨_, rfl, _, q4, ?_⟩
  clear q2
  repeat first
    | refine X_nil ?_
    | refine XT_seq ?_
    | refine Y_res (r_assign rfl) rfl ?_
    | refine Y_res (r_notB rfl) rfl ?_
  refine XC_condN rfl (fun h3 => ?_) (fun h3 => ?_)
  · have e1 : writeP p i b = ((stepP p).1, 50) := by rw [writeP, if_neg h1, if_neg (by omega), if_pos h3]
    rw [e1]
    repeat first
      | refine XC_region ?_
      | refine X_nil ?_
      | refine XC_seq ?_
      | refine XT_seq ?_
      | refine XT_block_ret ?_
      | refine XT_then_ret ?_
      | refine XC_ret ?_
      | refine Y_res (r_assign rfl) rfl ?_
    exact XT_ret1 (.inl rfl) Try.results32 rfl (fun w' h => ⟨a, rfl, h⟩)
  have e1 : writeP p i b = ({ (stepP p).1 with now := p.now.set i.toNat b, loose := p.loose ++ [(i.toNat, b)] }, 0) := by rw [writeP, if_neg h1, if_neg (by omega), if_neg (by simp [h3])]
  rw [e1]
  clear q1 q3 q4 e1
  obtain ⟨hd, hi0, hi1⟩ := there0 h1
  obtain ⟨q, rfl⟩ : ∃ q : Nat, i = q := ⟨i.toNat, by omega⟩
  have hq : q < p.n := by omega
  obtain ⟨f1, f2, f3, f4⟩ := stepP_same p
  obtain ⟨p1, hp1⟩ : ∃ p1, p1 = (stepP p).1 := ⟨_, rfl⟩
  rw [← hp1] at f1 f2 f3 f4 ⊢
  rw [← f1] at hq
  have hnl : p1.now.length = p1.n := by rw [f3, f1]; exact hp.nl
  have hns : ∀ x ∈ p1.now.map secC, x.length = 64 := fun x hx => by
    obtain ⟨s, hs, rfl⟩ := List.mem_map.1 hx
    rw [secC_len]
    exact hp.ns s (by rw [← f3]; exact hs)
  obtain ⟨s0, hs0⟩ : ∃ s0, p1.now[q]? = some s0 := ⟨p1.now[q]'(by omega), List.getElem?_eq_getElem (by omega)⟩
  have hs1 : (p1.now.map secC)[q]? = some (secC s0) := by rw [List.getElem?_map, hs0]; rfl
  cases A with
  | none => have := (hr [_, _, _, _] _ hT).nil rfl; have := (hr [_, _, _, _] _ hT).le; omega
  | some ad =>
    have hload : ∀ w1, Hp w0 TS (PlC g a p1 es) w1 → ∀ j v, (secC b)[j]? = some v → w1.cell? (ad.add j) = some v := fun w1 h j v hv => (hr [_, _, _, _] w1 h).toV.at_ j v hv
    unfold PlC at hload ⊢
    repeat first
      | refine XC_seq ?_
      | refine XT_seq ?_
      | refine XT_block_normal ?_
      | refine XC_skip ?_
    refine XC_tailF (by kernel_rfl) (by kernel_rfl) drw_hp ?_
    repeat first
      | refine X_nil ?_
      | refine XQ_nilX ?_
      | refine XC_seq ?_
      | refine XT_seq ?_
      | refine Y_res (r_move rfl) rfl ?_
      | refine Y_res (r_field' rfl) rfl ?_
      | refine Y_res (r_nilCheck rfl) rfl ?_
      | refine Y_res (r_loadB rfl rfl) rfl ?_
      | refine Y_res (r_indexV1 rfl rfl hq (Nat.le_refl _)) rfl ?_
      | refine Y_res (r_arrp rfl (by omega)) rfl ?_
      | refine Y_res (r_loadA (vs := secC b) rfl (by rw [secC_len]; exact hbl) hload) rfl ?_
      | refine X_storeF rfl rfl (by rw [secC_len]; exact hbl) (secC_one b) hns hs1 (by decide) ?_
    have hset : (p1.now.map secC).set q (secC b) = (p1.now.set q b).map secC := by rw [List.map_set]
    have hns2 : ∀ x ∈ (p1.now.set q b).map secC, x.length = 64 := fun x hx => by
      obtain ⟨s, hs, rfl⟩ := List.mem_map.1 hx
      rw [secC_len]
      rcases List.mem_or_eq_of_mem_set hs with hs | hs
      · exact hp.ns s (by rw [← f3]; exact hs)
      · rw [hs]; exact hbl
    have hs2 : ((p1.now.set q b).map secC)[q]? = some (secC b) := by rw [List.getElem?_map, List.getElem?_set, if_pos rfl, if_pos (by omega)]; rfl
    rw [hset]
    have hll1 : p1.loose.length ≤ 10000 := by rw [f4]; exact hll
    refine XC_held 18 (Hp w0 TS [Ch.blk g [.slice a.As p1.n a.cs, .slice a.An p1.n a.cn, .slice a.Lo p1.loose.length a.lc, .int .i64 p1.left, .bool p1.down] 57, Ch.sv a.An a.cn 74 64 p1.n ((p1.now.set q b).map secC).flatten]) rfl drw_hp (fun _ h => Hp.sublist h (.cons_cons _ (.cons _ (.cons_cons _ (.cons _ (List.nil_sublist _)))))) ?_
    refine TE_reads [0, 1, 2, 3, 4, 5, 6, 7, 8, 9, 10, 11, 12] (by decide +kernel) (by decide +kernel) rfl ?_
    repeat first
      | refine Y_res (r_move rfl) rfl ?_
      | refine Y_res (r_field' rfl) rfl ?_
      | refine Y_res (r_nilCheck rfl) rfl ?_
      | refine Y_res (r_loadB rfl rfl) rfl ?_
      | refine Y_res (r_indexV1 rfl rfl hq (Nat.le_refl _)) rfl ?_
      | refine Y_res (r_loadF rfl hns2 hs2) rfl ?_
    refine XQ_nodeE ?_
    refine TE_one 13 (by decide +kernel) rfl rfl ?_
    refine Y_res (r_build2 (us1 := [.int .i64 q]) (us2 := secC b) (n1 := 1) (n2 := 64) Try.underlying76 rfl rfl rfl rfl rfl (by rw [secC_len]; exact hbl) (fun w => by kernel_rfl) rfl) rfl ?_
    repeat first
      | refine X_nil ?_
      | refine XT_only ?_
    refine XT_nodeE (fun _ h => Hp.sublist h (.cons_cons _ (.cons _ (.cons_cons _ (.cons _ (List.nil_sublist _)))))) ?_
    refine TE_one 14 (by decide +kernel) rfl rfl ?_
    refine X_buildF1 (us := wrC (q, b)) rfl (by show (secC b).length + 1 = 65; rw [secC_len]; omega) rfl (by decide) (by decide) rfl (fun g2 hg2 => ?_)
    repeat first
      | refine X_nil ?_
      | refine XT_only ?_
    refine XT_nodeE (fun _ h => Hp.sublist h (.cons _ (.cons_cons _ (.cons _ (.cons_cons _ (.cons _ (List.nil_sublist _))))))) ?_
    refine TE_one 15 (by decide +kernel) rfl rfl ?_
    refine X_appendV (s := 65) (ys := wrC (q, b)) rfl rfl (fun w_ hM => rdv_blk (r := []) hM.head (List.append_nil _).symm (by show (secC b).length + 1 = 65; rw [secC_len]; omega) (Nat.le_refl 1) (by decide)) (wrC_one _) rfl (by decide) rfl rfl (by omega) (by omega) rfl ?_
    intro A4 c4
    repeat first
      | refine X_nil ?_
      | refine XT_only ?_
    refine XT_nodeE (fun _ h => Hp.sublist h (.cons _ (.cons_cons _ (.cons _ (.cons_cons _ (.cons _ (List.nil_sublist _))))))) ?_
    refine TE_reads [16, 17] (by decide +kernel) (by decide +kernel) rfl ?_
    repeat first
      | refine Y_res (r_field' rfl) rfl ?_
      | refine Y_res (r_nilCheck rfl) rfl ?_
    refine XQ_nodeE ?_
    refine TE_tail 18 (by decide +kernel) rfl rfl ?_
    refine X_storeB (i := 2) rfl rfl rfl (by simp) ?_
    repeat first
      | refine X_nil ?_
      | refine XT_only ?_
    refine XT_nodeW (TN_end (by decide +kernel) ?_)
    repeat first
      | refine XC_region ?_
      | refine X_nil ?_
      | refine XC_seq ?_
      | refine XT_seq ?_
      | refine XC_ret ?_
      | refine Y_res (r_assign rfl) rfl ?_
    refine XT_ret1 (.inl rfl) Try.results32 rfl (fun w' h => ⟨{ a with Lo := A4, lc := c4 }, rfl, ?_⟩)
    have e2 : ((p1.loose ++ [(q, b)]).map wrC).flatten = (p1.loose.map wrC).flatten ++ wrC (q, b) := by simp
    have e3 : (p1.loose ++ [(q, b)]).length = p1.loose.length + 1 := by simp
    rw [← f3, ← f4]
    show Hp w0 TS (PlC g { a with Lo := A4, lc := c4 } { p1 with now := p1.now.set q b, loose := p1.loose ++ [(q, b)] } es) w'
    rw [PlC, e2, e3]
    exact h.tail
set_option maxHeartbeats 2000000 in
theorem read_no (i : Int) (hT : Hp w0 TS (PlC g a p es) w) (hn : thereP p i ≠ 0) :
    Calls Try.prog 36 #[.pointer (some ⟨g, 0, none⟩), .int .i64 i] w fun e w' => e = .returned (.tuple #[.slice none 0 0, .int .i64 (thereP p i)]) ∧ Hp w0 TS (PlC g a p es) w' := by
  refine calls_of_X (vs := [_, _]) (M := Hp w0 TS (PlC g a p es)) Try.func36 rfl Try.ntmps36 rfl hT ?_
  repeat first
    | refine XC_region ?_
    | refine X_nil ?_
    | refine XC_seq ?_
    | refine XT_seq ?_
    | refine Y_res (r_move rfl) rfl ?_
    | refine Y_res (r_assign rfl) rfl ?_
  refine X_call (g := 40) rfl rfl (fun w1 q1 => (there_any i q1).mono ?_)
  rintro e w2 ⟨rfl, q2⟩
  refine ⟨_, rfl, _, q2, ?_⟩
  clear q1 q2
  repeat first
    | refine XC_region ?_
    | refine X_nil ?_
    | refine XC_seq ?_
    | refine XT_seq ?_
    | refine Y_res (r_move rfl) rfl ?_
    | refine Y_res (r_assign rfl) rfl ?_
    | refine Y_res (r_neq rfl rfl) rfl ?_
  refine XC_condP rfl (fun h1 => ?_) (fun h1 => ?_)
  · repeat first
      | refine XC_region ?_
      | refine X_nil ?_
      | refine XC_seq ?_
      | refine XT_seq ?_
      | refine XT_then_ret ?_
      | refine XC_ret ?_
      | refine Y_res (r_move rfl) rfl ?_
      | refine Y_res (r_assign rfl) rfl ?_
    exact XT_ret2 (.inl rfl) Try.results36 rfl rfl (fun w' h => ⟨rfl, h⟩)
  · exact absurd hn h1
set_option maxRecDepth 100000 in
set_option maxHeartbeats 4000000 in
theorem read_ok (i : Int) (hT : Hp w0 TS (PlC g a p es) w) (hp : PlOk p) (hn : thereP p i = 0) :
    Calls Try.prog 36 #[.pointer (some ⟨g, 0, none⟩), .int .i64 i] w fun e w' => ∃ b s, p.now[i.toNat]? = some s ∧ e = .returned (.tuple #[.slice (some ⟨b, 0, none⟩) 64 64, .int .i64 0]) ∧ Hp w0 TS (Ch.ints b .u8 s 74 :: PlC g a p es) w' := by
  refine calls_of_X (vs := [_, _]) (M := Hp w0 TS (PlC g a p es)) Try.func36 rfl Try.ntmps36 rfl hT ?_
  repeat first
    | refine XC_region ?_
    | refine X_nil ?_
    | refine XC_seq ?_
    | refine XT_seq ?_
    | refine Y_res (r_move rfl) rfl ?_
    | refine Y_res (r_assign rfl) rfl ?_
  refine X_call (g := 40) rfl rfl (fun w1 q1 => (there_any i q1).mono ?_)
  rintro e w2 ⟨rfl, q2⟩
  refine ⟨_, rfl, _, q2, ?_⟩
  clear q1 q2
  repeat first
    | refine XC_region ?_
    | refine X_nil ?_
    | refine XC_seq ?_
    | refine XT_seq ?_
    | refine Y_res (r_move rfl) rfl ?_
    | refine Y_res (r_assign rfl) rfl ?_
    | refine Y_res (r_neq rfl rfl) rfl ?_
  refine XC_condP rfl (fun h1 => ?_) (fun h1 => ?_)
  · exact absurd hn h1
  obtain ⟨hd, hi0, hi1⟩ := there0 h1
  obtain ⟨q, rfl⟩ : ∃ q : Nat, i = q := ⟨i.toNat, by omega⟩
  have hq : q < p.n := by omega
  have hnl := hp.nl
  have hns : ∀ x ∈ p.now.map secC, x.length = 64 := fun x hx => by
    obtain ⟨s, hs, rfl⟩ := List.mem_map.1 hx
    rw [secC_len]
    exact hp.ns s hs
  obtain ⟨s0, hs0⟩ : ∃ s0, p.now[q]? = some s0 := ⟨p.now[q]'(by omega), List.getElem?_eq_getElem (by omega)⟩
  have hs1 : (p.now.map secC)[q]? = some (secC s0) := by rw [List.getElem?_map, hs0]; rfl
  have hsl : s0.length = 64 := hp.ns s0 (List.mem_of_getElem? hs0)
  unfold PlC
  repeat first
    | refine XC_region ?_
    | refine XC_seq ?_
    | refine XT_seq ?_
    | refine XC_skip ?_
    | refine Y_res (r_move rfl) rfl ?_
    | refine Y_res (r_field' rfl) rfl ?_
    | refine Y_res (r_nilCheck rfl) rfl ?_
    | refine Y_res (r_loadB rfl rfl) rfl ?_
    | (refine X_allocI rfl ?_; intro _ _)
    | refine Y_res (r_indexV1 rfl rfl hq (Nat.le_refl _)) rfl ?_
    | refine Y_res (r_loadF rfl hns hs1) rfl ?_
  refine X_storeWI (ys := s0) rfl rfl hsl (by simp [hsl]) ?_
  repeat first
    | refine XC_region ?_
    | refine X_nil ?_
    | refine XC_seq ?_
    | refine XT_seq ?_
    | refine XC_ret ?_
    | refine Y_res (r_assign rfl) rfl ?_
    | refine Y_res (r_cutAll rfl) rfl ?_
  exact XT_ret2 (.inl rfl) Try.results36 rfl rfl (fun w' h => ⟨_, s0, hs0, rfl, h⟩)
end
end Go.Proofs.Ytgfpibojgkleiaa.NPl
