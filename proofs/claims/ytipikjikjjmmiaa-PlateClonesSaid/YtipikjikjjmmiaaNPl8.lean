/- The document's disk made safe, and revived: walked. -/
import Derived.Test.YtipikjikjjmmiaaNPl7
namespace Go.Proofs.Ytipikjikjjmmiaa.NPl
open Go Go.RowKit Go.Proofs.Ytipikjikjjmmiaa.MX
set_option linter.unusedVariables false
set_option linter.unusedSimpArgs false
set_option linter.unusedVariables false
/-- The rows that are safe behind the first j of the writes, of which some are kept. -/
def revI (k : Nat → Bool) (li : List (Nat × It)) (s : List It) : Nat → List It
  | 0 => s
  | j + 1 => match li[j]? with
    | some y => if k j then (revI k li s j).set y.1 y.2 else revI k li s j
    | none => revI k li s j
theorem revI_some {k : Nat → Bool} {li : List (Nat × It)} {s : List It} {j : Nat} {y : Nat × It} (h : li[j]? = some y) (hk : k j = true) : revI k li s (j + 1) = (revI k li s j).set y.1 y.2 := by
  show (match li[j]? with | some y => _ | none => _) = _
  rw [h]
  simp [hk]
theorem revI_not {k : Nat → Bool} {li : List (Nat × It)} {s : List It} {j : Nat} (hk : k j = false) : revI k li s (j + 1) = revI k li s j := by
  show (match li[j]? with | some y => _ | none => _) = _
  split <;> simp [hk]
theorem rfok_rev {p : Pl} {si : List It} {li : List (Nat × It)} (k : Nat → Bool) (h : RfOk p si li) : ∀ j, j ≤ p.loose.length → RfOk { p with safe := revS k p.loose p.safe j } (revI k li si j) li
  | 0, _ => h
  | j + 1, hj => by
    have ih := rfok_rev k h j (by omega)
    cases hk : k j with
    | false => rw [revS_not hk, revI_not hk]; exact ih
    | true =>
      obtain ⟨x, hx⟩ : ∃ x, p.loose[j]? = some x := ⟨p.loose[j]'(by omega), List.getElem?_eq_getElem _⟩
      obtain ⟨y, hy⟩ : ∃ y, li[j]? = some y := ⟨li[j]'(by rw [h.ll]; omega), List.getElem?_eq_getElem _⟩
      obtain ⟨e1, B, d, e2⟩ := h.la j y x hy hx
      rw [revS_some hx hk, revI_some hy hk]
      refine ⟨by rw [List.length_set]; exact ih.sl, ih.ll, fun i it s h1 h2 => ?_, ih.la⟩
      have h2 : ((revS k p.loose p.safe j).set x.1 x.2)[i]? = some s := h2
      by_cases hi : x.1 = i
      · rw [e1, hi, List.getElem?_set, if_pos rfl] at h1
        rw [hi, List.getElem?_set, if_pos rfl] at h2
        split at h1
        · split at h2
          · obtain rfl := Option.some.inj h1
            obtain rfl := Option.some.inj h2
            exact .inr ⟨B, d, e2⟩
          · cases h2
        · cases h1
      · rw [e1, List.getElem?_set, if_neg hi] at h1
        rw [List.getElem?_set, if_neg hi] at h2
        exact ih.sa i it s h1 h2
theorem rw_at {li : List (Nat × It)} {j : Nat} {y : Nat × It} (h : li[j]? = some y) : (li.map rwC).flatten[j * 2]? = some (.int .i64 y.1) ∧ (li.map rwC).flatten[j * 2 + 1]? = some y.2.val := by
  obtain ⟨pre, post, e1, e2, _⟩ := flat_split (L := li.map rwC) (i := j) (us := rwC y) rwC_len (by rw [List.getElem?_map, h]; rfl)
  rw [e1, ← e2]
  constructor
  · rw [List.getElem?_append_right (Nat.le_refl _), Nat.sub_self]; rfl
  · rw [List.getElem?_append_right (by omega), Nat.add_sub_cancel_left]; rfl
theorem Hp_si {w0 w : World} {TS : Nat → Prop} {x y z : Ch} {es : List Ch} {si sj : List It} {ls : List It} {q : Nat} {it : It} (h : Hp w0 TS (x :: y :: z :: Ch.bagN (si ++ ls) :: es) w) (hs : sj = si.set q it) (hit : it ∈ ls) : Hp w0 TS (x :: y :: z :: Ch.bagN (sj ++ ls) :: es) w := by
  have h1 := h.of_perm (List.perm_middle (l₁ := [x, y, z]))
  have h2 := h1.bagNSub (jts := sj ++ ls) (fun t ht => by
    rcases List.mem_append.1 ht with ht | ht
    · rw [hs] at ht
      rcases List.mem_or_eq_of_mem_set ht with ht | ht
      · exact List.mem_append_left _ ht
      · exact List.mem_append_right _ (ht ▸ hit)
    · exact List.mem_append_right _ ht)
  exact h2.of_perm (List.perm_middle (l₁ := [x, y, z])).symm
theorem noLooseR {w0 w : World} {TS : Nat → Prop} {b x z : Ch} {es : List Ch} {si ls : List It} (T : TypeId) (h : Hp w0 TS (b :: x :: z :: Ch.bagN (si ++ ls) :: es) w) : Hp w0 TS (b :: x :: Ch.sv none 0 T 2 0 [] :: Ch.bagN (si ++ []) :: es) w := by
  have h1 := ((Hp.sublist h (.cons_cons _ (.cons_cons _ (.cons _ (List.Sublist.refl _))))).nilV T 2).of_perm (List.perm_middle (l₁ := [b, x])).symm
  have h2 := h1.of_perm (List.perm_middle (l₁ := [b, x, Ch.sv none 0 T 2 0 []]))
  have h3 := h2.bagNSub (jts := si ++ []) (fun t ht => by rw [List.append_nil] at ht; exact List.mem_append_left _ ht)
  exact h3.of_perm (List.perm_middle (l₁ := [b, x, Ch.sv none 0 T 2 0 []])).symm
section
variable {g : Nat} {a : Rd} {p : Pl} {w w0 : World} {TS : Nat → Prop} {es : List Ch} {si : List It} {li : List (Nat × It)}
set_option maxRecDepth 100000 in
set_option maxHeartbeats 4000000 in
theorem rsync_any (hT : Hp w0 TS (RfC g a p si li es) w) (hp : PlOk p) (hf : RfOk p si li) :
    Calls Try.prog 29 #[.pointer (some ⟨g, 0, none⟩)] w fun e w' => ∃ a' si' li', e = .returned (.int .i64 (syncP p).2) ∧ Hp w0 TS (RfC g a' (syncP p).1 si' li' es) w' ∧ RfOk (syncP p).1 si' li' := by
  refine calls_of_X (vs := [_]) (M := Hp w0 TS (RfC g a p si li es)) Try.func29 rfl Try.ntmps29 rfl hT ?_
  have hT2 : ∀ w, Hp w0 TS (RfC g a p si li es) w → Hp w0 TS (RfC g a p si li es) w := fun _ h => h
  obtain ⟨f1, f2, f3, f4⟩ := stepP_same p
  unfold RfC at hT2 ⊢
  repeat first
    | refine XC_region ?_
    | refine X_nil ?_
    | refine XC_seq ?_
    | refine XT_seq ?_
    | refine Y_res (r_move rfl) rfl ?_
    | refine Y_res (r_assign rfl) rfl ?_
    | refine Y_res (r_field' rfl) rfl ?_
    | refine Y_res (r_nilCheck rfl) rfl ?_
    | refine Y_res (r_loadB rfl rfl) rfl ?_
  refine Y_splitB rfl rfl (fun h1 => ?_) (fun h1 => ?_)
  · have e1 : syncP p = (p, 50) := if_pos h1
    rw [e1]
    repeat first
      | refine XC_region ?_
      | refine X_nil ?_
      | refine XC_condT rfl ?_
      | refine XC_seq ?_
      | refine XT_seq ?_
      | refine XT_then_ret ?_
      | refine XC_ret ?_
      | refine Y_res (r_assign rfl) rfl ?_
      | refine Y_off rfl rfl rfl ?_
      | refine Y_res (r_pickT rfl rfl) rfl ?_
    exact XT_ret1 (.inl rfl) Try.results29 rfl (fun w' h => ⟨a, si, li, rfl, h, hf⟩)
  repeat first
    | refine Y_res (r_move rfl) rfl ?_
    | refine Y_on rfl rfl ?_
  refine X_call (g := 32) rfl rfl (fun w3 q3 => (rstep_any (hT2 _ q3) hp).mono ?_)
  rintro e w4 ⟨rfl, q4⟩
  refine ⟨_, rfl, _, q4, ?_⟩
  clear q3 q4
  repeat first
    | refine X_nil ?_
    | refine XT_seq ?_
    | refine Y_on rfl rfl ?_
    | refine Y_res (r_notB rfl) rfl ?_
    | refine Y_res (r_pickF rfl rfl) rfl ?_
  refine XC_condN rfl (fun h3 => ?_) (fun h3 => ?_)
  · have e1 : syncP p = ((stepP p).1, 50) := by rw [syncP, if_neg (by simp [h1]), if_pos h3]
    rw [e1]
    repeat first
      | refine XC_region ?_
      | refine X_nil ?_
      | refine XC_seq ?_
      | refine XT_seq ?_
      | refine XT_then_ret ?_
      | refine XC_ret ?_
      | refine Y_res (r_assign rfl) rfl ?_
    exact XT_ret1 (.inl rfl) Try.results29 rfl (fun w' h => ⟨a, si, li, rfl, h, ⟨by rw [f1]; exact hf.sl, by rw [f4]; exact hf.ll, by rw [f2]; exact hf.sa, by rw [f4]; exact hf.la⟩⟩)
  have e1 : syncP p = ({ (stepP p).1 with safe := revS (fun _ => true) p.loose p.safe p.loose.length, loose := [] }, 0) := by rw [syncP, if_neg (by simp [h1]), if_neg (by simp [h3])]
  rw [e1]
  clear e1
  have hf1 : RfOk (stepP p).1 si li := ⟨by rw [f1]; exact hf.sl, by rw [f4]; exact hf.ll, by rw [f2]; exact hf.sa, by rw [f4]; exact hf.la⟩
  obtain ⟨p1, hp1⟩ : ∃ p1, p1 = (stepP p).1 := ⟨_, rfl⟩
  rw [← hp1] at f1 f2 f3 f4 hf1 ⊢
  have hls : ∀ x ∈ p1.loose, x.1 < p1.n ∧ x.2.length = 64 := by rw [f4, f1]; exact hp.ls
  have hll : p1.loose.length ≤ 100000 := by rw [f4]; exact hp.ll
  rw [← f2, ← f4]
  clear hf f1 f2 f3 f4 hp1
  repeat first
    | refine XC_region ?_
    | refine X_nil ?_
    | refine XC_seq ?_
    | refine XT_seq ?_
    | refine XC_block ?_
    | refine XC_skip ?_
    | refine Y_res (r_assign rfl) rfl ?_
  refine XC_loop (ι := Nat) (fun j => j ≤ p1.loose.length) (fun j => [(0, .pointer (some ⟨g, 0, none⟩)), (3, .int .i64 j)]) (fun j => Hp w0 TS (RfC g a { p1 with safe := revS (fun _ => true) p1.loose p1.safe j } (revI (fun _ => true) li si j) li es)) (fun j => p1.loose.length - j) 0 (Nat.zero_le _) ⟨rfl, rfl, trivial⟩ (fun _ h => h) ?_
  intro j hj
  have hfj := rfok_rev (fun _ => true) hf1 j hj
  unfold RfC
  dsimp only
  repeat first
    | refine XC_region ?_
    | refine X_nil ?_
    | refine XC_seq ?_
    | refine XT_seq ?_
    | refine Y_res (r_move rfl) rfl ?_
    | refine Y_res (r_lss rfl rfl) rfl ?_
    | refine Y_res (r_len rfl) rfl ?_
    | refine Y_res (r_field' rfl) rfl ?_
    | refine Y_res (r_nilCheck rfl) rfl ?_
    | refine Y_res (r_loadB rfl rfl) rfl ?_
  refine XC_condP rfl (fun hlt => ?_) (fun hge => ?_)
  · have hj2 : j < p1.loose.length := by omega
    obtain ⟨x, hx⟩ : ∃ x, p1.loose[j]? = some x := ⟨p1.loose[j]'hj2, List.getElem?_eq_getElem hj2⟩
    obtain ⟨y, hy⟩ : ∃ y, li[j]? = some y := ⟨li[j]'(by rw [hf1.ll]; exact hj2), List.getElem?_eq_getElem _⟩
    obtain ⟨hq, hb⟩ := hls _ (List.mem_of_getElem? hx)
    have hyx := (hf1.la j y x hy hx).1
    obtain ⟨r1, r2⟩ := rw_at hy
    have hset := revI_some (k := fun _ => true) (s := si) hy rfl
    have hq2 : y.1 < p1.n := by rw [hyx]; exact hq
    have hsl : (revI (fun _ => true) li si j).length = p1.n := hfj.sl
    have hmv : ((revI (fun _ => true) li si j).map It.val).set y.1 y.2.val = (revI (fun _ => true) li si (j + 1)).map It.val := by rw [hset, List.map_set]
    repeat first
      | refine XC_seq ?_
      | refine XT_seq ?_
      | refine XC_block ?_
      | refine XC_skip ?_
    refine XC_tailF (by kernel_rfl) (by kernel_rfl) drw_hp ?_
    repeat first
      | refine XC_region ?_
      | refine X_nil ?_
      | refine XQ_nilX ?_
      | refine XT_seq ?_
      | refine XT_block_normal ?_
      | refine Y_res (r_move rfl) rfl ?_
      | refine Y_res (r_assign rfl) rfl ?_
      | refine Y_res (r_add64 rfl rfl (by omega)) rfl ?_
      | refine Y_res (r_field' rfl) rfl ?_
      | refine Y_res (r_nilCheck rfl) rfl ?_
      | refine Y_res (r_loadB rfl rfl) rfl ?_
      | refine Y_res (r_indexV1 (s := 2) rfl rfl hj2 (Nat.le_refl _)) rfl ?_
      | refine Y_res (r_loadV rfl r1) rfl ?_
      | refine Y_res (r_loadV rfl r2) rfl ?_
      | refine Y_res (r_indexV0 rfl rfl hq2 (Nat.le_refl _)) rfl ?_
      | refine X_storeV rfl rfl rfl (by rw [List.length_map, hsl]; exact hq2) ?_
    rw [hmv]
    exact XT_round (j + 1) hj2 (by omega) ⟨rfl, rfl, trivial⟩ (fun _ h => Hp_si h hset (List.mem_map.2 ⟨y, List.mem_of_getElem? hy, rfl⟩))
  · obtain rfl : j = p1.loose.length := by omega
    repeat first
      | refine XC_region ?_
      | refine X_nil ?_
      | refine XC_seq ?_
      | refine XT_seq ?_
      | refine XT_block_same rfl ?_
      | refine XT_then_exit ?_
      | refine XC_exit ?_
      | refine XC_ret ?_
      | refine Y_res (r_move rfl) rfl ?_
      | refine Y_res (r_assign rfl) rfl ?_
      | refine Y_res (r_field' rfl) rfl ?_
      | refine Y_res (r_nilCheck rfl) rfl ?_
      | refine X_storeB rfl rfl rfl (by simp) ?_
    exact XT_ret1 (.inl rfl) Try.results29 rfl (fun w' h => ⟨{ a with Lo := none, lc := 0 }, _, [], rfl, noLooseR 69 h, ⟨hfj.sl, rfl, hfj.sa, fun i y x h1 => by simp at h1⟩⟩)
end
end Go.Proofs.Ytipikjikjjmmiaa.NPl
