/- A disk made safe, and revived: walked. -/
import Derived.Test.YtgfpibojgkleiaaNPl2
namespace Go.Proofs.Ytgfpibojgkleiaa.NPl
open Go Go.RowKit Go.Proofs.Ytgfpibojgkleiaa.MX
set_option linter.unusedVariables false
set_option linter.unusedSimpArgs false
set_option linter.unusedVariables false
/-- What is safe behind the first j of the writes, of which some are kept. -/
def revS (k : Nat → Bool) (L : List (Nat × List Int)) (s : List (List Int)) : Nat → List (List Int)
  | 0 => s
  | j + 1 => match L[j]? with
    | some x => if k j then (revS k L s j).set x.1 x.2 else revS k L s j
    | none => revS k L s j
theorem revS_len (k : Nat → Bool) (L : List (Nat × List Int)) (s : List (List Int)) : ∀ j, (revS k L s j).length = s.length
  | 0 => rfl
  | j + 1 => by
    unfold revS
    split
    · split
      · rw [List.length_set, revS_len]
      · exact revS_len k L s j
    · exact revS_len k L s j
theorem revS_64 {k : Nat → Bool} {L : List (Nat × List Int)} {s : List (List Int)} (h1 : ∀ x ∈ s, x.length = 64) (h2 : ∀ x ∈ L, x.2.length = 64) : ∀ j, ∀ x ∈ revS k L s j, x.length = 64
  | 0 => h1
  | j + 1 => by
    intro x hx
    unfold revS at hx
    split at hx
    · rename_i y hy
      split at hx
      · rcases List.mem_or_eq_of_mem_set hx with hx | hx
        · exact revS_64 h1 h2 j x hx
        · rw [hx]; exact h2 y (List.mem_of_getElem? hy)
      · exact revS_64 h1 h2 j x hx
    · exact revS_64 h1 h2 j x hx
theorem revS_some {k : Nat → Bool} {L : List (Nat × List Int)} {s : List (List Int)} {j : Nat} {x : Nat × List Int} (h : L[j]? = some x) (hk : k j = true) : revS k L s (j + 1) = (revS k L s j).set x.1 x.2 := by
  show (match L[j]? with | some x => _ | none => _) = _
  rw [h]
  simp [hk]
theorem revS_not {k : Nat → Bool} {L : List (Nat × List Int)} {s : List (List Int)} {j : Nat} (hk : k j = false) : revS k L s (j + 1) = revS k L s j := by
  show (match L[j]? with | some x => _ | none => _) = _
  split <;> simp [hk]
def syncP (p : Pl) : Pl × Int := if p.down = true then (p, 50) else if (stepP p).2 = false then ((stepP p).1, 50) else ({ (stepP p).1 with safe := revS (fun _ => true) p.loose p.safe p.loose.length, loose := [] }, 0)
def revP (p : Pl) (ks : List Bool) : Pl := { p with safe := revS (fun j => ks.getD j false) p.loose p.safe p.loose.length, now := revS (fun j => ks.getD j false) p.loose p.safe p.loose.length, loose := [], left := -1, down := false }
section
variable {g : Nat} {a : Ad} {p : Pl} {w w0 : World} {TS : Nat → Prop} {es : List Ch}
theorem sec64 {L : List (List Int)} (h : ∀ s ∈ L, s.length = 64) : ∀ x ∈ L.map secC, x.length = 64 := fun x hx => by
  obtain ⟨s, hs, rfl⟩ := List.mem_map.1 hx
  rw [secC_len]
  exact h s hs
theorem wr65 {L : List (Nat × List Int)} (h : ∀ x ∈ L, x.2.length = 64) : ∀ x ∈ L.map wrC, x.length = 65 := fun x hx => by
  obtain ⟨s, hs, rfl⟩ := List.mem_map.1 hx
  show (secC s.2).length + 1 = 65
  rw [secC_len, h s hs]
theorem noLoose {b x y z : Ch} (T : TypeId) (h : Hp w0 TS (b :: x :: y :: z :: es) w) : Hp w0 TS (b :: x :: y :: Ch.sv none 0 T 65 0 [] :: es) w :=
  ((Hp.sublist h (.cons_cons _ (.cons_cons _ (.cons_cons _ (.cons _ (List.Sublist.refl _)))))).nilV T 65).of_perm (List.perm_middle (l₁ := [b, x, y])).symm
theorem secs_one {L : List (List Int)} : ∀ v ∈ (L.map secC).flatten, v.oneCell' = true := fun v hv => by
  obtain ⟨l, hl, hv⟩ := List.mem_flatten.1 hv
  obtain ⟨s, hs, rfl⟩ := List.mem_map.1 hl
  exact secC_one s v hv
set_option maxRecDepth 100000 in
set_option maxHeartbeats 4000000 in
theorem sync_any (hT : Hp w0 TS (PlC g a p es) w) (hp : PlOk p) :
    Calls Try.prog 33 #[.pointer (some ⟨g, 0, none⟩)] w fun e w' => ∃ a', e = .returned (.int .i64 (syncP p).2) ∧ Hp w0 TS (PlC g a' (syncP p).1 es) w' := by
  refine calls_of_X (vs := [_]) (M := Hp w0 TS (PlC g a p es)) Try.func33 rfl Try.ntmps33 rfl hT ?_
  have hT2 : ∀ w, Hp w0 TS (PlC g a p es) w → Hp w0 TS (PlC g a p es) w := fun _ h => h
  unfold PlC at hT2 ⊢
  repeat first
    | refine XC_region ?_
    | refine X_nil ?_
    | refine XC_seq ?_
    | refine XT_seq ?_
    | refine Y_res (r_move rfl) rfl ?_
    | refine Y_res (r_assign rfl) rfl ?_
    | refine Y_res (r_field' rfl) rfl ?_
    | refine Y_res (r_nilCheck rfl) rfl ?_
    | refine Y_res (r_loadB rfl rfl) rfl ?_
  refine Y_splitB rfl rfl (fun h1 => ?_) (fun h1 => ?_)
  · have e1 : syncP p = (p, 50) := if_pos h1
    rw [e1]
    repeat first
      | refine XC_region ?_
      | refine X_nil ?_
      | refine XC_condT rfl ?_
      | refine XC_seq ?_
      | refine XT_seq ?_
      | refine XT_then_ret ?_
      | refine XC_ret ?_
      | refine Y_res (r_assign rfl) rfl ?_
      | refine Y_off rfl rfl rfl ?_
      | refine Y_res (r_pickT rfl rfl) rfl ?_
    exact XT_ret1 (.inl rfl) Try.results33 rfl (fun w' h => ⟨a, rfl, h⟩)
  repeat first
    | refine Y_res (r_move rfl) rfl ?_
    | refine Y_on rfl rfl ?_
  refine X_call (g := 41) rfl rfl (fun w3 q3 => (step_any (hT2 _ q3) hp).mono ?_)
  rintro e w4 ⟨rfl, q4⟩
  refine ⟨_, rfl, _, q4, ?_⟩
  clear q3 q4
  repeat first
    | refine X_nil ?_
    | refine XT_seq ?_
    | refine Y_on rfl rfl ?_
    | refine Y_res (r_notB rfl) rfl ?_
    | refine Y_res (r_pickF rfl rfl) rfl ?_
  refine XC_condN rfl (fun h3 => ?_) (fun h3 => ?_)
  · have e1 : syncP p = ((stepP p).1, 50) := by rw [syncP, if_neg (by simp [h1]), if_pos h3]
    rw [e1]
    repeat first
      | refine XC_region ?_
      | refine X_nil ?_
      | refine XC_seq ?_
      | refine XT_seq ?_
      | refine XT_then_ret ?_
      | refine XC_ret ?_
      | refine Y_res (r_assign rfl) rfl ?_
    exact XT_ret1 (.inl rfl) Try.results33 rfl (fun w' h => ⟨a, rfl, h⟩)
  have e1 : syncP p = ({ (stepP p).1 with safe := revS (fun _ => true) p.loose p.safe p.loose.length, loose := [] }, 0) := by rw [syncP, if_neg (by simp [h1]), if_neg (by simp [h3])]
  rw [e1]
  clear e1
  obtain ⟨f1, f2, f3, f4⟩ := stepP_same p
  obtain ⟨p1, hp1⟩ : ∃ p1, p1 = (stepP p).1 := ⟨_, rfl⟩
  rw [← hp1] at f1 f2 f3 f4 ⊢
  have hsl : p1.safe.length = p1.n := by rw [f2, f1]; exact hp.sl
  have hss : ∀ s ∈ p1.safe, s.length = 64 := by rw [f2]; exact hp.ss
  have hls : ∀ x ∈ p1.loose, x.1 < p1.n ∧ x.2.length = 64 := by rw [f4, f1]; exact hp.ls
  have hll : p1.loose.length ≤ 100000 := by rw [f4]; exact hp.ll
  rw [← f2, ← f4]
  unfold PlC
  repeat first
    | refine XC_region ?_
    | refine X_nil ?_
    | refine XC_seq ?_
    | refine XT_seq ?_
    | refine XC_block ?_
    | refine XC_skip ?_
    | refine Y_res (r_move rfl) rfl ?_
    | refine Y_res (r_len rfl) rfl ?_
    | refine Y_res (r_field' rfl) rfl ?_
    | refine Y_res (r_nilCheck rfl) rfl ?_
    | refine Y_res (r_loadB rfl rfl) rfl ?_
  refine XC_loop (ι := Nat) (fun j => j ≤ p1.loose.length) (fun j => [(0, .pointer (some ⟨g, 0, none⟩)), (17, .slice a.Lo p1.loose.length a.lc), (18, .int .i64 p1.loose.length), (19, .int .i64 j)]) (fun j => Hp w0 TS (PlC g a { p1 with safe := revS (fun _ => true) p1.loose p1.safe j } es)) (fun j => p1.loose.length - j) 0 (Nat.zero_le _) ⟨rfl, rfl, rfl, rfl, trivial⟩ (fun _ h => h) ?_
  intro j hj
  repeat first
    | refine XC_region ?_
    | refine X_nil ?_
    | refine XC_seq ?_
    | refine XT_seq ?_
    | refine Y_res (r_lss rfl rfl) rfl ?_
  refine XC_condP rfl (fun hlt => ?_) (fun hge => ?_)
  · have hj2 : j < p1.loose.length := by omega
    obtain ⟨⟨q, b⟩, hqb⟩ : ∃ x, p1.loose[j]? = some x := ⟨p1.loose[j]'hj2, List.getElem?_eq_getElem hj2⟩
    obtain ⟨hq, hb⟩ := hls _ (List.mem_of_getElem? hqb)
    have hw : (p1.loose.map wrC)[j]? = some (wrC (q, b)) := by rw [List.getElem?_map, hqb]; rfl
    have hw65 := wr65 fun x hx => (hls x hx).2
    have hwl : (wrC (q, b)).length = 65 := by show (secC b).length + 1 = 65; rw [secC_len]; exact congrArg (· + 1) hb
    have hrl := revS_len (fun _ => true) p1.loose p1.safe j
    have hr64 := sec64 (revS_64 (k := fun _ => true) hss (fun x hx => (hls x hx).2) j)
    obtain ⟨s0, hs0⟩ : ∃ s0, (revS (fun _ => true) p1.loose p1.safe j)[q]? = some s0 := ⟨(revS (fun _ => true) p1.loose p1.safe j)[q]'(by rw [hrl]; omega), List.getElem?_eq_getElem _⟩
    have hs1 : ((revS (fun _ => true) p1.loose p1.safe j).map secC)[q]? = some (secC s0) := by rw [List.getElem?_map, hs0]; rfl
    have hset : ((revS (fun _ => true) p1.loose p1.safe j).map secC).set q (secC b) = (revS (fun _ => true) p1.loose p1.safe (j + 1)).map secC := by rw [revS_some (k := fun _ => true) hqb rfl, List.map_set]
    unfold PlC
    dsimp only
    repeat first
      | refine XC_region ?_
      | refine X_nil ?_
      | refine XC_seq ?_
      | refine XT_seq ?_
      | refine XC_block ?_
      | refine XC_skip ?_
      | refine Y_res (r_indexV1 rfl rfl hj2 (Nat.le_refl _)) rfl ?_
      | refine Y_res (r_loadF rfl hw65 hw) rfl ?_
      | (refine X_allocB rfl rfl ?_; intro g1 hg1)
      | refine X_storeW rfl rfl hwl (by rw [hwl]; rfl) (wrC_one _) ?_
    refine XC_tailF (by kernel_rfl) (by kernel_rfl) drw_hp ?_
    repeat first
      | refine XC_region ?_
      | refine X_nil ?_
      | refine XQ_nilX ?_
      | refine XT_seq ?_
      | refine XT_block_normal ?_
      | refine Y_res (r_move rfl) rfl ?_
      | refine Y_res (r_add64 rfl rfl (by omega)) rfl ?_
      | refine Y_res (r_field' rfl) rfl ?_
      | refine Y_res (r_nilCheck rfl) rfl ?_
      | refine Y_res (r_loadB rfl rfl) rfl ?_
      | refine Y_res (r_loadPB (pre := [.int .i64 q]) (us := secC b) (post := []) rfl (by rw [secC_len]; exact hb) (by simp [wrC]) rfl) rfl ?_
      | refine Y_res (r_indexV1 rfl rfl hq (Nat.le_refl _)) rfl ?_
      | refine X_storeF rfl rfl (by rw [secC_len]; exact hb) (secC_one b) hr64 hs1 (by decide) ?_
    rw [hset]
    exact XT_round (j + 1) hj2 (by omega) ⟨rfl, rfl, rfl, rfl, trivial⟩ (fun _ h => h.tail)
  · obtain rfl : j = p1.loose.length := by omega
    unfold PlC
    dsimp only
    repeat first
      | refine XC_region ?_
      | refine X_nil ?_
      | refine XC_seq ?_
      | refine XT_seq ?_
      | refine XT_block_same rfl ?_
      | refine XT_then_exit ?_
      | refine XC_exit ?_
      | refine XC_ret ?_
      | refine Y_res (r_move rfl) rfl ?_
      | refine Y_res (r_assign rfl) rfl ?_
      | refine Y_res (r_field' rfl) rfl ?_
      | refine Y_res (r_nilCheck rfl) rfl ?_
      | refine X_storeB rfl rfl rfl (by simp) ?_
    exact XT_ret1 (.inl rfl) Try.results33 rfl (fun w' h => ⟨{ a with Lo := none, lc := 0 }, rfl, noLoose 76 h⟩)
set_option maxRecDepth 100000 in
set_option maxHeartbeats 4000000 in
theorem revive_any (ks : List Bool) (K : Option Addr) (kc : Nat) (hT : Hp w0 TS (PlC g a p es) w) (hp : PlOk p) (hk : ∀ (cs : List Ch) w1, Hp w0 TS (cs ++ es) w1 → RdV w1 K kc 1 ks.length (ks.map Value.bool)) :
    Calls Try.prog 24 #[.pointer (some ⟨g, 0, none⟩), .slice K ks.length kc] w fun e w' => ∃ a', e = .returned (.tuple #[]) ∧ Hp w0 TS (PlC g a' (revP p ks) es) w' := by
  refine calls_of_X (vs := [_, _]) (M := Hp w0 TS (PlC g a p es)) Try.func24 rfl Try.ntmps24 rfl hT ?_
  have hk0 := hk [_, _, _, _] _ hT
  have hkc := hk0.le
  have hkm := hk0.cap
  have hsl := hp.sl
  have hnl := hp.nl
  have hnlo := hp.lo
  have hss := hp.ss
  have hls := hp.ls
  have hll := hp.ll
  unfold PlC
  repeat first
    | refine XC_region ?_
    | refine X_nil ?_
    | refine XC_seq ?_
    | refine XT_seq ?_
    | refine XC_block ?_
    | refine Y_res (r_move rfl) rfl ?_
    | refine Y_res (r_len rfl) rfl ?_
    | refine Y_res (r_field' rfl) rfl ?_
    | refine Y_res (r_nilCheck rfl) rfl ?_
    | refine Y_res (r_loadB rfl rfl) rfl ?_
  refine XC_loop (ι := Nat) (fun j => j ≤ p.loose.length) (fun j => [(0, .pointer (some ⟨g, 0, none⟩)), (1, .slice K ks.length kc), (9, .slice a.Lo p.loose.length a.lc), (10, .int .i64 p.loose.length), (11, .int .i64 j)]) (fun j => Hp w0 TS (PlC g a { p with safe := revS (fun j => ks.getD j false) p.loose p.safe j } es)) (fun j => p.loose.length - j) 0 (Nat.zero_le _) ⟨rfl, rfl, rfl, rfl, rfl, trivial⟩ (fun _ h => h) ?_
  intro j hj
  repeat first
    | refine XC_region ?_
    | refine X_nil ?_
    | refine XC_seq ?_
    | refine XT_seq ?_
    | refine Y_res (r_lss rfl rfl) rfl ?_
  refine XC_condP rfl (fun hlt => ?_) (fun hge => ?_)
  · have hj2 : j < p.loose.length := by omega
    obtain ⟨⟨q, b⟩, hqb⟩ : ∃ x, p.loose[j]? = some x := ⟨p.loose[j]'hj2, List.getElem?_eq_getElem hj2⟩
    obtain ⟨hq, hb⟩ := hls _ (List.mem_of_getElem? hqb)
    have hw : (p.loose.map wrC)[j]? = some (wrC (q, b)) := by rw [List.getElem?_map, hqb]; rfl
    have hw65 := wr65 fun x hx => (hls x hx).2
    have hwl : (wrC (q, b)).length = 65 := by show (secC b).length + 1 = 65; rw [secC_len]; exact congrArg (· + 1) hb
    obtain ⟨kf, hkf⟩ : ∃ kf, kf = fun j => ks.getD j false := ⟨_, rfl⟩
    rw [← hkf]
    have hrl := revS_len kf p.loose p.safe j
    have hr64 := sec64 (revS_64 (k := kf) hss (fun x hx => (hls x hx).2) j)
    obtain ⟨s0, hs0⟩ : ∃ s0, (revS kf p.loose p.safe j)[q]? = some s0 := ⟨(revS kf p.loose p.safe j)[q]'(by rw [hrl]; omega), List.getElem?_eq_getElem _⟩
    have hs1 : ((revS kf p.loose p.safe j).map secC)[q]? = some (secC s0) := by rw [List.getElem?_map, hs0]; rfl
    unfold PlC
    dsimp only
    repeat first
      | refine XC_region ?_
      | refine X_nil ?_
      | refine XC_seq ?_
      | refine XT_seq ?_
      | refine XC_block ?_
      | refine XC_skip ?_
      | refine Y_res (r_move rfl) rfl ?_
      | refine Y_res (r_assign rfl) rfl ?_
      | refine Y_res (r_lss rfl rfl) rfl ?_
      | refine Y_res (r_len rfl) rfl ?_
      | refine Y_res (r_indexV1 rfl rfl hj2 (Nat.le_refl _)) rfl ?_
      | refine Y_res (r_loadF rfl hw65 hw) rfl ?_
      | (refine X_allocB rfl rfl ?_; intro g1 hg1)
      | refine X_storeW rfl rfl hwl (by rw [hwl]; rfl) (wrC_one _) ?_
    refine Y_split rfl rfl (fun h3 => ?_) (fun h3 => ?_)
    · have h4 : j < ks.length := by omega
      obtain ⟨kb, hkb⟩ : ∃ kb, ks[j]? = some kb := ⟨ks[j]'h4, List.getElem?_eq_getElem h4⟩
      have hkv : kf j = kb := by rw [hkf]; simp [List.getD, hkb]
      repeat first
        | refine X_nil ?_
        | refine XT_seq ?_
        | refine Y_res (r_move rfl) rfl ?_
        | refine Y_on rfl rfl ?_
        | refine Y_res (r_pickT rfl rfl) rfl ?_
        | refine Y_res (r_indexRv rfl rfl hk0 h4 (by omega)) rfl ?_
        | refine Y_res (r_load (v := .bool kb) rfl (fun w1 h1 => (hk [_, _, _, _, _] w1 h1).at_ j _ (by rw [List.getElem?_map, hkb]; rfl))) rfl ?_
      refine XC_cond rfl (fun h5 => ?_) (fun h5 => ?_)
      · have hset : ((revS kf p.loose p.safe j).map secC).set q (secC b) = (revS kf p.loose p.safe (j + 1)).map secC := by rw [revS_some hqb (hkv.trans h5), List.map_set]
        skip
        refine XC_tailF (by kernel_rfl) (by kernel_rfl) drw_hp ?_
        repeat first
          | refine XC_region ?_
          | refine X_nil ?_
          | refine XQ_nilX ?_
          | refine XT_seq ?_
          | refine XT_block_normal ?_
          | refine Y_res (r_move rfl) rfl ?_
          | refine Y_res (r_add64 rfl rfl (by omega)) rfl ?_
          | refine Y_res (r_field' rfl) rfl ?_
          | refine Y_res (r_nilCheck rfl) rfl ?_
          | refine Y_res (r_loadB rfl rfl) rfl ?_
          | refine Y_res (r_loadPB (pre := [.int .i64 q]) (us := secC b) (post := []) rfl (by rw [secC_len]; exact hb) (by simp [wrC]) rfl) rfl ?_
          | refine Y_res (r_indexV1 rfl rfl hq (Nat.le_refl _)) rfl ?_
          | refine X_storeF rfl rfl (by rw [secC_len]; exact hb) (secC_one b) hr64 hs1 (by decide) ?_
        rw [hset, hkf]
        exact XT_round (j + 1) hj2 (by omega) ⟨rfl, rfl, rfl, rfl, rfl, trivial⟩ (fun _ h => h.tail)
      · have hset : revS kf p.loose p.safe j = revS kf p.loose p.safe (j + 1) := (revS_not (hkv.trans (by simpa using h5))).symm
        repeat first
          | refine XC_region ?_
          | refine X_nil ?_
          | refine XT_seq ?_
          | refine XT_block_normal ?_
          | refine XC_skip ?_
          | refine Y_res (r_move rfl) rfl ?_
          | refine Y_res (r_add64 rfl rfl (by omega)) rfl ?_
        rw [hset, hkf]
        exact XT_round (j + 1) hj2 (by omega) ⟨rfl, rfl, rfl, rfl, rfl, trivial⟩ (fun _ h => h.tail)
    · have hset : revS kf p.loose p.safe j = revS kf p.loose p.safe (j + 1) := (revS_not (by rw [hkf]; simp [List.getD, List.getElem?_eq_none (show ks.length ≤ j by omega)])).symm
      repeat first
        | refine XC_region ?_
        | refine X_nil ?_
        | refine XC_condF rfl ?_
        | refine XT_seq ?_
        | refine XT_block_normal ?_
        | refine XC_skip ?_
        | refine Y_res (r_move rfl) rfl ?_
        | refine Y_res (r_add64 rfl rfl (by omega)) rfl ?_
        | refine Y_off rfl rfl rfl ?_
        | refine Y_res (r_pickF rfl rfl) rfl ?_
      rw [hset, hkf]
      exact XT_round (j + 1) hj2 (by omega) ⟨rfl, rfl, rfl, rfl, rfl, trivial⟩ (fun _ h => h.tail)
  · obtain rfl : j = p.loose.length := by omega
    unfold PlC
    dsimp only
    repeat first
      | refine XC_region ?_
      | refine X_nil ?_
      | refine XC_seq ?_
      | refine XT_seq ?_
      | refine XT_block_same rfl ?_
      | refine XT_then_exit ?_
      | refine XC_exit ?_
      | refine Y_res (r_move rfl) rfl ?_
      | refine Y_res (r_field' rfl) rfl ?_
      | refine Y_res (r_nilCheck rfl) rfl ?_
      | refine X_storeB rfl rfl rfl (by simp) ?_
    refine XC_tailF (by kernel_rfl) (by kernel_rfl) drw_hp ?_
    repeat first
      | refine X_nil ?_
      | refine XQ_nilX ?_
      | refine Y_res (r_move rfl) rfl ?_
      | refine Y_res (r_field' rfl) rfl ?_
      | refine Y_res (r_nilCheck rfl) rfl ?_
      | refine Y_res (r_loadB rfl rfl) rfl ?_
      | refine X_copyF rfl rfl (fun w1 h1 => rdv_sv (h1.sat _ (List.mem_cons_of_mem _ (List.mem_cons_self ..)))) secs_one (by omega) rfl ?_
    exact XT_ret0 (.inr rfl) Try.results24 (fun w' h => ⟨{ a with Lo := none, lc := 0 }, rfl, noLoose 76 h⟩)
end
end Go.Proofs.Ytgfpibojgkleiaa.NPl
