/- Roots, paths, bridges of a tree, and the document's: walked. -/
import Derived.Test.YtgnhpkdhicfeiaaDoorNMk5
namespace Go.Proofs.YtgnhpkdhicfeiaaDoor.NMk
open Go Go.RowKit Go.Proofs.YtgnhpkdhicfeiaaDoor.MX Go.Proofs.YtgnhpkdhicfeiaaDoor.PSha Go.Proofs.YtgnhpkdhicfeiaaDoor.NSha Go.Proofs.YtgnhpkdhicfeiaaDoor.PMerkle
set_option linter.unusedVariables false
set_option linter.unusedSimpArgs false
set_option linter.unusedVariables false
/-- A list of one's own, and whether there is one. -/
def TellsO (e : TypeId) (k : IntKind) (w : World) (o : Option (List Int)) : Ending → World → Prop := fun en w' => ∃ v, en = .returned (.tuple #[v, .bool o.isSome]) ∧ NewS e k w w' (o.getD []) v ∧ Chg (fun _ => False) w w'
/-- Lists of one's own: all new. -/
def TellsR (w : World) (L : List (List Int)) : Ending → World → Prop := fun en w' => ∃ A c js, en = .returned (.slice A L.length c) ∧ JOk .u8 js L ∧ Hp w (fun _ => False) [Ch.sv A c 34 1 L.length (js.map It.val), Ch.bagN js] w'
section
variable {P : Program} {n : Nat} {R : Regs} {w0 : World} {cs : List Ch} {E : TypeId} {k : IntKind} {o : Option (List Int)} {e : Exit} {fn : Func} {t1 t2 : Nat}
theorem XT_tellsN (he : e = .ret ∨ e = .normal) (hr : fn.results = #[.tmp t1, .tmp t2]) (h1 : R.get t1 = some (.slice none 0 0)) (h2 : R.get t2 = some (.bool false)) (ho : o = none) :
    XT n (bodyPost P fn (TellsO E k w0 o)) e R (Hp w0 (fun _ => False) cs) := XT_ret2 he hr h1 h2 fun w hw => by
  subst ho
  exact ⟨_, rfl, ⟨none, 0, rfl, World.ownsRow_nil w 0 E 1, fun j hj => by cases (show (none : Option Nat) = some j from hj)⟩, hw.chg⟩
theorem XT_tellsS {A : Option Addr} {cap l : Nat} {xs : List Int} {put : Ch → List Ch} (he : e = .ret ∨ e = .normal) (hr : fn.results = #[.tmp t1, .tmp t2]) (h1 : R.get t1 = some (.slice A l cap)) (h2 : R.get t2 = some (.bool true)) (hl : l = xs.length) [h : PkS A cs cap E k xs put] (ho : o = some xs) :
    XT n (bodyPost P fn (TellsO E k w0 o)) e R (Hp w0 (fun _ => False) cs) := XT_ret2 he hr h1 h2 fun w hw => by
  subst ho
  subst hl
  refine ⟨_, rfl, ⟨A, cap, rfl, h.has hw, fun j hj => ?_⟩, hw.chg⟩
  obtain ⟨rest, h3, _⟩ := h.ok
  exact ((hw.of_perm h3).own _ (List.mem_cons_self ..) j hj).resolve_left (fun h => h)
end
/-- The root of the first n, if there are so many. -/
def rootO (l : List (List Int)) (n : Int) : Option (List Int) := if 0 ≤ n ∧ n ≤ l.length then some (rootL (l.take n.toNat)) else none
theorem fits0 (n : Nat) : Fits 0 n := ⟨n, 0, by omega, Nat.le_of_lt Nat.lt_two_pow_self⟩
set_option maxHeartbeats 2000000 in
theorem rootx_any (l : List (List Int)) (g : Nat) (n : Int) (w : World) (hT : TreeAt w g l) (hl : l.length ≤ 100) (h32 : ∀ x ∈ l, x.length = 32) (hK : KAt KS w) (hZ : TzAt w) (hn : (Lit.int .i64 n).wf = true) :
    Calls Tryd.prog 17 #[.pointer (some ⟨g, 0, none⟩), .int .i64 n] w (TellsO 5 .u8 w (rootO l n)) := by
  refine calls_of_X (vs := [_, _]) (M := Hp w (fun _ => False) []) Tryd.func17 rfl Tryd.ntmps17 rfl (Hp.nil _ _) ?_
  repeat first
    | refine XC_region ?_
    | refine X_nil ?_
    | refine XC_seq ?_
    | refine XT_seq ?_
    | refine Y_res (r_move rfl) rfl ?_
    | refine Y_res (r_assign rfl) rfl ?_
    | refine Y_res (r_lss rfl rfl) rfl ?_
  refine Y_split rfl rfl (fun h1 => ?_) (fun h1 => ?_)
  · repeat first
      | refine XC_region ?_
      | refine X_nil ?_
      | refine XC_condT rfl ?_
      | refine XC_seq ?_
      | refine XT_seq ?_
      | refine XT_then_ret ?_
      | refine XC_ret ?_
      | refine Y_res (r_assign rfl) rfl ?_
      | refine Y_off rfl rfl rfl ?_
      | refine Y_res (r_pickT rfl rfl) rfl ?_
    exact XT_tellsN (.inl rfl) Tryd.results17 rfl rfl (if_neg (by omega))
  repeat first
    | refine X_nil ?_
    | refine XT_seq ?_
    | refine Y_res (r_move rfl) rfl ?_
    | refine Y_res (r_gtr rfl rfl) rfl ?_
    | refine Y_on rfl rfl ?_
    | refine Y_res (r_pickF rfl rfl) rfl ?_
    | refine Y_says (g := 18) rfl rfl (fun w1 hM => size_any l g w1 (hT.keep hM.chg) (by omega)) ?_
  refine XC_condP rfl (fun h2 => ?_) (fun h2 => ?_)
  · repeat first
      | refine XC_region ?_
      | refine X_nil ?_
      | refine XC_seq ?_
      | refine XT_seq ?_
      | refine XT_then_ret ?_
      | refine XC_ret ?_
      | refine Y_res (r_assign rfl) rfl ?_
    exact XT_tellsN (.inl rfl) Tryd.results17 rfl rfl (if_neg (by omega))
  obtain ⟨m, rfl⟩ : ∃ m : Nat, n = m := ⟨n.toNat, by omega⟩
  have e0 : rootO l m = some (rootL (segL l 0 (0 + m))) := by
    rw [rootO, if_pos ⟨by omega, by omega⟩, Nat.zero_add, segL_all]; rfl
  rw [e0]
  repeat first
    | refine XC_region ?_
    | refine XC_seq ?_
    | refine XT_seq ?_
    | refine XC_skip ?_
    | refine Y_res (r_move rfl) rfl ?_
    | refine X_tellsB (g := 31) (k := .u8) (xs := rootL (segL l 0 (0 + m))) rfl rfl (fun w1 hM => by have := hash_any l g hl h32 m 0 w w1 (by omega) (fits0 m) hT hK hZ hM.chg; rwa [Nat.zero_add] at this ⊢) ?_
  intro B1 b1 z1 hz1
  have hz1l : z1.length = 32 := by rw [hz1]; exact rootL_len fun x hx => h32 x (segL_mem hx)
  repeat first
    | refine X_tells (g := 30) (E := 5) (k := .u8) (z := z1) rfl rfl (fun w1 hM => clone_any z1 _ _ w1 (rds_bag hM.head hM.chg (List.mem_singleton.2 rfl)) (by omega)) ?_
  intro A3 c3 x3 h3
  subst h3
  repeat first
    | refine X_nil ?_
    | refine XT_seq ?_
    | refine XC_ret ?_
    | refine Y_res (r_assign rfl) rfl ?_
  exact XT_tellsS (.inl rfl) Tryd.results17 rfl rfl rfl (by rw [← hz1])
/-- What is left when a list has been put behind others. -/
theorem path_end {w w' : World} {g2 n : Nat} {T : TypeId} {us vs : List Value} {A3 A4 : Option Addr} {c3 c4 : Nat} {xs : List Int} {b : Ch} {js : List It} (h : Hp w (fun _ => False) (Ch.blk g2 us T :: Ch.sl A3 c3 5 .u8 xs :: b :: Ch.sv A4 c4 34 1 n vs :: Ch.bagN js :: []) w') :
    Hp w (fun _ => False) [Ch.sv A4 c4 34 1 n vs, Ch.bagN (js ++ [itI .u8 A3 c3 xs])] w' := by
  have k1 := (Hp.mv [_] h.tail).tail
  have k4 : Hp w (fun _ => False) (Ch.sv A3 c3 5 1 xs.length (xs.map (Value.int .u8)) :: Ch.bagN js :: _) w' := (Hp.mv [_, _] k1).swap
  exact (k4.bagNV.bagNSub (jts := js ++ [itI .u8 A3 c3 xs]) (fun it hit => by
      rcases List.mem_append.1 hit with hit | hit
      · exact List.mem_cons_of_mem _ hit
      · rw [List.mem_singleton.1 hit]; exact List.mem_cons_self ..)).swap
theorem pathL_1 {m : Nat} {l : List (List Int)} (h : l.length ≤ 1) : pathL m l = [] := by rw [pathL, dif_pos h]
theorem pathL_lo {m : Nat} {l : List (List Int)} (h : 2 ≤ l.length) (hm : m < cutN l.length) : pathL m l = pathL m (l.take (cutN l.length)) ++ [rootL (l.drop (cutN l.length))] := by rw [pathL, dif_neg (by omega), if_pos hm]
theorem pathL_hi {m : Nat} {l : List (List Int)} (h : 2 ≤ l.length) (hm : ¬ m < cutN l.length) : pathL m l = pathL (m - cutN l.length) (l.drop (cutN l.length)) ++ [rootL (l.take (cutN l.length))] := by rw [pathL, dif_neg (by omega), if_neg hm]
theorem pathL_len : ∀ (n : Nat) (m : Nat) (l : List (List Int)), l.length = n → (pathL m l).length ≤ n := by
  intro n
  induction n using Nat.strongRecOn with
  | ind n ih =>
  intro m l hl
  rcases Nat.lt_or_ge 1 l.length with h | h
  · obtain ⟨c1, c2, c3⟩ := cutN_bd (n := l.length) h
    by_cases hm : m < cutN l.length
    · rw [pathL_lo h hm, List.length_append, List.length_singleton]
      have := ih (cutN l.length) (by omega) m (l.take (cutN l.length)) (by rw [List.length_take]; omega)
      omega
    · rw [pathL_hi h hm, List.length_append, List.length_singleton]
      have := ih (l.length - cutN l.length) (by omega) (m - cutN l.length) (l.drop (cutN l.length)) (by rw [List.length_drop])
      omega
  · rw [pathL_1 h]; exact Nat.zero_le _
set_option maxRecDepth 100000 in
set_option maxHeartbeats 4000000 in
theorem path_any (l : List (List Int)) (g : Nat) (hl : l.length ≤ 100) (h32 : ∀ x ∈ l, x.length = 32) : ∀ (n m f : Nat) (w : World), f ≤ m → m < f + n → f + n ≤ l.length → Fits f n → TreeAt w g l → KAt KS w → TzAt w →
    Calls Tryd.prog 27 #[.pointer (some ⟨g, 0, none⟩), .int .i64 m, .int .i64 f, .int .i64 ((f + n : Nat) : Int)] w (TellsR w (pathL (m - f) (segL l f (f + n)))) := by
  intro n
  induction n using Nat.strongRecOn with
  | ind n ih =>
  intro m f w hfm hm hfl hfit hT hK hZ
  have hpl : (segL l f (f + n)).length = n := by rw [segL_len (by omega) hfl]; omega
  refine calls_of_X (vs := [_, _, _, _]) (M := Hp w (fun _ => False) []) Tryd.func27 rfl Tryd.ntmps27 rfl (Hp.nil _ _) ?_
  have e0 : ((f + n : Nat) : Int) - (f : Int) = (n : Int) := by omega
  repeat first
    | refine XC_region ?_
    | refine X_nil ?_
    | refine XC_seq ?_
    | refine XT_seq ?_
    | refine Y_res (r_move rfl) rfl ?_
    | refine Y_res (r_assign rfl) rfl ?_
    | refine Y_res (r_sub64 rfl rfl (by omega)) rfl ?_
    | refine Y_res (r_eql rfl rfl) rfl ?_
  rw [e0]
  refine XC_condP rfl (fun h1 => ?_) (fun h1 => ?_)
  · rw [pathL_1 (by omega)]
    repeat first
      | refine XC_region ?_
      | refine X_nil ?_
      | refine XC_seq ?_
      | refine XT_seq ?_
      | refine XT_then_ret ?_
      | refine XC_ret ?_
      | refine Y_res (r_assign rfl) rfl ?_
    exact XT_ret1 (.inl rfl) Tryd.results27 rfl (fun w' h => ⟨none, 0, [], rfl, JOk.nil _, h.bagN0.nilV _ _⟩)
  have hn2 : 2 ≤ n := by omega
  obtain ⟨c1, c2, c3⟩ := cutN_bd hn2
  obtain ⟨f1, f2⟩ := fits_cut hfit hn2
  have plo := pathL_lo (m := m - f) (l := segL l f (f + n)) (by omega)
  have phi := pathL_hi (m := m - f) (l := segL l f (f + n)) (by omega)
  rw [hpl] at plo phi
  obtain ⟨k, hk⟩ : ∃ k, k = cutN n := ⟨_, rfl⟩
  rw [← hk] at c1 c2 c3 f1 f2 plo phi
  rw [segL_take (by omega), segL_drop (by omega)] at plo phi
  repeat first
    | refine XC_region ?_
    | refine XC_seq ?_
    | refine XT_seq ?_
    | refine XC_skip ?_
    | refine Y_res (r_move rfl) rfl ?_
    | refine Y_res (r_sub64 rfl rfl (by omega)) rfl ?_
  rw [e0]
  repeat first
    | refine XC_region ?_
    | refine X_nil ?_
    | refine XC_seq ?_
    | refine XT_seq ?_
    | refine Y_res (r_move rfl) rfl ?_
    | refine Y_res (r_assign rfl) rfl ?_
    | refine Y_res (r_add64 rfl rfl (by omega)) rfl ?_
    | refine Y_res (r_lss rfl rfl) rfl ?_
    | refine Y_says (g := 40) (v := .int .i64 (k : Int)) rfl rfl (fun w1 hM => by rw [hk]; exact cut_any n w1 hn2 (by omega)) ?_
  refine XC_condP rfl (fun h2 => ?_) (fun h2 => ?_)
  · rw [plo (by omega)]
    obtain ⟨L1, hL1⟩ : ∃ L1, L1 = pathL (m - f) (segL l f (f + k)) := ⟨_, rfl⟩
    have hL1l : L1.length ≤ k := by rw [hL1]; exact pathL_len k _ _ (by rw [segL_len (by omega) (by omega)]; omega)
    rw [← hL1]
    repeat first
      | refine XC_region ?_
      | refine XC_seq ?_
      | refine Y_res (r_move rfl) rfl ?_
    refine X_call (g := 27) rfl rfl (fun w1 q1 => (ih k c2 m f w1 hfm (by omega) (by omega) f1 (hT.keep q1.chg) (hK.keep q1.chg (fun h => h)) (hZ.keep q1.chg)).mono ?_)
    rw [← hL1]
    rintro e w2 ⟨A1, a1, js, rfl, hj, q2⟩
    refine ⟨_, rfl, _, (q1.frame0 q2), ?_⟩
    clear q1 q2
    rw [List.append_nil]
    have e5 : f + n = (f + k) + (n - k) := by omega
    repeat first
      | refine Y_res (r_move rfl) rfl ?_
      | refine X_tellsB (g := 31) (k := .u8) (xs := rootL (segL l (f + k) (f + n))) rfl rfl (fun w1 hM => by rw [e5]; exact hash_any l g hl h32 (n - k) (f + k) w w1 (by omega) f2 hT hK hZ hM.chg) ?_
    intro B1 b1 z1 hz1
    have hz1l : z1.length = 32 := by rw [hz1]; exact rootL_len fun x hx => h32 x (segL_mem hx)
    repeat first
      | refine X_tells (g := 30) (E := 5) (k := .u8) (z := z1) rfl rfl (fun w1 hM => clone_any z1 _ _ w1 (rds_bag hM.head hM.chg (List.mem_singleton.2 rfl)) (by omega)) ?_
    intro A3 c3 x3 h3
    repeat first
      | refine X_nil ?_
      | refine XT_seq ?_
      | refine XT_then_ret ?_
      | refine XC_ret ?_
      | refine Y_res (r_assign rfl) rfl ?_
      | (refine X_buildV rfl rfl (fun u hu => by simp at hu; rw [hu]; rfl) rfl (by simp) rfl ?_; intro _ _)
      | (refine X_appendV (s := 1) rfl rfl (fun w_ hM => rdv_blk (r := []) hM.head (List.append_nil _).symm rfl (Nat.le_refl 1) (by decide)) (fun u hu => by simp at hu; rw [hu]; rfl) rfl (by decide) rfl rfl (by omega) (by omega) rfl ?_; intro _ _)
    rename_i g2 hg2 A4 c4
    refine XT_ret1 (.inl rfl) Tryd.results27 rfl (fun w' h => ⟨A4, c4, js ++ [itI .u8 A3 c3 x3], by rw [List.length_append]; rfl, by rw [← hz1, ← h3]; exact hj.snoc _ _ _, ?_⟩)
    rw [List.map_append, List.length_append]
    exact path_end h
  · rw [phi (by omega)]
    obtain ⟨L1, hL1⟩ : ∃ L1, L1 = pathL (m - f - k) (segL l (f + k) (f + n)) := ⟨_, rfl⟩
    have hL1l : L1.length ≤ n := by rw [hL1]; exact Nat.le_trans (pathL_len (n - k) _ _ (by rw [segL_len (by omega) (by omega)]; omega)) (by omega)
    rw [← hL1]
    have e5 : f + n = (f + k) + (n - k) := by omega
    repeat first
      | refine XC_region ?_
      | refine XC_seq ?_
      | refine XT_seq ?_
      | refine XC_skip ?_
      | refine Y_res (r_move rfl) rfl ?_
    refine X_call (g := 27) rfl rfl (fun w1 q1 => (show Calls Tryd.prog 27 #[.pointer (some ⟨g, 0, none⟩), .int .i64 m, .int .i64 ((f : Int) + k), .int .i64 ((f + n : Nat) : Int)] w1 (TellsR w1 L1) from by
      have := ih (n - k) (by omega) m (f + k) w1 (by omega) (by omega) (by omega) f2 (hT.keep q1.chg) (hK.keep q1.chg (fun h => h)) (hZ.keep q1.chg)
      rw [← e5, show m - (f + k) = m - f - k by omega, ← hL1] at this
      exact this).mono ?_)
    rintro e w2 ⟨A1, a1, js, rfl, hj, q2⟩
    refine ⟨_, rfl, _, (q1.frame0 q2), ?_⟩
    clear q1 q2
    rw [List.append_nil]
    repeat first
      | refine Y_res (r_move rfl) rfl ?_
      | refine X_tellsB (g := 31) (k := .u8) (xs := rootL (segL l f (f + k))) rfl rfl (fun w1 hM => hash_any l g hl h32 k f w w1 (by omega) f1 hT hK hZ hM.chg) ?_
    intro B1 b1 z1 hz1
    have hz1l : z1.length = 32 := by rw [hz1]; exact rootL_len fun x hx => h32 x (segL_mem hx)
    repeat first
      | refine X_tells (g := 30) (E := 5) (k := .u8) (z := z1) rfl rfl (fun w1 hM => clone_any z1 _ _ w1 (rds_bag hM.head hM.chg (List.mem_singleton.2 rfl)) (by omega)) ?_
    intro A3 c3 x3 h3
    repeat first
      | refine X_nil ?_
      | refine XT_seq ?_
      | refine XC_ret ?_
      | refine Y_res (r_assign rfl) rfl ?_
      | (refine X_buildV rfl rfl (fun u hu => by simp at hu; rw [hu]; rfl) rfl (by simp) rfl ?_; intro _ _)
      | (refine X_appendV (s := 1) rfl rfl (fun w_ hM => rdv_blk (r := []) hM.head (List.append_nil _).symm rfl (Nat.le_refl 1) (by decide)) (fun u hu => by simp at hu; rw [hu]; rfl) rfl (by decide) rfl rfl (by omega) (by omega) rfl ?_; intro _ _)
    rename_i g2 hg2 A4 c4
    refine XT_ret1 (.inl rfl) Tryd.results27 rfl (fun w' h => ⟨A4, c4, js ++ [itI .u8 A3 c3 x3], by rw [List.length_append]; rfl, by rw [← hz1, ← h3]; exact hj.snoc _ _ _, ?_⟩)
    rw [List.map_append, List.length_append]
    exact path_end h
theorem bridgeL_eq {m : Nat} {l : List (List Int)} {same : Bool} (h : m = l.length) : bridgeL m l same = if same then [] else [rootL l] := by rw [bridgeL, if_pos h]
theorem bridgeL_lo {m : Nat} {l : List (List Int)} {same : Bool} (h0 : m ≠ l.length) (h : 2 ≤ l.length) (hm : m ≤ cutN l.length) : bridgeL m l same = bridgeL m (l.take (cutN l.length)) same ++ [rootL (l.drop (cutN l.length))] := by rw [bridgeL, if_neg h0, dif_neg (by omega), if_pos hm]
theorem bridgeL_hi {m : Nat} {l : List (List Int)} {same : Bool} (h0 : m ≠ l.length) (h : 2 ≤ l.length) (hm : ¬ m ≤ cutN l.length) : bridgeL m l same = bridgeL (m - cutN l.length) (l.drop (cutN l.length)) false ++ [rootL (l.take (cutN l.length))] := by rw [bridgeL, if_neg h0, dif_neg (by omega), if_neg hm]
theorem bridgeL_len : ∀ (n : Nat) (m : Nat) (l : List (List Int)) (same : Bool), l.length = n → (bridgeL m l same).length ≤ n + 1 := by
  intro n
  induction n using Nat.strongRecOn with
  | ind n ih =>
  intro m l same hl
  by_cases h0 : m = l.length
  · rw [bridgeL_eq h0]
    cases same <;> simp
  rcases Nat.lt_or_ge 1 l.length with h | h
  · obtain ⟨c1, c2, c3⟩ := cutN_bd (n := l.length) h
    by_cases hm : m ≤ cutN l.length
    · rw [bridgeL_lo h0 h hm, List.length_append, List.length_singleton]
      have := ih (cutN l.length) (by omega) m (l.take (cutN l.length)) same (by rw [List.length_take]; omega)
      omega
    · rw [bridgeL_hi h0 h hm, List.length_append, List.length_singleton]
      have := ih (l.length - cutN l.length) (by omega) (m - cutN l.length) (l.drop (cutN l.length)) false (by rw [List.length_drop])
      omega
  · rw [bridgeL, if_neg h0, dif_pos h]; exact Nat.zero_le _
set_option maxRecDepth 100000 in
set_option maxHeartbeats 8000000 in
theorem bridge_any (l : List (List Int)) (g : Nat) (hl : l.length ≤ 100) (h32 : ∀ x ∈ l, x.length = 32) : ∀ (n m f : Nat) (same : Bool) (w : World), f < m → m ≤ f + n → f + n ≤ l.length → Fits f n → TreeAt w g l → KAt KS w → TzAt w →
    Calls Tryd.prog 29 #[.pointer (some ⟨g, 0, none⟩), .int .i64 m, .int .i64 f, .int .i64 ((f + n : Nat) : Int), .bool same] w (TellsR w (bridgeL (m - f) (segL l f (f + n)) same)) := by
  intro n
  induction n using Nat.strongRecOn with
  | ind n ih =>
  intro m f same w hfm hm hfl hfit hT hK hZ
  have hpl : (segL l f (f + n)).length = n := by rw [segL_len (by omega) hfl]; omega
  refine calls_of_X (vs := [_, _, _, _, _]) (M := Hp w (fun _ => False) []) Tryd.func29 rfl Tryd.ntmps29 rfl (Hp.nil _ _) ?_
  have e0 : ((f + n : Nat) : Int) - (f : Int) = (n : Int) := by omega
  repeat first
    | refine XC_region ?_
    | refine X_nil ?_
    | refine XC_seq ?_
    | refine XT_seq ?_
    | refine Y_res (r_move rfl) rfl ?_
    | refine Y_res (r_assign rfl) rfl ?_
    | refine Y_res (r_eql rfl rfl) rfl ?_
  refine XC_condP rfl (fun h1 => ?_) (fun h1 => ?_)
  · rw [bridgeL_eq (by omega)]
    cases same
    · repeat first
        | refine XC_region ?_
        | refine X_nil ?_
        | refine XC_condF rfl ?_
        | refine XC_seq ?_
        | refine XT_seq ?_
        | refine XC_skip ?_
        | refine Y_res (r_move rfl) rfl ?_
        | refine X_tellsB (g := 31) (k := .u8) (xs := rootL (segL l f (f + n))) rfl rfl (fun w1 hM => hash_any l g hl h32 n f w w1 (by omega) hfit hT hK hZ hM.chg) ?_
      intro B1 b1 z1 hz1
      have hz1l : z1.length = 32 := by rw [hz1]; exact rootL_len fun x hx => h32 x (segL_mem hx)
      repeat first
        | refine X_tells (g := 30) (E := 5) (k := .u8) (z := z1) rfl rfl (fun w1 hM => clone_any z1 _ _ w1 (rds_bag hM.head hM.chg (List.mem_singleton.2 rfl)) (by omega)) ?_
      intro A3 c3 x3 h3
      repeat first
        | refine X_nil ?_
        | refine XT_seq ?_
        | refine XT_then_ret ?_
        | refine XC_ret ?_
        | refine Y_res (r_assign rfl) rfl ?_
        | (refine X_buildV rfl rfl (fun u hu => by simp at hu; rw [hu]; rfl) rfl (by simp) rfl ?_; intro _ _)
      rename_i g2 hg2
      refine XT_ret1 (.inl rfl) Tryd.results29 rfl (fun w' h => ⟨some ⟨g2, 0, none⟩, 1, [itI .u8 A3 c3 x3], rfl, by rw [← hz1, ← h3]; exact (JOk.nil .u8).snoc _ _ _, ?_⟩)
      have k1 := Hp.sublist h.bagN0 (ds := [Ch.bagN [], Ch.blk g2 [.slice A3 x3.length c3] 34, Ch.sl A3 c3 5 .u8 x3]) (.cons_cons _ (.cons_cons _ (.cons_cons _ (List.nil_sublist _))))
      have k2 : Hp w (fun _ => False) (Ch.sv A3 c3 5 1 x3.length (x3.map (Value.int .u8)) :: Ch.bagN [] :: _) w' := Hp.mv [_, _] k1
      exact k2.bagNV.swap.blkSv rfl (by decide)
    · repeat first
        | refine XC_region ?_
        | refine X_nil ?_
        | refine XC_condT rfl ?_
        | refine XC_seq ?_
        | refine XT_seq ?_
        | refine XT_then_ret ?_
        | refine XC_ret ?_
        | refine Y_res (r_move rfl) rfl ?_
        | refine Y_res (r_assign rfl) rfl ?_
      exact XT_ret1 (.inl rfl) Tryd.results29 rfl (fun w' h => ⟨none, 0, [], rfl, JOk.nil _, h.bagN0.nilV _ _⟩)
  have hn2 : 2 ≤ n := by omega
  obtain ⟨c1, c2, c3⟩ := cutN_bd hn2
  obtain ⟨f1, f2⟩ := fits_cut hfit hn2
  have plo := bridgeL_lo (m := m - f) (l := segL l f (f + n)) (same := same) (by omega) (by omega)
  have phi := bridgeL_hi (m := m - f) (l := segL l f (f + n)) (same := same) (by omega) (by omega)
  rw [hpl] at plo phi
  obtain ⟨k, hk⟩ : ∃ k, k = cutN n := ⟨_, rfl⟩
  rw [← hk] at c1 c2 c3 f1 f2 plo phi
  rw [segL_take (by omega), segL_drop (by omega)] at plo phi
  repeat first
    | refine XC_region ?_
    | refine XC_seq ?_
    | refine XT_seq ?_
    | refine XC_skip ?_
    | refine Y_res (r_move rfl) rfl ?_
    | refine Y_res (r_sub64 rfl rfl (by omega)) rfl ?_
  rw [e0]
  repeat first
    | refine XC_region ?_
    | refine X_nil ?_
    | refine XC_seq ?_
    | refine XT_seq ?_
    | refine Y_res (r_move rfl) rfl ?_
    | refine Y_res (r_assign rfl) rfl ?_
    | refine Y_res (r_add64 rfl rfl (by omega)) rfl ?_
    | refine Y_res (r_leq rfl rfl) rfl ?_
    | refine Y_says (g := 40) (v := .int .i64 (k : Int)) rfl rfl (fun w1 hM => by rw [hk]; exact cut_any n w1 hn2 (by omega)) ?_
  refine XC_condP rfl (fun h2 => ?_) (fun h2 => ?_)
  · rw [plo (by omega)]
    obtain ⟨L1, hL1⟩ : ∃ L1, L1 = bridgeL (m - f) (segL l f (f + k)) same := ⟨_, rfl⟩
    have hL1l : L1.length ≤ k + 1 := by rw [hL1]; exact bridgeL_len k _ _ _ (by rw [segL_len (by omega) (by omega)]; omega)
    rw [← hL1]
    repeat first
      | refine XC_region ?_
      | refine XC_seq ?_
      | refine Y_res (r_move rfl) rfl ?_
    refine X_call (g := 29) rfl rfl (fun w1 q1 => (ih k c2 m f same w1 hfm (by omega) (by omega) f1 (hT.keep q1.chg) (hK.keep q1.chg (fun h => h)) (hZ.keep q1.chg)).mono ?_)
    rw [← hL1]
    rintro e w2 ⟨A1, a1, js, rfl, hj, q2⟩
    refine ⟨_, rfl, _, (q1.frame0 q2), ?_⟩
    clear q1 q2
    rw [List.append_nil]
    have e5 : f + n = (f + k) + (n - k) := by omega
    repeat first
      | refine Y_res (r_move rfl) rfl ?_
      | refine X_tellsB (g := 31) (k := .u8) (xs := rootL (segL l (f + k) (f + n))) rfl rfl (fun w1 hM => by rw [e5]; exact hash_any l g hl h32 (n - k) (f + k) w w1 (by omega) f2 hT hK hZ hM.chg) ?_
    intro B1 b1 z1 hz1
    have hz1l : z1.length = 32 := by rw [hz1]; exact rootL_len fun x hx => h32 x (segL_mem hx)
    repeat first
      | refine X_tells (g := 30) (E := 5) (k := .u8) (z := z1) rfl rfl (fun w1 hM => clone_any z1 _ _ w1 (rds_bag hM.head hM.chg (List.mem_singleton.2 rfl)) (by omega)) ?_
    intro A3 c3 x3 h3
    repeat first
      | refine X_nil ?_
      | refine XT_seq ?_
      | refine XT_then_ret ?_
      | refine XC_ret ?_
      | refine Y_res (r_assign rfl) rfl ?_
      | (refine X_buildV rfl rfl (fun u hu => by simp at hu; rw [hu]; rfl) rfl (by simp) rfl ?_; intro _ _)
      | (refine X_appendV (s := 1) rfl rfl (fun w_ hM => rdv_blk (r := []) hM.head (List.append_nil _).symm rfl (Nat.le_refl 1) (by decide)) (fun u hu => by simp at hu; rw [hu]; rfl) rfl (by decide) rfl rfl (by omega) (by omega) rfl ?_; intro _ _)
    rename_i g2 hg2 A4 c4
    refine XT_ret1 (.inl rfl) Tryd.results29 rfl (fun w' h => ⟨A4, c4, js ++ [itI .u8 A3 c3 x3], by rw [List.length_append]; rfl, by rw [← hz1, ← h3]; exact hj.snoc _ _ _, ?_⟩)
    rw [List.map_append, List.length_append]
    exact path_end h
  · rw [phi (by omega)]
    obtain ⟨L1, hL1⟩ : ∃ L1, L1 = bridgeL (m - f - k) (segL l (f + k) (f + n)) false := ⟨_, rfl⟩
    have hL1l : L1.length ≤ n + 1 := by rw [hL1]; exact Nat.le_trans (bridgeL_len (n - k) _ _ _ (by rw [segL_len (by omega) (by omega)]; omega)) (by omega)
    rw [← hL1]
    have e5 : f + n = (f + k) + (n - k) := by omega
    repeat first
      | refine XC_region ?_
      | refine XC_seq ?_
      | refine XT_seq ?_
      | refine XC_skip ?_
      | refine Y_res (r_move rfl) rfl ?_
    refine X_call (g := 29) rfl rfl (fun w1 q1 => (show Calls Tryd.prog 29 #[.pointer (some ⟨g, 0, none⟩), .int .i64 m, .int .i64 ((f : Int) + k), .int .i64 ((f + n : Nat) : Int), .bool false] w1 (TellsR w1 L1) from by
      have := ih (n - k) (by omega) m (f + k) false w1 (by omega) (by omega) (by omega) f2 (hT.keep q1.chg) (hK.keep q1.chg (fun h => h)) (hZ.keep q1.chg)
      rw [← e5, show m - (f + k) = m - f - k by omega, ← hL1] at this
      exact this).mono ?_)
    rintro e w2 ⟨A1, a1, js, rfl, hj, q2⟩
    refine ⟨_, rfl, _, (q1.frame0 q2), ?_⟩
    clear q1 q2
    rw [List.append_nil]
    repeat first
      | refine Y_res (r_move rfl) rfl ?_
      | refine X_tellsB (g := 31) (k := .u8) (xs := rootL (segL l f (f + k))) rfl rfl (fun w1 hM => hash_any l g hl h32 k f w w1 (by omega) f1 hT hK hZ hM.chg) ?_
    intro B1 b1 z1 hz1
    have hz1l : z1.length = 32 := by rw [hz1]; exact rootL_len fun x hx => h32 x (segL_mem hx)
    repeat first
      | refine X_tells (g := 30) (E := 5) (k := .u8) (z := z1) rfl rfl (fun w1 hM => clone_any z1 _ _ w1 (rds_bag hM.head hM.chg (List.mem_singleton.2 rfl)) (by omega)) ?_
    intro A3 c3 x3 h3
    repeat first
      | refine X_nil ?_
      | refine XT_seq ?_
      | refine XC_ret ?_
      | refine Y_res (r_assign rfl) rfl ?_
      | (refine X_buildV rfl rfl (fun u hu => by simp at hu; rw [hu]; rfl) rfl (by simp) rfl ?_; intro _ _)
      | (refine X_appendV (s := 1) rfl rfl (fun w_ hM => rdv_blk (r := []) hM.head (List.append_nil _).symm rfl (Nat.le_refl 1) (by decide)) (fun u hu => by simp at hu; rw [hu]; rfl) rfl (by decide) rfl rfl (by omega) (by omega) rfl ?_; intro _ _)
    rename_i g2 hg2 A4 c4
    refine XT_ret1 (.inl rfl) Tryd.results29 rfl (fun w' h => ⟨A4, c4, js ++ [itI .u8 A3 c3 x3], by rw [List.length_append]; rfl, by rw [← hz1, ← h3]; exact hj.snoc _ _ _, ?_⟩)
    rw [List.map_append, List.length_append]
    exact path_end h
end Go.Proofs.YtgnhpkdhicfeiaaDoor.NMk
