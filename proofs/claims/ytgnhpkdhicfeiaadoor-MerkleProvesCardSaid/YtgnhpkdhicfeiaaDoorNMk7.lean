/- What a tree is asked from outside; the document's paths and bridges: walked. -/
import Derived.Test.YtgnhpkdhicfeiaaDoorNMk6
namespace Go.Proofs.YtgnhpkdhicfeiaaDoor.NMk
open Go Go.RowKit Go.Proofs.YtgnhpkdhicfeiaaDoor.MX Go.Proofs.YtgnhpkdhicfeiaaDoor.PSha Go.Proofs.YtgnhpkdhicfeiaaDoor.NSha Go.Proofs.YtgnhpkdhicfeiaaDoor.PMerkle
set_option linter.unusedVariables false
set_option linter.unusedSimpArgs false
set_option linter.unusedVariables false
/-- Lists of one's own, and whether there are any. -/
def TellsRO (w : World) (o : Option (List (List Int))) : Ending → World → Prop := fun en w' => ∃ A c js, en = .returned (.tuple #[.slice A (o.getD []).length c, .bool o.isSome]) ∧ JOk .u8 js (o.getD []) ∧ Hp w (fun _ => False) [Ch.sv A c 34 1 (o.getD []).length (js.map It.val), Ch.bagN js] w'
section
variable {P : Program} {n : Nat} {R : Regs} {w0 : World} {cs : List Ch} {o : Option (List (List Int))} {e : Exit} {fn : Func} {t1 t2 : Nat}
theorem XT_tellsRN {b : Bool} (he : e = .ret ∨ e = .normal) (hr : fn.results = #[.tmp t1, .tmp t2]) (h1 : R.get t1 = some (.slice none 0 0)) (h2 : R.get t2 = some (.bool b)) (ho : o.getD [] = [] ∧ o.isSome = b) :
    XT n (bodyPost P fn (TellsRO w0 o)) e R (Hp w0 (fun _ => False) cs) := XT_ret2 he hr h1 h2 fun w hw => by
  obtain ⟨e1, e2⟩ := ho
  refine ⟨none, 0, [], by rw [e1, e2]; rfl, by rw [e1]; exact JOk.nil _, ?_⟩
  rw [e1]
  have h3 := Hp.sublist hw (List.nil_sublist _)
  exact h3.bagN0.nilV _ _
theorem XT_tellsRS {A : Option Addr} {c : Nat} {L : List (List Int)} {js : List It} (he : e = .ret ∨ e = .normal) (hr : fn.results = #[.tmp t1, .tmp t2]) (h1 : R.get t1 = some (.slice A L.length c)) (h2 : R.get t2 = some (.bool true)) (hj : JOk .u8 js L) (ho : o = some L) :
    XT n (bodyPost P fn (TellsRO w0 o)) e R (Hp w0 (fun _ => False) [Ch.sv A c 34 1 L.length (js.map It.val), Ch.bagN js]) := XT_ret2 he hr h1 h2 fun w hw => by
  subst ho
  exact ⟨A, c, js, rfl, hj, hw⟩
end
def pathO (l : List (List Int)) (m n : Int) : Option (List (List Int)) := if 0 ≤ m ∧ m < n ∧ n ≤ l.length then some (pathL m.toNat (l.take n.toNat)) else none
def bridgeO (l : List (List Int)) (m n : Int) : Option (List (List Int)) := if 0 ≤ m ∧ m ≤ n ∧ n ≤ l.length then some (if m = 0 ∨ m = n then [] else bridgeL m.toNat (l.take n.toNat) true) else none
set_option maxHeartbeats 2000000 in
theorem pathx_any (l : List (List Int)) (g : Nat) (m n : Int) (w : World) (hT : TreeAt w g l) (hl : l.length ≤ 100) (h32 : ∀ x ∈ l, x.length = 32) (hK : KAt KS w) (hZ : TzAt w) :
    Calls Tryd.prog 12 #[.pointer (some ⟨g, 0, none⟩), .int .i64 m, .int .i64 n] w (TellsRO w (pathO l m n)) := by
  refine calls_of_X (vs := [_, _, _]) (M := Hp w (fun _ => False) []) Tryd.func12 rfl Tryd.ntmps12 rfl (Hp.nil _ _) ?_
  repeat first
    | refine XC_region ?_
    | refine X_nil ?_
    | refine XC_seq ?_
    | refine XT_seq ?_
    | refine Y_res (r_move rfl) rfl ?_
    | refine Y_res (r_assign rfl) rfl ?_
    | refine Y_res (r_lss rfl rfl) rfl ?_
  refine Y_split rfl rfl (fun h1 => ?_) (fun h1 => ?_)
  · repeat first
      | refine XC_region ?_
      | refine X_nil ?_
      | refine XC_condT rfl ?_
      | refine XC_seq ?_
      | refine XT_seq ?_
      | refine XT_then_ret ?_
      | refine XC_ret ?_
      | refine Y_res (r_move rfl) rfl ?_
      | refine Y_res (r_assign rfl) rfl ?_
      | refine Y_off rfl rfl rfl ?_
      | refine Y_res (r_pickT rfl rfl) rfl ?_
    exact XT_tellsRN (.inl rfl) Tryd.results12 rfl rfl (by rw [pathO, if_neg (by omega)]; exact ⟨rfl, rfl⟩)
  repeat first
    | refine Y_res (r_move rfl) rfl ?_
    | refine Y_res (r_geq rfl rfl) rfl ?_
    | refine Y_on rfl rfl ?_
    | refine Y_res (r_pickF rfl rfl) rfl ?_
  refine Y_split rfl rfl (fun h2 => ?_) (fun h2 => ?_)
  · repeat first
      | refine XC_region ?_
      | refine X_nil ?_
      | refine XC_condT rfl ?_
      | refine XC_seq ?_
      | refine XT_seq ?_
      | refine XT_then_ret ?_
      | refine XC_ret ?_
      | refine Y_res (r_assign rfl) rfl ?_
      | refine Y_off rfl rfl rfl ?_
      | refine Y_res (r_pickT rfl rfl) rfl ?_
    exact XT_tellsRN (.inl rfl) Tryd.results12 rfl rfl (by rw [pathO, if_neg (by omega)]; exact ⟨rfl, rfl⟩)
  repeat first
    | refine X_nil ?_
    | refine XT_seq ?_
    | refine Y_res (r_move rfl) rfl ?_
    | refine Y_res (r_gtr rfl rfl) rfl ?_
    | refine Y_on rfl rfl ?_
    | refine Y_res (r_pickF rfl rfl) rfl ?_
    | refine Y_says (g := 18) rfl rfl (fun w1 hM => size_any l g w1 (hT.keep hM.chg) (by omega)) ?_
  refine XC_condP rfl (fun h3 => ?_) (fun h3 => ?_)
  · repeat first
      | refine XC_region ?_
      | refine X_nil ?_
      | refine XC_seq ?_
      | refine XT_seq ?_
      | refine XT_then_ret ?_
      | refine XC_ret ?_
      | refine Y_res (r_assign rfl) rfl ?_
    exact XT_tellsRN (.inl rfl) Tryd.results12 rfl rfl (by rw [pathO, if_neg (by omega)]; exact ⟨rfl, rfl⟩)
  obtain ⟨m, rfl⟩ : ∃ q : Nat, m = q := ⟨m.toNat, by omega⟩
  obtain ⟨n, rfl⟩ : ∃ q : Nat, n = q := ⟨n.toNat, by omega⟩
  have e0 : pathO l m n = some (pathL (m - 0) (segL l 0 (0 + n))) := by
    rw [pathO, if_pos ⟨by omega, by omega, by omega⟩, Nat.zero_add, segL_all]; rfl
  rw [e0]
  repeat first
    | refine XC_region ?_
    | refine XC_seq ?_
    | refine XT_seq ?_
    | refine XC_skip ?_
    | refine Y_res (r_move rfl) rfl ?_
  refine X_call (g := 27) rfl rfl (fun w1 q1 => (show Calls Tryd.prog 27 #[.pointer (some ⟨g, 0, none⟩), .int .i64 m, .int .i64 0, .int .i64 n] w1 (TellsR w1 (pathL (m - 0) (segL l 0 (0 + n)))) from by
    have := path_any l g hl h32 n m 0 w1 (by omega) (by omega) (by omega) (fits0 n) (hT.keep q1.chg) (hK.keep q1.chg (fun h => h)) (hZ.keep q1.chg)
    rwa [Nat.zero_add] at this ⊢).mono ?_)
  rintro e w2 ⟨A1, a1, js, rfl, hj, q2⟩
  refine ⟨_, rfl, _, (q1.frame0 q2), ?_⟩
  rw [List.append_nil]
  repeat first
    | refine X_nil ?_
    | refine XT_seq ?_
    | refine XC_ret ?_
    | refine Y_res (r_assign rfl) rfl ?_
  exact XT_tellsRS (.inl rfl) Tryd.results12 rfl rfl hj rfl
set_option maxHeartbeats 2000000 in
theorem bridgex_any (l : List (List Int)) (g : Nat) (m n : Int) (w : World) (hT : TreeAt w g l) (hl : l.length ≤ 100) (h32 : ∀ x ∈ l, x.length = 32) (hK : KAt KS w) (hZ : TzAt w) :
    Calls Tryd.prog 15 #[.pointer (some ⟨g, 0, none⟩), .int .i64 m, .int .i64 n] w (TellsRO w (bridgeO l m n)) := by
  refine calls_of_X (vs := [_, _, _]) (M := Hp w (fun _ => False) []) Tryd.func15 rfl Tryd.ntmps15 rfl (Hp.nil _ _) ?_
  repeat first
    | refine XC_region ?_
    | refine X_nil ?_
    | refine XC_seq ?_
    | refine XT_seq ?_
    | refine Y_res (r_move rfl) rfl ?_
    | refine Y_res (r_assign rfl) rfl ?_
    | refine Y_res (r_lss rfl rfl) rfl ?_
  refine Y_split rfl rfl (fun h1 => ?_) (fun h1 => ?_)
  · repeat first
      | refine XC_region ?_
      | refine X_nil ?_
      | refine XC_condT rfl ?_
      | refine XC_seq ?_
      | refine XT_seq ?_
      | refine XT_then_ret ?_
      | refine XC_ret ?_
      | refine Y_res (r_move rfl) rfl ?_
      | refine Y_res (r_assign rfl) rfl ?_
      | refine Y_off rfl rfl rfl ?_
      | refine Y_res (r_pickT rfl rfl) rfl ?_
    exact XT_tellsRN (.inl rfl) Tryd.results15 rfl rfl (by rw [bridgeO, if_neg (by omega)]; exact ⟨rfl, rfl⟩)
  repeat first
    | refine Y_res (r_move rfl) rfl ?_
    | refine Y_res (r_gtr rfl rfl) rfl ?_
    | refine Y_on rfl rfl ?_
    | refine Y_res (r_pickF rfl rfl) rfl ?_
  refine Y_split rfl rfl (fun h2 => ?_) (fun h2 => ?_)
  · repeat first
      | refine XC_region ?_
      | refine X_nil ?_
      | refine XC_condT rfl ?_
      | refine XC_seq ?_
      | refine XT_seq ?_
      | refine XT_then_ret ?_
      | refine XC_ret ?_
      | refine Y_res (r_assign rfl) rfl ?_
      | refine Y_off rfl rfl rfl ?_
      | refine Y_res (r_pickT rfl rfl) rfl ?_
    exact XT_tellsRN (.inl rfl) Tryd.results15 rfl rfl (by rw [bridgeO, if_neg (by omega)]; exact ⟨rfl, rfl⟩)
  repeat first
    | refine X_nil ?_
    | refine XT_seq ?_
    | refine Y_res (r_move rfl) rfl ?_
    | refine Y_res (r_gtr rfl rfl) rfl ?_
    | refine Y_on rfl rfl ?_
    | refine Y_res (r_pickF rfl rfl) rfl ?_
    | refine Y_says (g := 18) rfl rfl (fun w1 hM => size_any l g w1 (hT.keep hM.chg) (by omega)) ?_
  refine XC_condP rfl (fun h3 => ?_) (fun h3 => ?_)
  · repeat first
      | refine XC_region ?_
      | refine X_nil ?_
      | refine XC_seq ?_
      | refine XT_seq ?_
      | refine XT_then_ret ?_
      | refine XC_ret ?_
      | refine Y_res (r_assign rfl) rfl ?_
    exact XT_tellsRN (.inl rfl) Tryd.results15 rfl rfl (by rw [bridgeO, if_neg (by omega)]; exact ⟨rfl, rfl⟩)
  have hO : 0 ≤ m ∧ m ≤ n ∧ n ≤ l.length := ⟨by omega, by omega, by omega⟩
  repeat first
    | refine XC_region ?_
    | refine XC_seq ?_
    | refine XT_seq ?_
    | refine XC_skip ?_
    | refine Y_res (r_move rfl) rfl ?_
    | refine Y_res (r_eql rfl rfl) rfl ?_
  refine Y_split rfl rfl (fun h4 => ?_) (fun h4 => ?_)
  · repeat first
      | refine XC_region ?_
      | refine X_nil ?_
      | refine XC_condT rfl ?_
      | refine XC_seq ?_
      | refine XT_seq ?_
      | refine XT_then_ret ?_
      | refine XC_ret ?_
      | refine Y_res (r_assign rfl) rfl ?_
      | refine Y_off rfl rfl rfl ?_
      | refine Y_res (r_pickT rfl rfl) rfl ?_
    exact XT_tellsRN (.inl rfl) Tryd.results15 rfl rfl (by rw [bridgeO, if_pos hO, if_pos (.inl h4)]; exact ⟨rfl, rfl⟩)
  repeat first
    | refine X_nil ?_
    | refine XT_seq ?_
    | refine Y_res (r_move rfl) rfl ?_
    | refine Y_res (r_eql rfl rfl) rfl ?_
    | refine Y_on rfl rfl ?_
    | refine Y_res (r_pickF rfl rfl) rfl ?_
  refine XC_condP rfl (fun h5 => ?_) (fun h5 => ?_)
  · repeat first
      | refine XC_region ?_
      | refine X_nil ?_
      | refine XC_seq ?_
      | refine XT_seq ?_
      | refine XT_then_ret ?_
      | refine XC_ret ?_
      | refine Y_res (r_assign rfl) rfl ?_
    exact XT_tellsRN (.inl rfl) Tryd.results15 rfl rfl (by rw [bridgeO, if_pos hO, if_pos (.inr h5)]; exact ⟨rfl, rfl⟩)
  obtain ⟨m, rfl⟩ : ∃ q : Nat, m = q := ⟨m.toNat, by omega⟩
  obtain ⟨n, rfl⟩ : ∃ q : Nat, n = q := ⟨n.toNat, by omega⟩
  have e0 : bridgeO l m n = some (bridgeL (m - 0) (segL l 0 (0 + n)) true) := by
    rw [bridgeO, if_pos hO, if_neg (by omega), Nat.zero_add, segL_all]; rfl
  rw [e0]
  repeat first
    | refine XC_region ?_
    | refine XC_seq ?_
    | refine XT_seq ?_
    | refine XC_skip ?_
    | refine Y_res (r_move rfl) rfl ?_
  refine X_call (g := 29) rfl rfl (fun w1 q1 => (show Calls Tryd.prog 29 #[.pointer (some ⟨g, 0, none⟩), .int .i64 m, .int .i64 0, .int .i64 n, .bool true] w1 (TellsR w1 (bridgeL (m - 0) (segL l 0 (0 + n)) true)) from by
    have := bridge_any l g hl h32 n m 0 true w1 (by omega) (by omega) (by omega) (fits0 n) (hT.keep q1.chg) (hK.keep q1.chg (fun h => h)) (hZ.keep q1.chg)
    rwa [Nat.zero_add] at this ⊢).mono ?_)
  rintro e w2 ⟨A1, a1, js, rfl, hj, q2⟩
  refine ⟨_, rfl, _, (q1.frame0 q2), ?_⟩
  rw [List.append_nil]
  repeat first
    | refine X_nil ?_
    | refine XT_seq ?_
    | refine XC_ret ?_
    | refine Y_res (r_assign rfl) rfl ?_
  exact XT_tellsRS (.inl rfl) Tryd.results15 rfl rfl hj rfl
/-- Lists that were there or are new. -/
def TellsQ (w0 : World) (L : List (List Int)) : Ending → World → Prop := fun en w' => ∃ A c js, en = .returned (.slice A L.length c) ∧ JOk .u8 js L ∧ Hp w0 (fun _ => False) [Ch.sv A c 34 1 L.length (js.map It.val), Ch.bag w0 js] w'
theorem rpath_end {w w' : World} {g2 n : Nat} {T : TypeId} {us vs : List Value} {B1 A4 : Option Addr} {b1 c4 : Nat} {z1 : List Int} {js : List It} (h : Hp w (fun _ => False) (Ch.blk g2 us T :: Ch.bag w [itI .u8 B1 b1 z1] :: Ch.sv A4 c4 34 1 n vs :: Ch.bag w js :: []) w') :
    Hp w (fun _ => False) [Ch.sv A4 c4 34 1 n vs, Ch.bag w (js ++ [itI .u8 B1 b1 z1])] w' := by
  have k1 := (Hp.mv [_, _] h.tail).swap
  exact (k1.bagMerge.bagSub (jts := js ++ [itI .u8 B1 b1 z1]) (fun it hit => by
    rcases List.mem_append.1 hit with hit | hit
    · exact List.mem_append_right _ hit
    · exact List.mem_append_left _ hit)).swap
set_option maxRecDepth 100000 in
set_option maxHeartbeats 8000000 in
theorem rpath_any : ∀ (n m : Nat) (L : List (List Int)) (A : Option Addr) (c : Nat) (w0 w : World), L.length = n → n ≤ 100 → m < n → (∀ x ∈ L, x.length = 32) → LLs .u8 w0 A c L → Hp w0 (fun _ => False) [] w →
    Calls Tryd.prog 14 #[.int .i64 m, .slice A L.length c] w (TellsQ w0 (pathL m L)) := by
  intro n
  induction n using Nat.strongRecOn with
  | ind n ih =>
  intro m L A c w0 w hn hn100 hm h32 hL0 hc0
  have hle := hL0.le
  have hcap := hL0.cap
  refine calls_of_X (vs := [_, _]) (M := Hp w0 (fun _ => False) []) Tryd.func14 rfl Tryd.ntmps14 rfl hc0 ?_
  repeat first
    | refine XC_region ?_
    | refine X_nil ?_
    | refine XC_seq ?_
    | refine XT_seq ?_
    | refine Y_res (r_move rfl) rfl ?_
    | refine Y_res (r_assign rfl) rfl ?_
    | refine Y_res (r_eql rfl rfl) rfl ?_
    | refine Y_res (r_len rfl) rfl ?_
  refine XC_condP rfl (fun h1 => ?_) (fun h1 => ?_)
  · rw [pathL_1 (by omega)]
    repeat first
      | refine XC_region ?_
      | refine X_nil ?_
      | refine XC_seq ?_
      | refine XT_seq ?_
      | refine XT_then_ret ?_
      | refine XC_ret ?_
      | refine Y_res (r_assign rfl) rfl ?_
    exact XT_ret1 (.inl rfl) Tryd.results14 rfl (fun w' h => ⟨none, 0, [], rfl, JOk.nil _, h.bag0.nilV _ _⟩)
  have hn2 : 2 ≤ L.length := by omega
  obtain ⟨c1, c2, c3⟩ := cutN_bd hn2
  have plo := pathL_lo (m := m) (l := L) (by omega)
  have phi := pathL_hi (m := m) (l := L) (by omega)
  obtain ⟨k, hk⟩ : ∃ k, k = cutN L.length := ⟨_, rfl⟩
  rw [← hk] at c1 c2 c3 plo phi
  have hlt : (L.take k).length = k := by simp only [List.length_take]; omega
  have hld : (L.drop k).length = L.length - k := by simp only [List.length_drop]
  repeat first
    | refine XC_region ?_
    | refine X_nil ?_
    | refine XC_seq ?_
    | refine XT_seq ?_
    | refine XC_skip ?_
    | refine Y_res (r_move rfl) rfl ?_
    | refine Y_res (r_assign rfl) rfl ?_
    | refine Y_res (r_lss rfl rfl) rfl ?_
    | refine Y_res (r_len rfl) rfl ?_
    | refine Y_says (g := 28) (v := .int .i64 (k : Int)) rfl rfl (fun w1 hM => by rw [hk]; exact rcut_any _ w1 hn2 (by omega)) ?_
  refine XC_condP rfl (fun h2 => ?_) (fun h2 => ?_)
  · rw [plo (by omega)]
    obtain ⟨L1, hL1⟩ : ∃ L1, L1 = pathL m (L.take k) := ⟨_, rfl⟩
    have hL1l : L1.length ≤ k := by rw [hL1]; exact pathL_len k _ _ hlt
    rw [← hL1]
    repeat first
      | refine XC_seq ?_
    refine XC_held 11 (Hp w0 (fun _ => False) []) rfl drw_hp (fun _ h => h) ?_
    refine TE_reads [0, 1, 2, 3, 5, 6, 7] (by decide +kernel) (by decide +kernel) rfl ?_
    repeat first
      | refine Y_res (r_move rfl) rfl ?_
      | refine Y_res (r_cutL rfl rfl (by omega)) rfl ?_
      | refine Y_res (r_cut0 rfl rfl (by omega)) rfl ?_
    refine XQ_nodeE ?_
    refine TE_one 4 (by decide +kernel) rfl rfl ?_
    refine X_call (g := 14) rfl rfl (fun w1 q1 => (show Calls Tryd.prog 14 #[.int .i64 m, .slice A k c] w1 (TellsQ w0 L1) from by
      have := ih k (by omega) m (L.take k) A c w0 w1 hlt (by omega) (by omega) (fun x hx => h32 x (List.mem_of_mem_take hx)) (hL0.take k) q1
      rwa [hlt, ← hL1] at this).mono ?_)
    rintro e w2 ⟨A1, a1, js, rfl, hj, q2⟩
    refine ⟨_, rfl, _, q2, ?_⟩
    repeat first
      | refine X_nil ?_
      | refine XT_only ?_
    refine XT_nodeE (fun _ h => h.none) ?_
    refine TE_one 8 (by decide +kernel) rfl rfl ?_
    refine X_tellsB (g := 20) (k := .u8) (xs := rootL (L.drop k)) rfl rfl (fun w1 hM => by
      have := root_any (L.length - k) (L.drop k) (cutA A k c 1) (c - k) w0 w1 hld (by omega) (fun x hx => h32 x (List.mem_of_mem_drop hx)) (hL0.drop k (by omega)) hM.chg
      rwa [hld] at this) ?_
    intro B1 b1 z1 hz1
    repeat first
      | refine X_nil ?_
      | refine XT_only ?_
    refine XT_nodeE (fun _ h => h.none) ?_
    refine TE_one 9 (by decide +kernel) rfl rfl ?_
    refine X_buildV (us := [.slice B1 z1.length b1]) rfl rfl (fun u hu => by simp at hu; rw [hu]; rfl) rfl (by simp) rfl ?_
    intro g2 hg2
    repeat first
      | refine X_nil ?_
      | refine XT_only ?_
    refine XT_nodeE (fun _ h => h.none) ?_
    refine TE_one 10 (by decide +kernel) rfl rfl ?_
    refine X_appendV (s := 1) rfl rfl (fun w_ hM => rdv_blk (r := []) hM.head (List.append_nil _).symm rfl (Nat.le_refl 1) (by decide)) (fun u hu => by simp at hu; rw [hu]; rfl) rfl (by decide) rfl rfl (by omega) (by omega) rfl ?_
    intro A4 c4
    repeat first
      | refine X_nil ?_
      | refine XT_only ?_
    refine XT_nodeE (fun _ h => h.none) ?_
    refine TE_tail 11 (by decide +kernel) rfl rfl ?_
    repeat first
      | refine X_nil ?_
      | refine XT_only ?_
      | refine Y_res (r_assign rfl) rfl ?_
    refine XT_nodeW (TN_end (by decide +kernel) ?_)
    repeat first
      | refine XT_seq ?_
      | refine XT_then_ret ?_
      | refine XC_ret ?_
    refine XT_ret1 (.inl rfl) Tryd.results14 rfl (fun w' h => ⟨A4, c4, js ++ [itI .u8 B1 b1 z1], by rw [List.length_append]; rfl, by rw [← hz1]; exact hj.snoc _ _ _, ?_⟩)
    rw [List.map_append, List.length_append]
    exact rpath_end h
  · rw [phi (by omega)]
    obtain ⟨L1, hL1⟩ : ∃ L1, L1 = pathL (m - k) (L.drop k) := ⟨_, rfl⟩
    have hL1l : L1.length ≤ n := by rw [hL1]; exact Nat.le_trans (pathL_len (L.length - k) _ _ hld) (by omega)
    rw [← hL1]
    repeat first
      | refine XC_seq ?_
      | refine XT_seq ?_
      | refine XC_skip ?_
    refine XC_held 13 (Hp w0 (fun _ => False) []) rfl drw_hp (fun _ h => h) ?_
    refine TE_reads [0, 1, 2, 3, 4, 5, 7, 8, 9] (by decide +kernel) (by decide +kernel) rfl ?_
    repeat first
      | refine Y_res (r_move rfl) rfl ?_
      | refine Y_res (r_sub64 rfl rfl (by omega)) rfl ?_
      | refine Y_res (r_cutL rfl rfl (by omega)) rfl ?_
      | refine Y_res (r_cut0 rfl rfl (by omega)) rfl ?_
    refine Y_re (e := 28) (v' := .int .i64 ((m - k : Nat) : Int)) rfl (by congr 1; omega) ?_
    refine XQ_nodeE ?_
    refine TE_one 6 (by decide +kernel) rfl rfl ?_
    refine X_call (g := 14) rfl rfl (fun w1 q1 => (show Calls Tryd.prog 14 #[.int .i64 ((m - k : Nat) : Int), .slice (cutA A k c 1) (L.length - k) (c - k)] w1 (TellsQ w0 L1) from by
      have := ih (L.length - k) (by omega) (m - k) (L.drop k) (cutA A k c 1) (c - k) w0 w1 hld (by omega) (by omega) (fun x hx => h32 x (List.mem_of_mem_drop hx)) (hL0.drop k (by omega)) q1
      rwa [hld, ← hL1] at this).mono ?_)
    rintro e w2 ⟨A1, a1, js, rfl, hj, q2⟩
    refine ⟨_, rfl, _, q2, ?_⟩
    repeat first
      | refine X_nil ?_
      | refine XT_only ?_
    refine XT_nodeE (fun _ h => h.none) ?_
    refine TE_one 10 (by decide +kernel) rfl rfl ?_
    refine X_tellsB (g := 20) (k := .u8) (xs := rootL (L.take k)) rfl rfl (fun w1 hM => by
      have := root_any k (L.take k) A c w0 w1 hlt (by omega) (fun x hx => h32 x (List.mem_of_mem_take hx)) (hL0.take k) hM.chg
      rwa [hlt] at this) ?_
    intro B1 b1 z1 hz1
    repeat first
      | refine X_nil ?_
      | refine XT_only ?_
    refine XT_nodeE (fun _ h => h.none) ?_
    refine TE_one 11 (by decide +kernel) rfl rfl ?_
    refine X_buildV (us := [.slice B1 z1.length b1]) rfl rfl (fun u hu => by simp at hu; rw [hu]; rfl) rfl (by simp) rfl ?_
    intro g2 hg2
    repeat first
      | refine X_nil ?_
      | refine XT_only ?_
    refine XT_nodeE (fun _ h => h.none) ?_
    refine TE_one 12 (by decide +kernel) rfl rfl ?_
    refine X_appendV (s := 1) rfl rfl (fun w_ hM => rdv_blk (r := []) hM.head (List.append_nil _).symm rfl (Nat.le_refl 1) (by decide)) (fun u hu => by simp at hu; rw [hu]; rfl) rfl (by decide) rfl rfl (by omega) (by omega) rfl ?_
    intro A4 c4
    repeat first
      | refine X_nil ?_
      | refine XT_only ?_
    refine XT_nodeE (fun _ h => h.none) ?_
    refine TE_tail 13 (by decide +kernel) rfl rfl ?_
    repeat first
      | refine X_nil ?_
      | refine XT_only ?_
      | refine Y_res (r_assign rfl) rfl ?_
    refine XT_nodeW (TN_end (by decide +kernel) ?_)
    repeat first
      | refine XT_seq ?_
      | refine XC_ret ?_
    refine XT_ret1 (.inl rfl) Tryd.results14 rfl (fun w' h => ⟨A4, c4, js ++ [itI .u8 B1 b1 z1], by rw [List.length_append]; rfl, by rw [← hz1]; exact hj.snoc _ _ _, ?_⟩)
    rw [List.map_append, List.length_append]
    exact rpath_end h
set_option maxRecDepth 100000 in
set_option maxHeartbeats 8000000 in
theorem rbridge_any : ∀ (n m : Nat) (L : List (List Int)) (A : Option Addr) (c : Nat) (same : Bool) (w0 w : World), L.length = n → n ≤ 100 → 0 < m → m ≤ n → (∀ x ∈ L, x.length = 32) → LLs .u8 w0 A c L → Hp w0 (fun _ => False) [] w →
    Calls Tryd.prog 16 #[.int .i64 m, .slice A L.length c, .bool same] w (TellsQ w0 (bridgeL m L same)) := by
  intro n
  induction n using Nat.strongRecOn with
  | ind n ih =>
  intro m L A c same w0 w hn hn100 hm0 hm h32 hL0 hc0
  have hle := hL0.le
  have hcap := hL0.cap
  refine calls_of_X (vs := [_, _, _]) (M := Hp w0 (fun _ => False) []) Tryd.func16 rfl Tryd.ntmps16 rfl hc0 ?_
  repeat first
    | refine XC_region ?_
    | refine X_nil ?_
    | refine XC_seq ?_
    | refine XT_seq ?_
    | refine Y_res (r_move rfl) rfl ?_
    | refine Y_res (r_assign rfl) rfl ?_
    | refine Y_res (r_eql rfl rfl) rfl ?_
    | refine Y_res (r_len rfl) rfl ?_
  refine XC_condP rfl (fun h1 => ?_) (fun h1 => ?_)
  · rw [bridgeL_eq (by omega)]
    cases same
    · repeat first
        | refine XC_region ?_
        | refine X_nil ?_
        | refine XC_condF rfl ?_
        | refine XC_seq ?_
        | refine XT_seq ?_
        | refine XC_skip ?_
        | refine Y_res (r_move rfl) rfl ?_
      refine X_tellsB (g := 20) (k := .u8) (xs := rootL L) rfl rfl (fun w1 hM => root_any L.length L A c w0 w1 rfl (by omega) h32 hL0 hM.chg) ?_
      intro B1 b1 z1 hz1
      repeat first
        | refine X_nil ?_
        | refine XT_seq ?_
        | refine XT_then_ret ?_
        | refine XC_ret ?_
        | refine Y_res (r_assign rfl) rfl ?_
        | (refine X_buildV rfl rfl (fun u hu => by simp at hu; rw [hu]; rfl) rfl (by simp) rfl ?_; intro _ _)
      rename_i g2 hg2
      refine XT_ret1 (.inl rfl) Tryd.results16 rfl (fun w' h => ⟨some ⟨g2, 0, none⟩, 1, [itI .u8 B1 b1 z1], rfl, by rw [← hz1]; exact (JOk.nil .u8).snoc _ _ _, ?_⟩)
      exact h.blkSv rfl (by decide)
    · repeat first
        | refine XC_region ?_
        | refine X_nil ?_
        | refine XC_condT rfl ?_
        | refine XC_seq ?_
        | refine XT_seq ?_
        | refine XT_then_ret ?_
        | refine XC_ret ?_
        | refine Y_res (r_move rfl) rfl ?_
        | refine Y_res (r_assign rfl) rfl ?_
      exact XT_ret1 (.inl rfl) Tryd.results16 rfl (fun w' h => ⟨none, 0, [], rfl, JOk.nil _, h.bag0.nilV _ _⟩)
  have hn2 : 2 ≤ L.length := by omega
  obtain ⟨c1, c2, c3⟩ := cutN_bd hn2
  have plo := bridgeL_lo (m := m) (l := L) (same := same) (by omega) (by omega)
  have phi := bridgeL_hi (m := m) (l := L) (same := same) (by omega) (by omega)
  obtain ⟨k, hk⟩ : ∃ k, k = cutN L.length := ⟨_, rfl⟩
  rw [← hk] at c1 c2 c3 plo phi
  have hlt : (L.take k).length = k := by simp only [List.length_take]; omega
  have hld : (L.drop k).length = L.length - k := by simp only [List.length_drop]
  repeat first
    | refine XC_region ?_
    | refine X_nil ?_
    | refine XC_seq ?_
    | refine XT_seq ?_
    | refine XC_skip ?_
    | refine Y_res (r_move rfl) rfl ?_
    | refine Y_res (r_assign rfl) rfl ?_
    | refine Y_res (r_leq rfl rfl) rfl ?_
    | refine Y_res (r_len rfl) rfl ?_
    | refine Y_says (g := 28) (v := .int .i64 (k : Int)) rfl rfl (fun w1 hM => by rw [hk]; exact rcut_any _ w1 hn2 (by omega)) ?_
  refine XC_condP rfl (fun h2 => ?_) (fun h2 => ?_)
  · rw [plo (by omega)]
    obtain ⟨L1, hL1⟩ : ∃ L1, L1 = bridgeL m (L.take k) same := ⟨_, rfl⟩
    have hL1l : L1.length ≤ k + 1 := by rw [hL1]; exact bridgeL_len k _ _ _ hlt
    rw [← hL1]
    repeat first
      | refine XC_seq ?_
    refine XC_held 12 (Hp w0 (fun _ => False) []) rfl drw_hp (fun _ h => h) ?_
    refine TE_reads [0, 1, 2, 3, 4, 6, 7, 8] (by decide +kernel) (by decide +kernel) rfl ?_
    repeat first
      | refine Y_res (r_move rfl) rfl ?_
      | refine Y_res (r_cutL rfl rfl (by omega)) rfl ?_
      | refine Y_res (r_cut0 rfl rfl (by omega)) rfl ?_
    refine XQ_nodeE ?_
    refine TE_one 5 (by decide +kernel) rfl rfl ?_
    refine X_call (g := 16) rfl rfl (fun w1 q1 => (show Calls Tryd.prog 16 #[.int .i64 m, .slice A k c, .bool same] w1 (TellsQ w0 L1) from by
      have := ih k (by omega) m (L.take k) A c same w0 w1 hlt (by omega) (by omega) (by omega) (fun x hx => h32 x (List.mem_of_mem_take hx)) (hL0.take k) q1
      rwa [hlt, ← hL1] at this).mono ?_)
    rintro e w2 ⟨A1, a1, js, rfl, hj, q2⟩
    refine ⟨_, rfl, _, q2, ?_⟩
    repeat first
      | refine X_nil ?_
      | refine XT_only ?_
    refine XT_nodeE (fun _ h => h.none) ?_
    refine TE_one 9 (by decide +kernel) rfl rfl ?_
    refine X_tellsB (g := 20) (k := .u8) (xs := rootL (L.drop k)) rfl rfl (fun w1 hM => by
      have := root_any (L.length - k) (L.drop k) (cutA A k c 1) (c - k) w0 w1 hld (by omega) (fun x hx => h32 x (List.mem_of_mem_drop hx)) (hL0.drop k (by omega)) hM.chg
      rwa [hld] at this) ?_
    intro B1 b1 z1 hz1
    repeat first
      | refine X_nil ?_
      | refine XT_only ?_
    refine XT_nodeE (fun _ h => h.none) ?_
    refine TE_one 10 (by decide +kernel) rfl rfl ?_
    refine X_buildV (us := [.slice B1 z1.length b1]) rfl rfl (fun u hu => by simp at hu; rw [hu]; rfl) rfl (by simp) rfl ?_
    intro g2 hg2
    repeat first
      | refine X_nil ?_
      | refine XT_only ?_
    refine XT_nodeE (fun _ h => h.none) ?_
    refine TE_one 11 (by decide +kernel) rfl rfl ?_
    refine X_appendV (s := 1) rfl rfl (fun w_ hM => rdv_blk (r := []) hM.head (List.append_nil _).symm rfl (Nat.le_refl 1) (by decide)) (fun u hu => by simp at hu; rw [hu]; rfl) rfl (by decide) rfl rfl (by omega) (by omega) rfl ?_
    intro A4 c4
    repeat first
      | refine X_nil ?_
      | refine XT_only ?_
    refine XT_nodeE (fun _ h => h.none) ?_
    refine TE_tail 12 (by decide +kernel) rfl rfl ?_
    repeat first
      | refine X_nil ?_
      | refine XT_only ?_
      | refine Y_res (r_assign rfl) rfl ?_
    refine XT_nodeW (TN_end (by decide +kernel) ?_)
    repeat first
      | refine XT_seq ?_
      | refine XT_then_ret ?_
      | refine XC_ret ?_
    refine XT_ret1 (.inl rfl) Tryd.results16 rfl (fun w' h => ⟨A4, c4, js ++ [itI .u8 B1 b1 z1], by rw [List.length_append]; rfl, by rw [← hz1]; exact hj.snoc _ _ _, ?_⟩)
    rw [List.map_append, List.length_append]
    exact rpath_end h
  · rw [phi (by omega)]
    obtain ⟨L1, hL1⟩ : ∃ L1, L1 = bridgeL (m - k) (L.drop k) false := ⟨_, rfl⟩
    have hL1l : L1.length ≤ n + 1 := by rw [hL1]; exact Nat.le_trans (bridgeL_len (L.length - k) _ _ _ hld) (by omega)
    rw [← hL1]
    repeat first
      | refine XC_seq ?_
      | refine XT_seq ?_
      | refine XC_skip ?_
    refine XC_held 13 (Hp w0 (fun _ => False) []) rfl drw_hp (fun _ h => h) ?_
    refine TE_reads [0, 1, 2, 3, 4, 5, 7, 8, 9] (by decide +kernel) (by decide +kernel) rfl ?_
    repeat first
      | refine Y_res (r_move rfl) rfl ?_
      | refine Y_res (r_sub64 rfl rfl (by omega)) rfl ?_
      | refine Y_res (r_cutL rfl rfl (by omega)) rfl ?_
      | refine Y_res (r_cut0 rfl rfl (by omega)) rfl ?_
    refine Y_re (e := 36) (v' := .int .i64 ((m - k : Nat) : Int)) rfl (by congr 1; omega) ?_
    refine XQ_nodeE ?_
    refine TE_one 6 (by decide +kernel) rfl rfl ?_
    refine X_call (g := 16) rfl rfl (fun w1 q1 => (show Calls Tryd.prog 16 #[.int .i64 ((m - k : Nat) : Int), .slice (cutA A k c 1) (L.length - k) (c - k), .bool false] w1 (TellsQ w0 L1) from by
      have := ih (L.length - k) (by omega) (m - k) (L.drop k) (cutA A k c 1) (c - k) false w0 w1 hld (by omega) (by omega) (by omega) (fun x hx => h32 x (List.mem_of_mem_drop hx)) (hL0.drop k (by omega)) q1
      rwa [hld, ← hL1] at this).mono ?_)
    rintro e w2 ⟨A1, a1, js, rfl, hj, q2⟩
    refine ⟨_, rfl, _, q2, ?_⟩
    repeat first
      | refine X_nil ?_
      | refine XT_only ?_
    refine XT_nodeE (fun _ h => h.none) ?_
    refine TE_one 10 (by decide +kernel) rfl rfl ?_
    refine X_tellsB (g := 20) (k := .u8) (xs := rootL (L.take k)) rfl rfl (fun w1 hM => by
      have := root_any k (L.take k) A c w0 w1 hlt (by omega) (fun x hx => h32 x (List.mem_of_mem_take hx)) (hL0.take k) hM.chg
      rwa [hlt] at this) ?_
    intro B1 b1 z1 hz1
    repeat first
      | refine X_nil ?_
      | refine XT_only ?_
    refine XT_nodeE (fun _ h => h.none) ?_
    refine TE_one 11 (by decide +kernel) rfl rfl ?_
    refine X_buildV (us := [.slice B1 z1.length b1]) rfl rfl (fun u hu => by simp at hu; rw [hu]; rfl) rfl (by simp) rfl ?_
    intro g2 hg2
    repeat first
      | refine X_nil ?_
      | refine XT_only ?_
    refine XT_nodeE (fun _ h => h.none) ?_
    refine TE_one 12 (by decide +kernel) rfl rfl ?_
    refine X_appendV (s := 1) rfl rfl (fun w_ hM => rdv_blk (r := []) hM.head (List.append_nil _).symm rfl (Nat.le_refl 1) (by decide)) (fun u hu => by simp at hu; rw [hu]; rfl) rfl (by decide) rfl rfl (by omega) (by omega) rfl ?_
    intro A4 c4
    repeat first
      | refine X_nil ?_
      | refine XT_only ?_
    refine XT_nodeE (fun _ h => h.none) ?_
    refine TE_tail 13 (by decide +kernel) rfl rfl ?_
    repeat first
      | refine X_nil ?_
      | refine XT_only ?_
      | refine Y_res (r_assign rfl) rfl ?_
    refine XT_nodeW (TN_end (by decide +kernel) ?_)
    repeat first
      | refine XT_seq ?_
      | refine XC_ret ?_
    refine XT_ret1 (.inl rfl) Tryd.results16 rfl (fun w' h => ⟨A4, c4, js ++ [itI .u8 B1 b1 z1], by rw [List.length_append]; rfl, by rw [← hz1]; exact hj.snoc _ _ _, ?_⟩)
    rw [List.map_append, List.length_append]
    exact rpath_end h
end Go.Proofs.YtgnhpkdhicfeiaaDoor.NMk
