/- The hash of a stretch of leaves, out of the tree's rows, and by the document: walked. -/
import Derived.Test.YtgnhpkdhicfeiaaDoorNMk2
namespace Go.Proofs.YtgnhpkdhicfeiaaDoor.NMk
open Go Go.RowKit Go.Proofs.YtgnhpkdhicfeiaaDoor.MX Go.Proofs.YtgnhpkdhicfeiaaDoor.PSha Go.Proofs.YtgnhpkdhicfeiaaDoor.NSha Go.Proofs.YtgnhpkdhicfeiaaDoor.PMerkle
set_option linter.unusedVariables false
set_option linter.unusedSimpArgs false
set_option linter.unusedVariables false
section
variable {P : Program} {n : Nat} {R : Regs} {w0 w : World} {cs : List Ch} {E : TypeId} {k : IntKind} {e : Exit} {fn : Func} {t l cap : Nat} {A : Option Addr} {xs ys : List Int} {put : Ch → List Ch}
/-- What is told is new. -/
theorem XT_tellsBN (he : e = .ret ∨ e = .normal) (hr : fn.results = #[.tmp t]) (hv : R.get t = some (.slice A l cap)) (hl : l = xs.length) [h : PkS A cs cap E k xs put] (hx : xs = ys) :
    XT n (bodyPost P fn (TellsB k w0 w ys)) e R (Hp w (fun _ => False) cs) := XT_ret1 he hr hv fun w' hw => by
  subst hl
  subst hx
  obtain ⟨r, h1, _⟩ := h.ok
  have h2 := hw.of_perm h1
  refine ⟨A, cap, rfl, .inr ⟨fun a ha => ?_, rds_sl h2.head⟩, hw.chg⟩
  subst ha
  exact (h2.own _ (List.mem_cons_self ..) a.block rfl).resolve_left (fun h => h)
/-- What is told was there. -/
theorem XT_tellsBO (he : e = .ret ∨ e = .normal) (hr : fn.results = #[.tmp t]) (hv : R.get t = some (.slice A l cap)) (hl : l = xs.length) (h : Rds w0 A cap k xs) (hx : xs = ys) :
    XT n (bodyPost P fn (TellsB k w0 w ys)) e R (Hp w (fun _ => False) cs) := XT_ret1 he hr hv fun w' hw => by
  subst hl
  subst hx
  exact ⟨A, cap, rfl, .inl h, hw.chg⟩
end
/-- A tree over a list of hashes, read. -/
def TreeAt (w : World) (g : Nat) (l : List (List Int)) : Prop :=
  ∃ A0 R c0, w.cell? ⟨g, 0, none⟩ = some (.slice A0 R c0) ∧ R ≤ c0 ∧ c0 ≤ 9223372036854775807 ∧ (0 < c0 → A0 = some (adOf A0)) ∧ 1 ≤ R ∧ (∀ z, R ≤ z → l.length < 2 ^ z) ∧
    ∀ z, z < R → ∃ Az cz, w.cell? ((adOf A0).add z) = some (.slice Az (l.length / 2 ^ z) cz) ∧ LLs .u8 w Az cz (rowL l z)
theorem TreeAt.keep {w w' : World} {g : Nat} {l : List (List Int)} (h : TreeAt w g l) (hc : Chg (fun _ => False) w w') : TreeAt w' g l := by
  obtain ⟨A0, R, c0, h1, h2, h3, h4, h5, h6, h7⟩ := h
  refine ⟨A0, R, c0, cell_chg h1 hc (fun h => h), h2, h3, h4, h5, h6, fun z hz => ?_⟩
  obtain ⟨Az, cz, k1, k2⟩ := h7 z hz
  exact ⟨Az, cz, cell_chg k1 hc (fun h => h), k2.keep hc (fun _ h => h)⟩
theorem segL_mem {l : List (List Int)} {f t : Nat} {x : List Int} (h : x ∈ segL l f t) : x ∈ l := List.mem_of_mem_drop (List.mem_of_mem_take h)
theorem pow_fact0 : ∀ n : Nat, n < 129 → 1 ≤ n → (bits .and .i64 (n : Int) ((n : Int) - 1) = 0 ↔ n = 2 ^ Nat.log2 n) := by decide +kernel
/-- Where a stretch may begin. -/
def Fits (f n : Nat) : Prop := ∃ z q, f = q * 2 ^ z ∧ n ≤ 2 ^ z
theorem fits_blk {f z len : Nat} (h : Fits f (2 ^ z)) (hl : f + 2 ^ z ≤ len) : f / 2 ^ z * 2 ^ z = f ∧ f / 2 ^ z < len / 2 ^ z := by
  obtain ⟨z', q, rfl, h2⟩ := h
  have hp := Nat.two_pow_pos z
  have hz : z ≤ z' := (Nat.pow_le_pow_iff_right (by omega)).1 h2
  have hd : 2 ^ z ∣ q * 2 ^ z' := Nat.dvd_trans (Nat.pow_dvd_pow 2 hz) ⟨q, Nat.mul_comm _ _⟩
  have h3 := Nat.div_mul_cancel hd
  refine ⟨h3, ?_⟩
  have h4 : q * 2 ^ z' / 2 ^ z + 1 = (q * 2 ^ z' + 2 ^ z) / 2 ^ z := by rw [Nat.add_div_right _ hp]
  have h5 := Nat.div_le_div_right (c := 2 ^ z) hl
  omega
theorem fits_cut {f n : Nat} (h : Fits f n) (hn : 2 ≤ n) : Fits f (cutN n) ∧ Fits (f + cutN n) (n - cutN n) := by
  obtain ⟨z, q, rfl, h2⟩ := h
  obtain ⟨c1, c2, c3⟩ := cutN_bd hn
  have hz : Nat.log2 (n - 1) ≤ z := by
    have : cutN n ≤ 2 ^ z := by omega
    exact (Nat.pow_le_pow_iff_right (by omega)).1 this
  refine ⟨⟨z, q, rfl, by omega⟩, Nat.log2 (n - 1), q * 2 ^ (z - Nat.log2 (n - 1)) + 1, ?_, by show n - cutN n ≤ cutN n; omega⟩
  rw [Nat.add_mul, Nat.one_mul, Nat.mul_assoc, ← Nat.pow_add, show z - Nat.log2 (n - 1) + Nat.log2 (n - 1) = z by omega]
  rfl
set_option maxRecDepth 100000 in
set_option maxHeartbeats 4000000 in
theorem hash_any (l : List (List Int)) (g : Nat) (hl : l.length ≤ 100) (h32 : ∀ x ∈ l, x.length = 32) : ∀ (n f : Nat) (w0 w : World), f + n ≤ l.length → Fits f n → TreeAt w0 g l → KAt KS w0 → TzAt w0 → Chg (fun _ => False) w0 w →
    Calls Tryd.prog 31 #[.pointer (some ⟨g, 0, none⟩), .int .i64 f, .int .i64 ((f + n : Nat) : Int)] w (TellsB .u8 w0 w (rootL (segL l f (f + n)))) := by
  intro n
  induction n using Nat.strongRecOn with
  | ind n ih =>
  intro f w0 w hfl hfit hT0 hK0 hZ0 hc0
  have hT := hT0.keep hc0
  have hK := hK0.keep hc0 (fun h => h)
  have hZ := hZ0.keep hc0
  have hpl : (segL l f (f + n)).length = n := by rw [segL_len (by omega) hfl]; omega
  have hw0 := hK.pos
  refine calls_of_X (vs := [_, _, _]) (M := Hp w (fun _ => False) []) Tryd.func31 rfl Tryd.ntmps31 rfl (Hp.nil _ _) ?_
  have e0 : ((f + n : Nat) : Int) - (f : Int) = (n : Int) := by omega
  repeat first
    | refine XC_region ?_
    | refine X_nil ?_
    | refine XC_seq ?_
    | refine XT_seq ?_
    | refine Y_res (r_move rfl) rfl ?_
    | refine Y_res (r_assign rfl) rfl ?_
    | refine Y_res (r_sub64 rfl rfl (by omega)) rfl ?_
    | refine Y_res (r_eql rfl rfl) rfl ?_
  rw [e0]
  refine XC_condP rfl (fun h0 => ?_) (fun h0 => ?_)
  · obtain rfl : n = 0 := by omega
    have e1 : rootL (segL l f (f + 0)) = sumS KS [] := by
      rw [show segL l f (f + 0) = [] from List.eq_nil_of_length_eq_zero hpl, rootL_0]
    repeat first
      | refine XC_region ?_
      | refine XC_seq ?_
      | refine X_tells (g := 35) (E := 5) (k := .u8) (z := sumS KS []) rfl rfl (fun w1 hM => sum_any KS [] none 0 w1 (Rds.nil_ _ _) (by decide) (hK.keep hM.chg (fun h => h))) ?_
    intro A3 c3 x3 h3
    subst h3
    repeat first
      | refine X_nil ?_
      | refine XT_seq ?_
      | refine XT_then_ret ?_
      | refine XC_ret ?_
      | refine Y_res (r_assign rfl) rfl ?_
    exact XT_tellsBN (.inl rfl) Tryd.results31 rfl rfl e1.symm
  have hpf := pow_fact0 n (by omega) (by omega)
  repeat first
    | refine XC_region ?_
    | refine X_nil ?_
    | refine XC_seq ?_
    | refine XT_seq ?_
    | refine XC_skip ?_
    | refine Y_res (r_move rfl) rfl ?_
    | refine Y_res (r_sub64 rfl rfl (by omega)) rfl ?_
    | refine Y_res (r_and rfl rfl) rfl ?_
    | refine Y_res (r_eql rfl rfl) rfl ?_
  refine XC_condP rfl (fun h1 => ?_) (fun h1 => ?_)
  · have hn2 := hpf.1 h1
    obtain ⟨z, hz⟩ : ∃ z, z = Nat.log2 n := ⟨_, rfl⟩
    rw [← hz] at hn2
    have hz8 : z < 8 := by
      rcases Nat.lt_or_ge z 8 with h | h
      · exact h
      · have := Nat.pow_le_pow_right (n := 2) (by omega) h
        omega
    obtain ⟨A0, R0, c0, t1, t2, t3, t4, t5, t6, t7⟩ := hT0
    replace t1 := cell_chg t1 hc0 (fun h => h)
    have hzR : z < R0 := by
      rcases Nat.lt_or_ge z R0 with h | h
      · exact h
      · have := t6 z h
        omega
    obtain ⟨Az, cz, k1, k2⟩ := t7 z hzR
    replace k1 := cell_chg k1 hc0 (fun h => h)
    have hA0 := t4 (by omega)
    obtain ⟨b1, b2⟩ := fits_blk (f := f) (z := z) (len := l.length) (by rw [← hn2]; exact hfit) (by rw [← hn2]; exact hfl)
    obtain ⟨j, hj⟩ : ∃ j, j = f / 2 ^ z := ⟨_, rfl⟩
    rw [← hj] at b1 b2
    obtain ⟨B, d, q1, q2⟩ := k2.at_ j _ (rowL_get b2)
    replace q1 := cell_chg q1 hc0 (fun h => h)
    have hAz := k2.some (by have := k2.le; rw [rowL_len] at this; omega)
    have e2 : blkL l z j = rootL (segL l f (f + n)) := by
      rw [blkL, b1, Nat.add_mul, Nat.one_mul, b1, ← hn2]
    have e3 : (f : Int) / 2 ^ z = (j : Int) := by
      rw [hj]
      have e4 : (2 : Int) ^ z = ((2 ^ z : Nat) : Int) := (Int.natCast_pow 2 z).symm
      rw [e4]
      exact (Int.natCast_ediv f (2 ^ z)).symm
    repeat first
      | refine XC_region ?_
      | refine XC_quietF rfl (by kernel_rfl) (by kernel_rfl) drw_hp ?_
      | refine X_nil ?_
      | refine XC_seq ?_
      | refine XT_seq ?_
      | refine Y_res (r_move rfl) rfl ?_
      | refine Y_res (r_assign rfl) rfl ?_
      | refine Y_res (r_convuN rfl (by omega)) rfl ?_
      | refine Y_res (r_field' rfl) rfl ?_
      | refine Y_res (r_nilCheck rfl) rfl ?_
      | refine Y_says (g := 41) (v := .int .i64 (z : Int)) rfl rfl (fun w1 hM => by rw [hn2]; exact tz_any z w1 hz8 (hZ.keep hM.chg)) ?_
      | refine Y_res (r_loadO rfl t1 (fun h => h)) rfl ?_
      | refine Y_res (r_indexO rfl rfl hzR hA0) rfl ?_
      | refine Y_res (r_loadO rfl k1 (fun h => h)) rfl ?_
      | refine Y_res (r_shrV (s := z) rfl rfl rfl (by show z < 64; omega)) rfl ?_
    rw [e3]
    repeat first
      | refine XQ_nil ?_
      | refine XT_seq ?_
      | refine XT_then_ret ?_
      | refine XC_ret ?_
      | refine Y_res (r_assign rfl) rfl ?_
      | refine Y_res (r_indexO rfl rfl b2 hAz) rfl ?_
      | refine Y_res (r_loadO rfl q1 (fun h => h)) rfl ?_
    exact XT_tellsBO (.inl rfl) Tryd.results31 rfl rfl q2 e2
  · have hn2 : 2 ≤ n := by
      rcases Nat.lt_or_ge n 2 with h | h
      · obtain rfl : n = 1 := by omega
        exact absurd (hpf.2 rfl) h1
      · exact h
    obtain ⟨c1, c2, c3⟩ := cutN_bd hn2
    obtain ⟨f1, f2⟩ := fits_cut hfit hn2
    obtain ⟨k, hk⟩ : ∃ k, k = cutN n := ⟨_, rfl⟩
    have hroot := rootL_2 (l := segL l f (f + n)) (by omega)
    rw [hpl] at hroot
    rw [← hk] at c1 c2 c3 f1 f2 hroot
    rw [segL_take (by omega), segL_drop (by omega)] at hroot
    repeat first
      | refine XC_region ?_
      | refine X_nil ?_
      | refine XC_seq ?_
      | refine XT_seq ?_
      | refine XC_skip ?_
      | refine Y_res (r_move rfl) rfl ?_
      | refine Y_res (r_assign rfl) rfl ?_
      | refine Y_res (r_add64 rfl rfl (by omega)) rfl ?_
      | refine Y_says (g := 40) (v := .int .i64 (k : Int)) rfl rfl (fun w1 hM => by rw [hk]; exact cut_any n w1 hn2 (by omega)) ?_
      | refine X_tellsB (g := 31) (k := .u8) (xs := rootL (segL l f (f + k))) rfl rfl (fun w1 hM => ih k c2 f w w1 (by omega) f1 hT hK hZ hM.chg) ?_
    intro B1 d1 z1 hz1
    have e5 : f + n = (f + k) + (n - k) := by omega
    repeat first
      | refine Y_res (r_move rfl) rfl ?_
      | refine Y_res (r_add64 rfl rfl (by omega)) rfl ?_
      | refine X_tellsB (g := 31) (k := .u8) (xs := rootL (segL l (f + k) (f + n))) rfl rfl (fun w1 hM => by rw [e5]; exact ih (n - k) (by omega) (f + k) w w1 (by omega) f2 hT hK hZ hM.chg) ?_
    intro B2 d2 z2 hz2
    have l1 : z1.length = 32 := by rw [hz1]; exact rootL_len fun x hx => h32 x (segL_mem hx)
    have l2 : z2.length = 32 := by rw [hz2]; exact rootL_len fun x hx => h32 x (segL_mem hx)
    repeat first
      | refine X_tells (g := 34) (E := 5) (k := .u8) (z := nodeS z1 z2) rfl rfl (fun w1 hM => node_any z1 z2 _ _ _ _ w1 (rds_bag hM.tail.head hM.chg (List.mem_singleton.2 rfl)) (rds_bag hM.head hM.chg (List.mem_singleton.2 rfl)) (by omega) (by omega) (hK.keep hM.chg (fun h => h))) ?_
    intro A3 c3 x3 h3
    subst h3
    repeat first
      | refine X_nil ?_
      | refine XT_seq ?_
      | refine XC_ret ?_
      | refine Y_res (r_assign rfl) rfl ?_
    exact XT_tellsBN (.inl rfl) Tryd.results31 rfl rfl (by rw [hroot, hz1, hz2])
set_option maxRecDepth 100000 in
set_option maxHeartbeats 4000000 in
theorem root_any : ∀ (n : Nat) (L : List (List Int)) (A : Option Addr) (c : Nat) (w0 w : World), L.length = n → n ≤ 100 → (∀ x ∈ L, x.length = 32) → LLs .u8 w0 A c L → Chg (fun _ => False) w0 w →
    Calls Tryd.prog 20 #[.slice A L.length c] w (TellsB .u8 w0 w (rootL L)) := by
  intro n
  induction n using Nat.strongRecOn with
  | ind n ih =>
  intro L A c w0 w hn hn100 h32 hL0 hc0
  have hL := hL0.keep hc0 (fun _ h => h)
  have hle := hL.le
  have hcap := hL.cap
  refine calls_of_X (vs := [_]) (M := Hp w (fun _ => False) []) Tryd.func20 rfl Tryd.ntmps20 rfl (Hp.nil _ _) ?_
  repeat first
    | refine XC_region ?_
    | refine X_nil ?_
    | refine XC_seq ?_
    | refine XT_seq ?_
    | refine Y_res (r_move rfl) rfl ?_
    | refine Y_res (r_assign rfl) rfl ?_
    | refine Y_res (r_eql rfl rfl) rfl ?_
    | refine Y_res (r_len rfl) rfl ?_
  refine XC_condP rfl (fun h0 => ?_) (fun h0 => ?_)
  · have hL0 : L = [] := List.eq_nil_of_length_eq_zero (by omega)
    repeat first
      | refine XC_region ?_
      | refine XC_seq ?_
      | refine X_tells (g := 32) (E := 5) (k := .u8) (z := sumS KS []) rfl rfl (fun w1 hM => refsum_any [] none 0 w1 (Rds.nil_ _ _) (by decide)) ?_
    intro A3 c3 x3 h3
    subst h3
    repeat first
      | refine X_nil ?_
      | refine XT_seq ?_
      | refine XT_then_ret ?_
      | refine XC_ret ?_
      | refine Y_res (r_assign rfl) rfl ?_
    exact XT_tellsBN (.inl rfl) Tryd.results20 rfl rfl (by rw [hL0, rootL_0])
  repeat first
    | refine XC_region ?_
    | refine X_nil ?_
    | refine XC_seq ?_
    | refine XT_seq ?_
    | refine XC_skip ?_
    | refine Y_res (r_move rfl) rfl ?_
    | refine Y_res (r_eql rfl rfl) rfl ?_
    | refine Y_res (r_len rfl) rfl ?_
  refine XC_condP rfl (fun h1 => ?_) (fun h1 => ?_)
  · have hA := hL.some (by omega)
    obtain ⟨x, hx⟩ : ∃ x, L[0]? = some x := ⟨L[0], List.getElem?_eq_getElem (by omega)⟩
    obtain ⟨B, d, q1, q2⟩ := hL0.at_ 0 x hx
    have q3 := cell_chg q1 hc0 (fun h => h)
    have hLx : L = [x] := by
      match L, hx with
      | [y], hx => rw [← Option.some.inj hx]
      | y :: y2 :: L, _ => simp at h1; omega
    have h0n : 0 < L.length := by omega
    repeat first
      | refine XC_region ?_
      | refine X_nil ?_
      | refine XC_seq ?_
      | refine XT_seq ?_
      | refine XT_then_ret ?_
      | refine XC_ret ?_
      | refine Y_res (r_move rfl) rfl ?_
      | refine Y_res (r_assign rfl) rfl ?_
      | refine Y_res (r_indexO rfl rfl h0n hA) rfl ?_
      | refine Y_res (r_loadO rfl q3 (fun h => h)) rfl ?_
    exact XT_tellsBO (.inl rfl) Tryd.results20 rfl rfl q2 (by rw [hLx, rootL_1])
  have hn2 : 2 ≤ L.length := by omega
  obtain ⟨c1, c2, c3⟩ := cutN_bd hn2
  have hroot := rootL_2 hn2
  obtain ⟨k, hk⟩ : ∃ k, k = cutN L.length := ⟨_, rfl⟩
  rw [← hk] at c1 c2 c3 hroot
  have hlt : (L.take k).length = k := by simp only [List.length_take]; omega
  have hld : (L.drop k).length = L.length - k := by simp only [List.length_drop]
  repeat first
    | refine XC_region ?_
    | refine X_nil ?_
    | refine XC_seq ?_
    | refine XT_seq ?_
    | refine XC_skip ?_
    | refine Y_res (r_move rfl) rfl ?_
    | refine Y_res (r_assign rfl) rfl ?_
    | refine Y_res (r_len rfl) rfl ?_
    | refine Y_says (g := 28) (v := .int .i64 (k : Int)) rfl rfl (fun w1 hM => by rw [hk]; exact rcut_any _ w1 hn2 (by omega)) ?_
  refine XC_held 9 (Hp w (fun _ => False) []) rfl drw_hp (fun _ h => h) ?_
  refine TE_reads [0, 1, 2, 4, 5, 6] (by decide +kernel) (by decide +kernel) rfl ?_
  repeat first
    | refine Y_res (r_move rfl) rfl ?_
    | refine Y_res (r_cutL rfl rfl (by omega)) rfl ?_
    | refine Y_res (r_cut0 rfl rfl (by omega)) rfl ?_
  refine XQ_nodeE ?_
  refine TE_one 3 (by decide +kernel) rfl rfl ?_
  refine X_tellsB (g := 20) (k := .u8) (xs := rootL (L.take k)) rfl rfl (fun w1 hM => by
    have := ih k (by omega) (L.take k) A c w w1 hlt (by omega) (fun x hx => h32 x (List.mem_of_mem_take hx)) (hL.take k) hM.chg
    rwa [hlt] at this) ?_
  intro B1 d1 z1 hz1
  repeat first
    | refine X_nil ?_
    | refine XT_only ?_
  refine XT_nodeE (fun _ h => h.none) ?_
  refine TE_one 7 (by decide +kernel) rfl rfl ?_
  refine X_tellsB (g := 20) (k := .u8) (xs := rootL (L.drop k)) rfl rfl (fun w1 hM => by
    have := ih (L.length - k) (by omega) (L.drop k) (cutA A k c 1) (c - k) w w1 hld (by omega) (fun x hx => h32 x (List.mem_of_mem_drop hx)) (hL.drop k (by omega)) hM.chg
    rwa [hld] at this) ?_
  intro B2 d2 z2 hz2
  repeat first
    | refine X_nil ?_
    | refine XT_only ?_
  refine XT_nodeE (fun _ h => h.none) ?_
  have l1 : z1.length = 32 := by rw [hz1]; exact rootL_len fun x hx => h32 x (List.mem_of_mem_take hx)
  have l2 : z2.length = 32 := by rw [hz2]; exact rootL_len fun x hx => h32 x (List.mem_of_mem_drop hx)
  refine TE_one 8 (by decide +kernel) rfl rfl ?_
  refine X_tells (g := 33) (E := 5) (k := .u8) (z := nodeS z1 z2) rfl rfl (fun w1 hM => rnode_any z1 z2 _ _ _ _ w1 (rds_bag hM.tail.head hM.chg (List.mem_singleton.2 rfl)) (rds_bag hM.head hM.chg (List.mem_singleton.2 rfl)) (by omega) (by omega)) ?_
  intro A3 c3 x3 h3
  subst h3
  repeat first
    | refine X_nil ?_
    | refine XT_only ?_
  refine XT_nodeE (fun _ h => h.none) ?_
  refine TE_tail 9 (by decide +kernel) rfl rfl ?_
  repeat first
    | refine X_nil ?_
    | refine XT_only ?_
    | refine Y_res (r_assign rfl) rfl ?_
  refine XT_nodeW (TN_end (by decide +kernel) ?_)
  repeat first
    | refine XT_seq ?_
    | refine XC_ret ?_
  exact XT_tellsBN (.inl rfl) Tryd.results20 rfl rfl (by rw [hroot, hz1, hz2])
end Go.Proofs.YtgnhpkdhicfeiaaDoor.NMk
