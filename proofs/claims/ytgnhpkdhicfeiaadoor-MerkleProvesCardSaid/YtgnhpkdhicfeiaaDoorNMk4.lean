/- A tree made, a leaf added: walked. -/
import Derived.Test.YtgnhpkdhicfeiaaDoorNMk3
namespace Go.Proofs.YtgnhpkdhicfeiaaDoor.NMk
open Go Go.RowKit Go.Proofs.YtgnhpkdhicfeiaaDoor.MX Go.Proofs.YtgnhpkdhicfeiaaDoor.PSha Go.Proofs.YtgnhpkdhicfeiaaDoor.NSha Go.Proofs.YtgnhpkdhicfeiaaDoor.PMerkle
set_option linter.unusedVariables false
set_option linter.unusedSimpArgs false
set_option linter.unusedVariables false
abbrev rowC (r : It) : Ch := Ch.sv r.A r.c 34 1 r.l r.vs
/-- A tree's memory. -/
def TrC (g : Nat) (A0 : Option Addr) (c0 : Nat) (rows its : List It) : List Ch :=
  Ch.blk g [.slice A0 rows.length c0] 53 :: Ch.sv A0 c0 22 1 rows.length (rows.map It.val) :: Ch.bagN its :: rows.map rowC
/-- A row holds the whole blocks' roots. -/
structure RowOk (l : List (List Int)) (its : List It) (z : Nat) (r : It) : Prop where
  ln : r.l = l.length / 2 ^ z
  vl : r.vs.length = r.l
  at_ : ∀ j, j < r.l → ∃ B d, itI .u8 B d (blkL l z j) ∈ its ∧ r.vs[j]? = some (.slice B (blkL l z j).length d)
theorem RowOk.mono {l : List (List Int)} {its jts : List It} {z : Nat} {r : It} (h : RowOk l its z r) (hs : ∀ it ∈ its, it ∈ jts) : RowOk l jts z r := ⟨h.ln, h.vl, fun j hj => by
  obtain ⟨B, d, h1, h2⟩ := h.at_ j hj
  exact ⟨B, d, hs _ h1, h2⟩⟩
def TrOk (l : List (List Int)) (rows its : List It) : Prop :=
  1 ≤ rows.length ∧ (∀ z, z < rows.length → z = 0 ∨ 2 ^ z ≤ l.length) ∧ (∀ z, rows.length ≤ z → l.length < 2 ^ z) ∧ ∀ (z : Nat) (r : It), rows[z]? = some r → RowOk l its z r
theorem TrOk.bd {l : List (List Int)} {rows its : List It} (h : TrOk l rows its) : rows.length ≤ l.length + 1 := by
  rcases h.2.1 (rows.length - 1) (by have := h.1; omega) with h1 | h1
  · omega
  · have := Nat.lt_two_pow_self (n := rows.length - 1)
    omega
theorem treeAt_of {w0 w : World} {S : Nat → Prop} {es : List Ch} {g c0 : Nat} {A0 : Option Addr} {rows its : List It} {l : List (List Int)} (h : Hp w0 S (TrC g A0 c0 rows its ++ es) w) (ht : TrOk l rows its) : TreeAt w g l := by
  have h1 : (Ch.blk g [Value.slice A0 rows.length c0] 53).P w := h.sat _ (by simp [TrC])
  have h2 : (Ch.sv A0 c0 22 1 rows.length (rows.map It.val)).P w := h.sat _ (by simp [TrC])
  have h3 : (Ch.bagN its).P w := h.sat _ (by simp [TrC])
  have h4 : ∀ r ∈ rows, (rowC r).P w := fun r hr => h.sat _ (by simp only [TrC, List.cons_append]; exact List.mem_cons_of_mem _ (List.mem_cons_of_mem _ (List.mem_cons_of_mem _ (List.mem_append_left _ (List.mem_map.2 ⟨r, hr, rfl⟩)))))
  have r2 := rdv_sv h2
  obtain ⟨k1, k2, k3, k4⟩ := ht
  refine ⟨A0, rows.length, c0, ?_, r2.le, r2.cap, fun hp => r2.some hp, k1, k3, fun z hz => ?_⟩
  · have h1 : w.heap[g]? = some (.cells [Value.slice A0 rows.length c0].toArray 53 (0, 0)) := h1
    simp [World.cell?, h1]
  · obtain ⟨r, hr⟩ : ∃ r, rows[z]? = some r := ⟨rows[z], List.getElem?_eq_getElem hz⟩
    have r4 := rdv_sv (h4 r (List.mem_of_getElem? hr))
    obtain ⟨e1, _, e2⟩ := k4 z r hr
    refine ⟨r.A, r.c, ?_, ⟨by rw [rowL_len, ← e1]; exact r4.le, r4.cap, r4.nil, fun i x hx => ?_⟩⟩
    · rw [r2.at_ z r.val (by rw [List.getElem?_map, hr]; rfl), ← e1]; rfl
    · have hi := (List.getElem?_eq_some_iff.1 hx).1
      rw [rowL_len] at hi
      rw [rowL_get hi] at hx
      obtain rfl := Option.some.inj hx
      obtain ⟨B, d, q1, q2⟩ := e2 i (by omega)
      exact ⟨B, d, r4.at_ i _ q2, RdV.toS (bagN_rd h3 q1)⟩
set_option maxHeartbeats 1000000 in
theorem new_any (w : World) : Calls Tryd.prog 25 #[] w fun e w' => ∃ g A0 c0 rows, e = .returned (.pointer (some ⟨g, 0, none⟩)) ∧ TrOk [] rows [] ∧ Hp w (fun _ => False) (TrC g A0 c0 rows []) w' := by
  refine calls_of_X (vs := []) (M := Hp w (fun _ => False) []) Tryd.func25 rfl Tryd.ntmps25 rfl (Hp.nil _ _) ?_
  repeat first
    | refine XC_region ?_
    | refine X_nil ?_
    | refine XC_seq ?_
    | refine XT_seq ?_
    | refine Y_res (r_assign rfl) rfl ?_
    | (refine X_makeV rfl rfl rfl (by omega) (by omega) (by omega) rfl ?_; intro _ _)
  rename_i g0 hg0
  refine Y_res (r_buildX (v := .agg [.slice (some ⟨g0, 0, none⟩) 1 1].toArray) rfl (fun w => by kernel_rfl)) rfl ?_
  refine X_boxA (vs := [.slice (some ⟨g0, 0, none⟩) 1 1]) rfl rfl (fun g hg => ?_)
  repeat first
    | refine X_nil ?_
    | refine XT_seq ?_
    | refine XC_ret ?_
    | refine Y_res (r_assign rfl) rfl ?_
  refine XT_ret1 (.inl rfl) Tryd.results25 rfl (fun w' h => ⟨g, some ⟨g0, 0, none⟩, 1, [⟨none, 0, 0, []⟩], rfl, ⟨Nat.le_refl _, fun z hz => ?_, fun z hz => ?_, fun z r hr => ?_⟩, ?_⟩)
  · left; simp at hz; exact hz
  · exact Nat.two_pow_pos z
  · match z, hr with
    | 0, hr =>
      obtain rfl := Option.some.inj hr
      exact ⟨by simp, rfl, fun j hj => by simp at hj⟩
  · have h1 := h.nilV 34 1
    have h2 := h1.bagN0
    have h3 := h2.of_perm (List.perm_append_comm (l₁ := [Ch.bagN [], Ch.sv none 0 34 1 0 []]) (l₂ := [_, _]))
    exact h3.of_perm (List.Perm.refl _)
/-- Where the adding of a leaf stands: below z the rows are those of the new list. -/
structure Mid (l : List (List Int)) (x : List Int) (z : Nat) (rows its : List It) : Prop where
  dv : (l.length + 1) % 2 ^ z = 0
  le : z ≤ rows.length
  one : 1 ≤ rows.length
  full : ∀ z, z < rows.length → z = 0 ∨ 2 ^ z ≤ l.length + 1
  out : ∀ z', rows.length ≤ z' → l.length < 2 ^ z'
  lo : ∀ (z' : Nat) (r : It), z' < z → rows[z']? = some r → RowOk (l ++ [x]) its z' r
  hi : ∀ (z' : Nat) (r : It), z ≤ z' → rows[z']? = some r → RowOk l its z' r
theorem Mid.bd {l : List (List Int)} {x : List Int} {z : Nat} {rows its : List It} (h : Mid l x z rows its) : rows.length ≤ l.length + 2 := by
  rcases h.full (rows.length - 1) (by have := h.one; omega) with h1 | h1
  · omega
  · have := Nat.lt_two_pow_self (n := rows.length - 1)
    omega
theorem Mid.start {l : List (List Int)} {x : List Int} {rows its : List It} (h : TrOk l rows its) : Mid l x 0 rows its :=
  ⟨by rw [Nat.pow_zero, Nat.mod_one], Nat.zero_le _, h.1, fun z hz => (h.2.1 z hz).imp id (fun h => by omega), h.2.2.1, fun z r hz => by omega, fun z r _ hr => h.2.2.2 z r hr⟩
/-- A row that was not there yet. -/
theorem Mid.row {l : List (List Int)} {x : List Int} {rows its : List It} (h : Mid l x rows.length rows its) : Mid l x rows.length (rows ++ [⟨none, 0, 0, []⟩]) its := by
  have h0 := h.out rows.length (Nat.le_refl _)
  have hN : 2 ^ rows.length ≤ l.length + 1 := Nat.le_of_dvd (by omega) (Nat.dvd_of_mod_eq_zero h.dv)
  refine ⟨h.dv, by simp, by simp, fun z hz => ?_, fun z hz => ?_, fun z r hz hr => ?_, fun z r hz hr => ?_⟩
  · rw [List.length_append, List.length_singleton] at hz
    rcases Nat.lt_or_ge z rows.length with h1 | h1
    · exact h.full z h1
    · obtain rfl : z = rows.length := by omega
      exact .inr hN
  · rw [List.length_append, List.length_singleton] at hz
    exact h.out z (by omega)
  · rw [List.getElem?_append_left hz] at hr
    exact h.lo z r hz hr
  · rw [List.getElem?_append_right hz] at hr
    have h1 : z - rows.length = 0 := by
      have := (List.getElem?_eq_some_iff.1 hr).1
      simpa using this
    rw [h1] at hr
    obtain rfl := Option.some.inj hr
    refine ⟨?_, rfl, fun j hj => by simp at hj⟩
    obtain rfl : z = rows.length := by omega
    exact (Nat.div_eq_of_lt h0).symm
/-- The hash that comes into row z. -/
def upS (l : List (List Int)) (x : List Int) (z : Nat) : List Int := blkL (l ++ [x]) z ((l.length + 1) / 2 ^ z - 1)
theorem div_pred {n p : Nat} (hp : 0 < p) (h : (n + 1) % p = 0) : n / p = (n + 1) / p - 1 ∧ 1 ≤ (n + 1) / p := by
  obtain ⟨q, hq⟩ := Nat.dvd_of_mod_eq_zero h
  have hq0 : 0 < q := by
    rcases Nat.eq_zero_or_pos q with h0 | h0
    · rw [h0] at hq; omega
    · exact h0
  rw [hq, Nat.mul_div_cancel_left _ hp]
  refine ⟨?_, hq0⟩
  have h1 : n = p * (q - 1) + (p - 1) := by
    have : p * q = p * (q - 1) + p := by
      rw [show q = (q - 1) + 1 by omega, Nat.mul_add, Nat.mul_one]; rfl
    omega
  rw [h1, Nat.add_comm, Nat.add_mul_div_left _ _ hp, Nat.div_eq_of_lt (by omega)]
  omega
/-- The hash has come into row z. -/
theorem Mid.put {l : List (List Int)} {x : List Int} {pre post its : List It} {r : It} {B A' : Option Addr} {d c' : Nat} (h : Mid l x pre.length (pre ++ r :: post) its) :
    RowOk (l ++ [x]) (itI .u8 B d (upS l x pre.length) :: its) pre.length ⟨A', c', r.l + 1, r.vs ++ [.slice B (upS l x pre.length).length d]⟩ := by
  have hr := h.hi pre.length r (Nat.le_refl _) (by rw [List.getElem?_append_right (Nat.le_refl _), Nat.sub_self]; rfl)
  obtain ⟨e1, hv, e2⟩ := hr
  obtain ⟨d1, d2⟩ := div_pred (Nat.two_pow_pos pre.length) h.dv
  refine ⟨by rw [List.length_append, List.length_singleton]; dsimp only; omega, by dsimp only; rw [List.length_append, hv]; rfl, fun j hj => ?_⟩
  dsimp only at hj
  rcases Nat.lt_or_ge j r.l with h1 | h1
  · obtain ⟨B1, d1, q1, q2⟩ := e2 j h1
    have hfit := blk_fits (n := l.length) (z := pre.length) (j := j) (by omega)
    rw [blkL_app x hfit]
    exact ⟨B1, d1, List.mem_cons_of_mem _ q1, by rw [List.getElem?_append_left (by omega)]; exact q2⟩
  · obtain rfl : j = r.l := by omega
    have : blkL (l ++ [x]) pre.length r.l = upS l x pre.length := by
      unfold upS
      congr 1
      omega
    rw [this]
    exact ⟨B, d, List.mem_cons_self .., by rw [List.getElem?_append_right (by omega), hv, Nat.sub_self]; rfl⟩
theorem rows_get (pre post : List It) (r r' : It) (k : Nat) : (pre ++ r' :: post)[k]? = if k = pre.length then some r' else (pre ++ r :: post)[k]? := by
  rcases Nat.lt_trichotomy k pre.length with h | h | h
  · rw [if_neg (by omega), List.getElem?_append_left h, List.getElem?_append_left h]
  · subst h
    rw [if_pos rfl, List.getElem?_append_right (Nat.le_refl _), Nat.sub_self]; rfl
  · rw [if_neg (by omega), List.getElem?_append_right (by omega), List.getElem?_append_right (by omega)]
    obtain ⟨m, hm⟩ : ∃ m, k - pre.length = m + 1 := ⟨k - pre.length - 1, by omega⟩
    rw [hm]; rfl
theorem div_same {n p : Nat} (hp : 0 < p) (h : (n + 1) % p ≠ 0) : (n + 1) / p = n / p := by
  have h1 := Nat.div_add_mod (n + 1) p
  have h2 := Nat.mod_lt (n + 1) hp
  generalize (n + 1) % p = m at h h1 h2
  generalize (n + 1) / p = q at h1 ⊢
  have h3 : n = (m - 1) + p * q := by omega
  rw [h3, Nat.add_mul_div_left _ _ hp, Nat.div_eq_of_lt (by omega), Nat.zero_add]
theorem odd_nd {n z z' : Nat} (h1 : n / 2 ^ z % 2 = 1) (hz : z < z') : n % 2 ^ z' ≠ 0 := fun h => by
  obtain ⟨q, hq⟩ := Nat.dvd_of_mod_eq_zero h
  have e : 2 ^ z' = 2 ^ z * (2 * 2 ^ (z' - z - 1)) := by
    rw [← Nat.pow_succ', ← Nat.pow_add]
    congr 1
    omega
  rw [hq, e, Nat.mul_assoc, Nat.mul_div_cancel_left _ (Nat.two_pow_pos z), Nat.mul_assoc] at h1
  omega
theorem Mid.fin {l : List (List Int)} {x : List Int} {pre post its jts : List It} {r r' : It} (h : Mid l x pre.length (pre ++ r :: post) its) (hr : RowOk (l ++ [x]) jts pre.length r') (hs : ∀ it ∈ its, it ∈ jts) (ho : (l.length + 1) / 2 ^ pre.length % 2 = 1) : TrOk (l ++ [x]) (pre ++ r' :: post) jts := by
  have hll : (l ++ [x]).length = l.length + 1 := by simp
  have hlen : (pre ++ r' :: post).length = (pre ++ r :: post).length := by simp
  refine ⟨by rw [hlen]; exact h.one, fun z hz => ?_, fun z hz => ?_, fun z q hq => ?_⟩
  · rw [hll]; exact h.full z (by omega)
  · rw [hll]
    have h1 := h.out z (by omega)
    have h2 := odd_nd ho (z' := z) (by rw [← hlen] at *; simp at hz; omega)
    rcases Nat.lt_or_ge (l.length + 1) (2 ^ z) with h3 | h3
    · exact h3
    · have : l.length + 1 = 2 ^ z := by omega
      rw [this, Nat.mod_self] at h2
      exact absurd rfl h2
  · rw [rows_get pre post r r' z] at hq
    by_cases e : z = pre.length
    · rw [if_pos e] at hq
      obtain rfl := Option.some.inj hq
      rw [e]; exact hr
    · rw [if_neg e] at hq
      rcases Nat.lt_or_ge z pre.length with h1 | h1
      · exact (h.lo z q h1 hq).mono hs
      · have h2 := (h.hi z q (by omega) hq).mono hs
        refine ⟨by rw [hll, div_same (Nat.two_pow_pos z) (odd_nd ho (by omega))]; exact h2.ln, h2.vl, fun j hj => ?_⟩
        have := h2.ln
        rw [blkL_app x (blk_fits (n := l.length) (by omega))]
        exact h2.at_ j hj
theorem Mid.next {l : List (List Int)} {x : List Int} {pre post its jts : List It} {r r' : It} (h : Mid l x pre.length (pre ++ r :: post) its) (hr : RowOk (l ++ [x]) jts pre.length r') (hs : ∀ it ∈ its, it ∈ jts) (ho : (l.length + 1) / 2 ^ pre.length % 2 ≠ 1) :
    Mid l x (pre.length + 1) (pre ++ r' :: post) jts ∧ 2 ≤ (l.length + 1) / 2 ^ pre.length ∧ upS l x (pre.length + 1) = nodeS (blkL (l ++ [x]) pre.length ((l.length + 1) / 2 ^ pre.length - 2)) (upS l x pre.length) := by
  have hll : (l ++ [x]).length = l.length + 1 := by simp
  have hlen : (pre ++ r' :: post).length = (pre ++ r :: post).length := by simp
  have hp := Nat.two_pow_pos pre.length
  obtain ⟨_, d2⟩ := div_pred hp h.dv
  obtain ⟨q, hq⟩ : ∃ q, (l.length + 1) / 2 ^ pre.length = 2 * (q + 1) := ⟨(l.length + 1) / 2 ^ pre.length / 2 - 1, by omega⟩
  have hN : l.length + 1 = 2 ^ (pre.length + 1) * (q + 1) := by
    have h1 := Nat.div_add_mod (l.length + 1) (2 ^ pre.length)
    rw [h.dv, hq] at h1
    rw [Nat.pow_succ, Nat.mul_assoc]
    omega
  refine ⟨⟨by rw [hN, Nat.mul_mod_right], by simp, by rw [hlen]; exact h.one, fun z hz => h.full z (by omega), fun z hz => h.out z (by omega), fun z p hz hq => ?_, fun z p hz hq => ?_⟩, by omega, ?_⟩
  · rw [rows_get pre post r r' z] at hq
    by_cases e : z = pre.length
    · rw [if_pos e] at hq
      obtain rfl := Option.some.inj hq
      rw [e]; exact hr
    · rw [if_neg e] at hq
      exact (h.lo z p (by omega) hq).mono hs
  · rw [rows_get pre post r r' z, if_neg (by omega)] at hq
    exact (h.hi z p (by omega) hq).mono hs
  · unfold upS
    have e1 : (l.length + 1) / 2 ^ (pre.length + 1) - 1 = q := by
      rw [hN, Nat.mul_div_cancel_left _ (Nat.two_pow_pos _)]; rfl
    rw [e1, hq, blkL_succ (by rw [hll, hN]; exact Nat.le_of_eq (Nat.mul_comm _ _))]
    congr 2
set_option maxRecDepth 100000 in
set_option maxHeartbeats 8000000 in
/-- A leaf is added. -/
theorem add_any (l : List (List Int)) (d : List Int) (g c0 : Nat) (A0 : Option Addr) (rows its : List It) (TS : Nat → Prop) (A : Option Addr) (c : Nat) (w : World) (hT : Hp w TS (TrC g A0 c0 rows its) w) (ht : TrOk l rows its)
    (hr : Rds w A c .u8 d) (hd : d.length ≤ 100000) (hA : d ≠ [] → Old TS A) (hl : l.length ≤ 200) (h32 : ∀ x ∈ l, x.length = 32) (hK : KAt KS w) (hTS : ¬ TS 2) :
    Calls Tryd.prog 21 #[.pointer (some ⟨g, 0, none⟩), .slice A d.length c] w fun e w' => e = .returned (.tuple #[]) ∧ ∃ A0' c0' rows' its', TrOk (l ++ [leafS d]) rows' its' ∧ Hp w TS (TrC g A0' c0' rows' its') w' := by
  have hw0 := hK.pos
  have hle := hr.le
  have hr' : ∀ w1, Chg TS w w1 → Rds w1 A c .u8 d := fun w1 hc => by
    by_cases e : d = []
    · subst e
      exact ⟨hr.le, hr.cap, hr.nil, fun j hj => by simp at hj⟩
    · exact hr.keep hc (hA e)
  refine calls_of_X (vs := [_, _]) (M := Hp w TS (TrC g A0 c0 rows its)) Tryd.func21 rfl Tryd.ntmps21 rfl hT ?_
  have e0 : upS l (leafS d) 0 = leafS d := blkL_0 (by
    rw [Nat.pow_zero, Nat.div_one, Nat.add_sub_cancel, List.getElem?_append_right (Nat.le_refl _), Nat.sub_self]; rfl)
  repeat first
    | refine XC_region ?_
    | refine XC_seq ?_
    | refine Y_res (r_move rfl) rfl ?_
    | refine X_tells (g := 22) (E := 5) (k := .u8) (z := upS l (leafS d) 0) rfl rfl (fun w1 hM => by rw [e0]; exact leaf_any d A c w1 (hr' w1 hM.chg) hd (hK.keep hM.chg hTS)) ?_
  intro A3 c3 x3 h3
  subst h3
  have hm := Mid.start (x := leafS d) ht
  have hK := Lib.hid hK
  clear e0 hT hr
  repeat first
    | refine XC_region ?_
    | refine X_nil ?_
    | refine XC_seq ?_
    | refine XT_seq ?_
    | refine XC_block ?_
    | refine Y_res (r_assign rfl) rfl ?_
  refine XC_loop (ι := Nat × List It × List It × Option Addr × Nat × Option Addr × Nat) (fun s => Mid l (leafS d) s.1 s.2.1 s.2.2.1) (fun s => [(0, .pointer (some ⟨g, 0, none⟩)), (4, .slice s.2.2.2.2.2.1 (upS l (leafS d) s.1).length s.2.2.2.2.2.2), (5, .int .i64 s.1)])
    (fun s => Hp w TS (Ch.sl s.2.2.2.2.2.1 s.2.2.2.2.2.2 5 .u8 (upS l (leafS d) s.1) :: TrC g s.2.2.2.1 s.2.2.2.2.1 s.2.1 s.2.2.1)) (fun s => l.length + 3 - s.1) (0, rows, its, A0, c0, A3, c3) hm ⟨rfl, rfl, rfl, trivial⟩ (fun _ h => h) ?_
  clear ht hm
  rintro ⟨z, rows, its, A0, c0, A3, c3⟩ hm
  dsimp only at hm ⊢
  unfold TrC
  have hbd := hm.bd
  have hzl := hm.le
  repeat first
    | refine XC_region ?_
    | refine X_nil ?_
    | refine XC_seq ?_
    | refine XT_seq ?_
    | refine XC_block ?_
    | refine Y_res (r_move rfl) rfl ?_
    | refine Y_res (r_eql rfl rfl) rfl ?_
    | refine Y_res (r_len rfl) rfl ?_
    | refine Y_res (r_field' rfl) rfl ?_
    | refine Y_res (r_nilCheck rfl) rfl ?_
    | refine Y_res (r_loadB rfl rfl) rfl ?_
  refine XC_mid (ι := List It × Option Addr × Nat) (fun s => Mid l (leafS d) z s.1 its ∧ z < s.1.length) (fun s => [(0, .pointer (some ⟨g, 0, none⟩)), (4, .slice A3 (upS l (leafS d) z).length c3), (5, .int .i64 z)]) (fun s => Hp w TS (Ch.sl A3 c3 5 .u8 (upS l (leafS d) z) :: TrC g s.2.1 s.2.2 s.1 its)) ?_ ?_
  · refine XC_condP rfl (fun he => ?_) (fun he => ?_)
    · have he : z = rows.length := by omega
      subst he
      repeat first
        | refine XC_region ?_
        | refine X_nil ?_
        | refine Y_res (r_move rfl) rfl ?_
        | refine Y_res (r_field' rfl) rfl ?_
        | refine Y_res (r_nilCheck rfl) rfl ?_
        | refine Y_res (r_loadB rfl rfl) rfl ?_
        | (refine X_buildV rfl rfl (fun u hu => by simp at hu; rw [hu]; rfl) rfl (by simp) rfl ?_; intro _ _)
        | (refine X_appendV rfl rfl (fun w_ hM => rdv_blk (r := []) hM.head (List.append_nil _).symm rfl (Nat.le_refl 1) (by decide)) (fun u hu => by simp at hu; rw [hu]; rfl) rfl (by decide) rfl rfl (by omega) (by omega) rfl ?_; intro _ _)
        | refine X_storeB (i := 0) rfl rfl rfl (Nat.lt_succ_self _) ?_
      rename_i g2 hg2 A0' c0'
      refine XT_mid (rows ++ [⟨none, 0, 0, []⟩], A0', c0') ⟨hm.row, by simp⟩ ⟨rfl, rfl, rfl, trivial⟩ (fun _ h => ?_)
      have h1 := h.tail.nilV 34 1
      have h2 := h1.of_perm (List.perm_append_comm (l₁ := [Ch.sv none 0 34 1 0 []]) (l₂ := _ :: _ :: _ :: _ :: rows.map rowC))
      have e1 : (rows ++ [(⟨none, 0, 0, []⟩ : It)]).length = rows.length + 1 := by simp
      have e2 : (rows ++ [(⟨none, 0, 0, []⟩ : It)]).map rowC = rows.map rowC ++ [rowC ⟨none, 0, 0, []⟩] := by rw [List.map_append]; rfl
      have e3 : (rows ++ [(⟨none, 0, 0, []⟩ : It)]).map It.val = rows.map It.val ++ [Value.slice none 0 0] := by rw [List.map_append]; rfl
      show Hp w TS (Ch.sl A3 c3 5 .u8 (upS l (leafS d) rows.length) :: TrC g A0' c0' (rows ++ [⟨none, 0, 0, []⟩]) its) _
      rw [TrC, e1, e2, e3]
      exact h2
    · repeat first
        | refine XC_skip ?_
      exact XT_mid (rows, A0, c0) ⟨hm, by dsimp only; omega⟩ ⟨rfl, rfl, rfl, trivial⟩ (fun _ h => h)
  clear hm hbd hzl
  rintro ⟨rows, A0, c0⟩ ⟨hm, hzl⟩
  dsimp only at hm hzl ⊢
  have hbd := hm.bd
  obtain ⟨pre, r, post, rfl, rfl⟩ : ∃ (pre : List It) (r : It) (post : List It), rows = pre ++ r :: post ∧ z = pre.length :=
    ⟨rows.take z, rows[z], rows.drop (z + 1), by rw [← List.drop_eq_getElem_cons hzl, List.take_append_drop], by rw [List.length_take]; omega⟩
  have hget : ((pre ++ r :: post).map It.val)[pre.length]? = some r.val := by
    rw [List.getElem?_map, List.getElem?_append_right (Nat.le_refl _), Nat.sub_self]; rfl
  have hrow := hm.hi pre.length r (Nat.le_refl _) (by rw [List.getElem?_append_right (Nat.le_refl _), Nat.sub_self]; rfl)
  obtain ⟨d1, d2⟩ := div_pred (Nat.two_pow_pos pre.length) hm.dv
  have hdl := Nat.div_le_self (l.length + 1) (2 ^ pre.length)
  obtain ⟨n, hn⟩ : ∃ n, n = (l.length + 1) / 2 ^ pre.length := ⟨_, rfl⟩
  have hrl : r.l + 1 = n := by have := hrow.ln; omega
  rw [← hn] at d1 d2 hdl
  obtain ⟨X, hX⟩ : ∃ X, X = upS l (leafS d) pre.length := ⟨_, rfl⟩
  have h32' : ∀ x ∈ l ++ [leafS d], x.length = 32 := fun x hx => by
    rcases List.mem_append.1 hx with hx | hx
    · exact h32 x hx
    · rw [List.mem_singleton.1 hx]; rfl
  have hbl : ∀ z j, (blkL (l ++ [leafS d]) z j).length = 32 := fun z j => rootL_len fun x hx => h32' x (segL_mem hx)
  have hXl : X.length = 32 := by rw [hX]; exact hbl _ _
  obtain ⟨Rn, hRn⟩ : ∃ Rn, Rn = (pre ++ r :: post).length := ⟨_, rfl⟩
  rw [← hRn] at hzl hbd
  refine XC_mem (M' := Hp w TS (Ch.sv r.A r.c 34 1 r.l r.vs :: Ch.sl A3 c3 5 .u8 X :: Ch.blk g [.slice A0 Rn c0] 53 :: Ch.sv A0 c0 22 1 Rn ((pre ++ r :: post).map It.val) :: Ch.bagN its :: (pre ++ post).map rowC)) (fun _ h => ?_) ?_
  · have e : (pre ++ r :: post).map rowC = pre.map rowC ++ rowC r :: post.map rowC := by rw [List.map_append]; rfl
    rw [TrC, e, ← hX, ← hRn] at h
    have h2 := Hp.mv (_ :: _ :: _ :: _ :: pre.map rowC) h
    rw [show (pre ++ post).map rowC = pre.map rowC ++ post.map rowC from List.map_append]
    exact h2
  rw [← hX]
  repeat first
    | refine XC_seq ?_
  refine XC_held 16 (Hp w TS [Ch.blk g [.slice A0 Rn c0] 53, Ch.sv A0 c0 22 1 Rn ((pre ++ r :: post).map It.val)]) rfl drw_hp (fun _ h => h.sublist (.cons _ (.cons _ (.cons_cons _ (.cons_cons _ (List.nil_sublist _)))))) ?_
  refine TE_reads [0, 1, 2, 3, 4, 5, 6, 7, 8, 9, 10, 11, 12] (by decide +kernel) (by decide +kernel) rfl ?_
  repeat first
    | refine Y_res (r_move rfl) rfl ?_
    | refine Y_res (r_field' rfl) rfl ?_
    | refine Y_res (r_nilCheck rfl) rfl ?_
    | refine Y_res (r_loadB rfl rfl) rfl ?_
    | refine Y_res (r_indexV0 rfl rfl hzl (Nat.le_refl _)) rfl ?_
    | refine Y_res (r_loadV rfl hget) rfl ?_
  refine XQ_nodeE ?_
  refine TE_one 13 (by decide +kernel) rfl rfl ?_
  refine X_buildV (us := [.slice A3 X.length c3]) rfl rfl (fun u hu => by simp at hu; rw [hu]; rfl) rfl (by simp) rfl ?_
  intro g2 hg2
  repeat first
    | refine X_nil ?_
    | refine XT_only ?_
  refine XT_nodeE (fun _ h => h.sublist (.cons _ (.cons _ (.cons _ (.cons_cons _ (.cons_cons _ (List.nil_sublist _))))))) ?_
  refine TE_one 14 (by decide +kernel) rfl rfl ?_
  refine X_appendV (s := 1) rfl rfl (fun w_ hM => rdv_blk (r := []) hM.head (List.append_nil _).symm rfl (Nat.le_refl 1) (by decide)) (fun u hu => by simp at hu; rw [hu]; rfl) rfl (by decide) rfl rfl (by omega) (by omega) rfl ?_
  intro A4 c4
  repeat first
    | refine X_nil ?_
    | refine XT_only ?_
  refine XT_nodeE (fun _ h => h.sublist (.cons _ (.cons _ (.cons _ (.cons_cons _ (.cons_cons _ (List.nil_sublist _))))))) ?_
  refine TE_one 15 (by decide +kernel) rfl rfl ?_
  repeat first
    | refine X_nil ?_
    | refine XT_only ?_
    | refine Y_res (r_indexV0 rfl rfl hzl (Nat.le_refl _)) rfl ?_
  refine XT_nodeE (fun _ h => h.sublist (.cons _ (.cons _ (.cons _ (.cons_cons _ (.cons_cons _ (List.nil_sublist _))))))) ?_
  refine TE_tail 16 (by decide +kernel) rfl rfl ?_
  refine X_storeV rfl rfl rfl (by rw [List.length_map, ← hRn]; omega) ?_
  repeat first
    | refine X_nil ?_
    | refine XT_only ?_
  refine XT_nodeW (TN_end (by decide +kernel) ?_)
  obtain ⟨r', hr'e⟩ : ∃ r' : It, r' = ⟨A4, c4, r.l + 1, r.vs ++ [.slice A3 X.length c3]⟩ := ⟨_, rfl⟩
  have hrow' := hm.put (B := A3) (d := c3) (A' := A4) (c' := c4)
  rw [← hX, ← hr'e] at hrow'
  have hset : ((pre ++ r :: post).map It.val).set pre.length (Value.slice A4 (r.l + 1) c4) = (pre ++ r' :: post).map It.val := by
    rw [List.map_append, List.set_append_right _ _ (by rw [List.length_map]; exact Nat.le_refl _), List.length_map, Nat.sub_self, List.map_append, hr'e]
    rfl
  rw [hset]
  have hget' : ((pre ++ r' :: post).map It.val)[pre.length]? = some (Value.slice A4 (r.l + 1) c4) := by
    rw [List.getElem?_map, List.getElem?_append_right (Nat.le_refl _), Nat.sub_self, hr'e]; rfl
  have hRn' : Rn = (pre ++ r' :: post).length := by rw [hRn]; simp
  refine XT_mem (M' := Hp w TS (Ch.sv A4 c4 34 1 (r.l + 1) (r.vs ++ [.slice A3 X.length c3]) :: Ch.blk g [.slice A0 Rn c0] 53 :: Ch.sv A0 c0 22 1 Rn ((pre ++ r' :: post).map It.val) :: Ch.bagN (itI .u8 A3 c3 X :: its) :: (pre ++ post).map rowC)) (fun _ h => ?_) ?_
  · have h2 := Hp.mv [_] h.tail
    have h3 := Hp.mv [_, _, _, _] h2
    have h4 : Hp w TS (Ch.sv A3 c3 5 1 X.length (X.map (Value.int .u8)) :: _) _ := h3.swap
    have h5 := h4.bagNV
    have h6 := Hp.mvb [_, _, _] h5
    exact h6
  have hfinal : ∀ w', Hp w TS (Ch.sv A4 c4 34 1 (r.l + 1) (r.vs ++ [.slice A3 X.length c3]) :: Ch.blk g [.slice A0 Rn c0] 53 :: Ch.sv A0 c0 22 1 Rn ((pre ++ r' :: post).map It.val) :: Ch.bagN (itI .u8 A3 c3 X :: its) :: (pre ++ post).map rowC) w' → Hp w TS (TrC g A0 c0 (pre ++ r' :: post) (itI .u8 A3 c3 X :: its)) w' := fun w' h => by
    have e : (pre ++ r' :: post).map rowC = pre.map rowC ++ rowC r' :: post.map rowC := by rw [List.map_append]; rfl
    rw [show (pre ++ post).map rowC = pre.map rowC ++ post.map rowC from List.map_append] at h
    have h2 := Hp.mvb (_ :: _ :: _ :: pre.map rowC) h
    rw [TrC, e, ← hRn', hr'e]
    rw [hr'e] at h2
    exact h2
  have hmem : ∀ it ∈ its, it ∈ itI .u8 A3 c3 X :: its := fun it h => List.mem_cons_of_mem _ h
  repeat first
    | refine XC_region ?_
    | refine X_nil ?_
    | refine XC_seq ?_
    | refine XT_seq ?_
    | refine Y_res (r_move rfl) rfl ?_
    | refine Y_res (r_assign rfl) rfl ?_
    | refine Y_res (r_rem rfl rfl (by omega)) rfl ?_
    | refine Y_res (r_eql rfl rfl) rfl ?_
    | refine Y_res (r_len rfl) rfl ?_
    | refine Y_res (r_field' rfl) rfl ?_
    | refine Y_res (r_nilCheck rfl) rfl ?_
    | refine Y_res (r_loadB rfl rfl) rfl ?_
    | refine Y_res (r_indexV0 rfl rfl hzl (Nat.le_refl _)) rfl ?_
    | refine Y_res (r_loadV rfl hget') rfl ?_
  refine XC_condP rfl (fun ho => ?_) (fun ho => ?_)
  · repeat first
      | refine XT_block_ret ?_
      | refine XT_then_ret ?_
      | refine XC_ret ?_
    exact XT_ret0 (.inl rfl) Tryd.results21 (fun w' h => ⟨rfl, A0, c0, _, _, hm.fin hrow' hmem (by omega), hfinal w' h⟩)
  obtain ⟨m1, m2, m3⟩ := hm.next hrow' hmem (by omega)
  obtain ⟨Y, hY⟩ : ∃ Y, Y = blkL (l ++ [leafS d]) pre.length ((l.length + 1) / 2 ^ pre.length - 2) := ⟨_, rfl⟩
  have hYl : Y.length = 32 := by rw [hY]; exact hbl _ _
  have hlen' : r'.l = r.l + 1 := by rw [hr'e]
  obtain ⟨B1, b1, k1, k2⟩ := hrow'.at_ (r.l - 1) (by omega)
  rw [show r.l - 1 = (l.length + 1) / 2 ^ pre.length - 2 by omega, ← hY] at k1
  rw [show blkL (l ++ [leafS d]) pre.length (r.l - 1) = Y by rw [hY]; congr 1; omega] at k2
  have k3 : (r.vs ++ [Value.slice A3 X.length c3])[r.l - 1]? = some (.slice B1 Y.length b1) := by rw [hr'e] at k2; exact k2
  rw [← hX, ← hY] at m3
  have hr2 : r.l - 1 < r.l + 1 := by omega
  repeat first
    | refine XC_region ?_
    | refine XT_seq ?_
    | refine XC_skip ?_
    | refine Y_res (r_move rfl) rfl ?_
    | refine Y_res (r_sub64 rfl rfl (by omega)) rfl ?_
    | refine Y_res (r_field' rfl) rfl ?_
    | refine Y_res (r_nilCheck rfl) rfl ?_
    | refine Y_res (r_loadB rfl rfl) rfl ?_
    | refine Y_res (r_indexV0 rfl rfl hzl (Nat.le_refl _)) rfl ?_
    | refine Y_res (r_loadV rfl hget') rfl ?_
  refine Y_re (e := 62) (v' := .int .i64 ((r.l - 1 : Nat) : Int)) rfl (by congr 1; omega) ?_
  repeat first
    | refine Y_res (r_move rfl) rfl ?_
    | refine Y_res (r_indexV0 rfl rfl hr2 (Nat.le_refl _)) rfl ?_
    | refine Y_res (r_loadV rfl k3) rfl ?_
  refine X_tells (g := 34) (E := 5) (k := .u8) (z := nodeS Y X) rfl rfl (fun w1 hM => node_any Y X _ _ _ _ w1 (RdV.toS (bagN_rd hM.tail.tail.tail.head k1)) (RdV.toS (bagN_rd hM.tail.tail.tail.head (List.mem_cons_self ..))) (by omega) (by omega) (hK.out.keep hM.chg hTS)) ?_
  intro A5 c5 x5 h5
  rw [← m3] at h5
  subst h5
  repeat first
    | refine XC_region ?_
    | refine X_nil ?_
    | refine XT_seq ?_
    | refine XT_block_normal ?_
    | refine Y_res (r_move rfl) rfl ?_
    | refine Y_res (r_assign rfl) rfl ?_
    | refine Y_res (r_add64 rfl rfl (by omega)) rfl ?_
  exact XT_round (pre.length + 1, pre ++ r' :: post, itI .u8 A3 c3 X :: its, A0, c0, A5, c5) m1 (by dsimp only; omega) ⟨rfl, rfl, rfl, trivial⟩ (fun w' h => by
    have e : (pre ++ r' :: post).map rowC = pre.map rowC ++ rowC r' :: post.map rowC := by rw [List.map_append]; rfl
    rw [show (pre ++ post).map rowC = pre.map rowC ++ post.map rowC from List.map_append] at h
    have h2 := Hp.mvb (_ :: _ :: _ :: _ :: pre.map rowC) (Hp.mv [_] h)
    show Hp w TS (Ch.sl A5 c5 5 .u8 (upS l (leafS d) (pre.length + 1)) :: TrC g A0 c0 (pre ++ r' :: post) (itI .u8 A3 c3 X :: its)) w'
    rw [TrC, e, ← hRn', hr'e]
    rw [hr'e] at h2
    exact h2)
end Go.Proofs.YtgnhpkdhicfeiaaDoor.NMk
