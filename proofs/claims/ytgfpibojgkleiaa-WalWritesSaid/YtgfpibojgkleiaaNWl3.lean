/- A log's next record, taken: the helpers, walked. -/
import Derived.Test.YtgfpibojgkleiaaNWl2
import Derived.Lib.Hide
namespace Go.Proofs.Ytgfpibojgkleiaa.NWl
open Go Go.RowKit Go.Proofs.Ytgfpibojgkleiaa.MX Go.Proofs.Ytgfpibojgkleiaa.PWal Go.Proofs.Ytgfpibojgkleiaa.NPl
set_option linter.unusedVariables false
set_option linter.unusedSimpArgs false
set_option linter.unusedVariables false
set_option maxHeartbeats 1000000 in
theorem lam_any (x : Int) (w : World) : Calls Try.prog 39 #[.int .u8 x] w (Says w (.bool (decide (x ≠ 0)))) := by
  refine calls_of_X (vs := [_]) (M := Hp w (fun _ => False) []) Try.func39 rfl Try.ntmps39 rfl (Hp.nil _ _) ?_
  repeat first
    | refine XC_region ?_
    | refine X_nil ?_
    | refine XC_seq ?_
    | refine XT_seq ?_
    | refine XC_ret ?_
    | refine Y_res (r_move rfl) rfl ?_
    | refine Y_res (r_assign rfl) rfl ?_
    | refine Y_res (r_neq rfl rfl) rfl ?_
  exact XT_says (.inl rfl) Try.results39 rfl rfl
/-- The first place of what isn't nought. -/
def firstN (xs : List Int) : Int := match xs.findIdx? (fun c => c != 0) with | none => -1 | some i => i
theorem firstN_neg (xs : List Int) : firstN xs < 0 ↔ noughts xs = true := by
  unfold firstN noughts
  cases h : xs.findIdx? (fun c => c != 0) with
  | none =>
    rw [List.findIdx?_eq_none_iff] at h
    simp only [List.all_eq_true]
    exact ⟨fun _ x hx => by simpa using h x hx, fun _ => by decide⟩
  | some i =>
    have h1 := (List.findIdx?_eq_some_iff_getElem.1 h)
    obtain ⟨h2, h3, _⟩ := h1
    constructor
    · intro h4; dsimp only at h4; omega
    · intro h4
      have := List.all_eq_true.1 h4 xs[i] (List.getElem_mem _)
      simp at this h3
      exact absurd this h3
set_option maxHeartbeats 2000000 in
theorem index_any (xs : List Int) (A : Option Addr) (c : Nat) (w : World) (hr : Rds w A c .u8 xs) : Calls Try.prog 42 #[.slice A xs.length c, .func (.func 39) #[] #[]] w (Says w (.int .i64 (firstN xs))) := by
  have hle := hr.le
  have hcap := hr.cap
  refine calls_of_X (vs := [_, _]) (M := Hp w (fun _ => False) []) Try.func42 rfl Try.ntmps42 rfl (Hp.nil _ _) ?_
  repeat first
    | refine XC_region ?_
    | refine X_nil ?_
    | refine XC_seq ?_
    | refine XT_seq ?_
    | refine XC_block ?_
    | refine Y_res (r_move rfl) rfl ?_
    | refine Y_res (r_assign rfl) rfl ?_
    | refine Y_res (r_len rfl) rfl ?_
  refine XC_loop (ι := Nat) (fun i => i ≤ xs.length ∧ ∀ j, j < i → xs.getD j 0 = 0) (fun i => [(0, .slice A xs.length c), (1, .func (.func 39) #[] #[]), (7, .int .i64 xs.length), (8, .int .i64 i)]) (fun i => Hp w (fun _ => False) []) (fun i => xs.length - i) 0 ⟨Nat.zero_le _, fun j hj => by omega⟩ ⟨rfl, rfl, rfl, rfl, trivial⟩ (fun _ h => h) ?_
  rintro i ⟨hi, hall⟩
  have hall := Lib.hid hall
  repeat first
    | refine XC_region ?_
    | refine X_nil ?_
    | refine XC_seq ?_
    | refine XT_seq ?_
    | refine Y_res (r_lss rfl rfl) rfl ?_
  refine XC_condP rfl (fun hlt => ?_) (fun hge => ?_)
  · have hi2 : i < xs.length := by omega
    repeat first
      | refine XC_region ?_
      | refine X_nil ?_
      | refine XC_seq ?_
      | refine XT_seq ?_
      | refine XC_block ?_
      | refine XC_skip ?_
      | refine Y_res (r_move rfl) rfl ?_
      | refine Y_res (r_assign rfl) rfl ?_
      | refine Y_res (r_indexR rfl rfl (by assumption) (by omega) (by omega)) rfl ?_
      | refine Y_res (r_loadR rfl (by assumption) (by first | exact old_false | assumption) (by omega)) rfl ?_
      | refine Y_callV (g := 39) (vs := [.int .u8 (xs.getD i 0)]) (cs := []) (v := .bool (decide (xs.getD i 0 ≠ 0))) rfl rfl rfl (fun w1 hM => (lam_any (xs.getD i 0) w1).mono fun e w2 hh => ⟨hh.1, hM.keep hh.2⟩) ?_
    refine XC_condP rfl (fun hx => ?_) (fun hx => ?_)
    · repeat first
        | refine XC_region ?_
        | refine X_nil ?_
        | refine XC_seq ?_
        | refine XT_seq ?_
        | refine XT_block_ret ?_
        | refine XT_then_ret ?_
        | refine XC_ret ?_
        | refine Y_res (r_move rfl) rfl ?_
        | refine Y_res (r_assign rfl) rfl ?_
      refine XT_says (.inl rfl) Try.results42 rfl ?_
      have : xs.findIdx? (fun c => c != 0) = some i := List.findIdx?_eq_some_iff_getElem.2 ⟨hi2, by rw [List.getD_eq_getElem?_getD, List.getElem?_eq_getElem hi2] at hx; simpa using hx, fun j hj => by
        have h1 := hall.out j hj
        rw [List.getD_eq_getElem?_getD, List.getElem?_eq_getElem (by omega)] at h1
        simpa using h1⟩
      rw [firstN, this]
    · repeat first
        | refine XC_region ?_
        | refine X_nil ?_
        | refine XT_seq ?_
        | refine XT_block_normal ?_
        | refine XC_skip ?_
        | refine Y_res (r_move rfl) rfl ?_
        | refine Y_res (r_add64 rfl rfl (by omega)) rfl ?_
      refine XT_round (i + 1) ⟨by omega, fun j hj => ?_⟩ (by omega) ⟨rfl, rfl, rfl, rfl, trivial⟩ (fun _ h => h)
      by_cases e : j = i
      · subst e; exact Classical.not_not.1 hx
      · exact hall.out j (by omega)
  · repeat first
      | refine XC_region ?_
      | refine X_nil ?_
      | refine XC_seq ?_
      | refine XT_seq ?_
      | refine XT_block_same rfl ?_
      | refine XT_then_exit ?_
      | refine XC_exit ?_
      | refine XC_ret ?_
      | refine Y_res (r_assign rfl) rfl ?_
    refine XT_says (.inl rfl) Try.results42 rfl ?_
    have : xs.findIdx? (fun c => c != 0) = none := List.findIdx?_eq_none_iff.2 fun x hx => by
      obtain ⟨j, hj, rfl⟩ := List.getElem_of_mem hx
      have h1 := hall.out j (by omega)
      rw [List.getD_eq_getElem?_getD, List.getElem?_eq_getElem hj] at h1
      simpa using h1
    rw [firstN, this]
set_option maxHeartbeats 1000000 in
theorem contains_any (xs : List Int) (A : Option Addr) (c n : Nat) (w : World) (hr : Rds w A c .u8 xs) (hn : xs.length = n) : Calls Try.prog 38 #[.slice A n c, .func (.func 39) #[] #[]] w (Says w (.bool (decide (noughts xs = false)))) := by
  subst hn
  have h0 := firstN_neg xs
  refine calls_of_X (vs := [_, _]) (M := Hp w (fun _ => False) []) Try.func38 rfl Try.ntmps38 rfl (Hp.nil _ _) ?_
  repeat first
    | refine XC_region ?_
    | refine X_nil ?_
    | refine XC_seq ?_
    | refine XT_seq ?_
    | refine XC_ret ?_
    | refine Y_res (r_move rfl) rfl ?_
    | refine Y_res (r_assign rfl) rfl ?_
    | refine Y_res (r_geq rfl rfl) rfl ?_
    | refine Y_says (g := 42) rfl rfl (fun w1 hM => index_any xs A c w1 (hr.old hM old_false)) ?_
  refine XT_says (.inl rfl) Try.results38 rfl (congrArg Value.bool ?_)
  rw [decide_eq_decide]
  cases hb : noughts xs
  · rw [hb] at h0
    simp at h0 ⊢
    exact h0
  · rw [hb] at h0
    simp at h0 ⊢
    exact h0
set_option maxHeartbeats 1000000 in
theorem clone_any (a : List Int) (A : Option Addr) (c : Nat) (w : World) (hr : Rds w A c .u8 a) (ha : a.length ≤ 1000000) :
    Calls Try.prog 29 #[.slice A a.length c] w (Tells 5 .u8 w a) := by
  have hle := hr.le
  refine calls_of_X (vs := [_]) (M := Hp w (fun _ => False) []) Try.func29 rfl Try.ntmps29 rfl (Hp.nil _ _) ?_
  cases A with
  | none =>
    have h0 := hr.nil rfl
    have h1 : a = [] := List.eq_nil_of_length_eq_zero (by omega)
    subst h1
    refine XC_mem (M' := Hp w (fun _ => False) [Ch.sl none 0 5 .u8 []]) (fun _ h => h.nilS) ?_
    subst h0
    repeat first
      | refine XC_region ?_
      | refine X_nil ?_
      | refine XC_condT rfl ?_
      | refine XC_seq ?_
      | refine XT_seq ?_
      | refine XT_then_ret ?_
      | refine XC_ret ?_
      | refine Y_res (r_move rfl) rfl ?_
      | refine Y_res (r_assign rfl) rfl ?_
      | refine Y_res (r_eqlS rfl rfl) rfl ?_
    exact XT_tells (.inl rfl) Try.results29 rfl rfl
  | some ad =>
    repeat first
      | refine XC_region ?_
      | refine X_nil ?_
      | refine XC_condF rfl ?_
      | refine XC_seq ?_
      | refine XT_seq ?_
      | refine XC_skip ?_
      | refine XC_ret ?_
      | refine Y_res (r_move rfl) rfl ?_
      | refine Y_res (r_assign rfl) rfl ?_
      | refine Y_res (r_eqlS rfl rfl) rfl ?_
      | (refine X_buildS (by rfl) (by rfl) (by simp) rfl ?_; intro _ _)
      | (refine X_appendI rfl rfl (fun w_ hM => hr.old hM old_false) rfl rfl rfl (by simp only [List.length_nil]; omega) (by simp only [List.length_nil]; omega) rfl ?_; intro _ _; try simp only [List.nil_append])
    exact XT_tells (.inl rfl) Try.results29 rfl rfl
section
variable {w w0 : World} {S : Nat → Prop} {cs : List Ch} {A : Option Addr} {c : Nat} {xs : List Int}
theorem bagI_rd (h : (Ch.bagN [itI .u8 A c xs]).P w) : Rds w A c .u8 xs := RdV.toS (h _ (List.mem_singleton.2 rfl))
/-- A part of what is read is read. -/
theorem bagI_cut (h : Hp w0 S (Ch.bagN [itI .u8 A c xs] :: cs) w) (l m : Nat) (h1 : l ≤ m) (h2 : m ≤ xs.length) : Hp w0 S (Ch.bagN [itI .u8 (cutA A l c 1) (c - l) ((xs.take m).drop l)] :: cs) w :=
  h.conv (fun it hit => by
    rw [List.mem_singleton.1 hit]
    exact ((bagI_rd h.head).cut l m h1 h2).toV) (fun k ⟨it, hit, hv, a, ha, hk⟩ => by
    rw [List.mem_singleton.1 hit] at hv ha
    refine ⟨_, List.mem_singleton.2 rfl, fun e => hv ?_, ?_⟩
    · have e1 : xs = [] := by
        have e : xs.map (Value.int .u8) = [] := e
        simpa using e
      show ((xs.take m).drop l).map (Value.int .u8) = []
      rw [e1]
      simp
    · have ha : cutA A l c 1 = some a := ha
      cases A with
      | none =>
        exfalso
        unfold cutA at ha
        split at ha <;> cases ha
      | some a0 =>
        refine ⟨a0, rfl, ?_⟩
        unfold cutA at ha
        split at ha
        · obtain rfl := Option.some.inj ha
          exact hk
        · obtain rfl := Option.some.inj ha
          rw [← hk, add_block])
theorem bagI_sl {e : TypeId} (h : Hp w0 S (Ch.sl A c e .u8 xs :: cs) w) : Hp w0 S (Ch.bagN [itI .u8 A c xs] :: cs) w :=
  h.conv (fun it hit => by
    rw [List.mem_singleton.1 hit]
    exact (rds_sl h.head).toV) (fun k ⟨it, hit, hv, a, ha, hk⟩ => by
    rw [List.mem_singleton.1 hit] at hv ha
    have ha : A = some a := ha
    have hv : xs.map (Value.int .u8) ≠ [] := hv
    subst ha
    have hl := (rds_sl h.head).le
    have hx : 0 < xs.length := List.length_pos_iff.2 fun e => hv (by rw [e]; rfl)
    have e1 := Option.some.inj (sl_addr h.head (by omega))
    obtain ⟨b, hb⟩ : ∃ b, a = ⟨b, 0, none⟩ := ⟨_, e1⟩
    subst hb
    rw [← hk]
    rfl)
theorem bagI_ints {b : Nat} {T : TypeId} (h : Hp w0 S (Ch.ints b .u8 xs T :: cs) w) (hm : xs.length ≤ c) (hc : c ≤ 9223372036854775807) : Hp w0 S (Ch.bagN [itI .u8 (some ⟨b, 0, none⟩) c xs] :: cs) w :=
  h.conv (fun it hit => by
    rw [List.mem_singleton.1 hit]
    exact (rds_ints h.head hm hc).toV) (fun k ⟨it, hit, hv, a, ha, hk⟩ => by
    rw [List.mem_singleton.1 hit] at hv ha
    have ha : (some ⟨b, 0, none⟩ : Option Addr) = some a := ha
    obtain rfl := Option.some.inj ha
    exact hk.symm)
end
end Go.Proofs.Ytgfpibojgkleiaa.NWl
