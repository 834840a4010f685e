/- What a log tells: its records, its room, its opening: walked. -/
import Derived.Test.YtgfpibojgkleiaaNWl5
namespace Go.Proofs.Ytgfpibojgkleiaa.NWl
open Go Go.RowKit Go.Proofs.Ytgfpibojgkleiaa.MX Go.Proofs.Ytgfpibojgkleiaa.PWal Go.Proofs.Ytgfpibojgkleiaa.NPl
set_option linter.unusedVariables false
set_option linter.unusedSimpArgs false
set_option linter.unusedVariables false
def roomL (l : Lg) : Int := if l.at_ = l.to then -1 else if 65536 < ((l.to : Int) - l.at_) * 48 - 4 then 65536 else ((l.to : Int) - l.at_) * 48 - 4
section
variable {gl g : Nat} {l : Lg} {a : La} {w w0 : World} {TS : Nat → Prop} {es : List Ch}
theorem bag_add {B A' : Option Addr} {cb c' n : Nat} {x : List Int} {js : List It} {S : Nat → Prop} (h : Hp w0 S (Ch.sl B cb 5 .u8 x :: Ch.sv A' c' 30 1 n (js.map It.val ++ [.slice B x.length cb]) :: Ch.bagN js :: es) w) :
    Hp w0 S (Ch.sv A' c' 30 1 n ((js ++ [itI .u8 B cb x]).map It.val) :: Ch.bagN (js ++ [itI .u8 B cb x]) :: es) w := by
  have h1 : Hp w0 S (Ch.sv B cb 5 1 x.length (x.map (Value.int .u8)) :: Ch.bagN js :: Ch.sv A' c' 30 1 n (js.map It.val ++ [.slice B x.length cb]) :: es) w := h.of_perm (List.Perm.cons _ (List.Perm.swap _ _ _))
  have h2 := (h1.bagNV).bagNSub (jts := js ++ [itI .u8 B cb x]) (fun it hit => by
    rw [List.mem_append, List.mem_singleton] at hit
    rcases hit with hit | rfl
    · exact List.mem_cons_of_mem _ hit
    · exact List.mem_cons_self ..)
  rw [List.map_append]
  exact h2.of_perm (List.Perm.swap _ _ _)
set_option maxHeartbeats 1000000 in
theorem room_any (hT : Hp w0 TS (WlC gl g l a es) w) (hl : LgOk l) : Calls Try.prog 13 #[.pointer (some ⟨gl, 0, none⟩)] w fun e w' => e = .returned (.int .i64 (roomL l)) ∧ Hp w0 TS (WlC gl g l a es) w' := by
  have hl0 := hl.le
  have hl1 := hl.to
  refine calls_of_X (vs := [_]) (M := Hp w0 TS (WlC gl g l a es)) Try.func13 rfl Try.ntmps13 rfl hT ?_
  clear hT
  unfold WlC lgC
  repeat first
    | refine XC_region ?_
    | refine XC_quietF rfl (by kernel_rfl) (by kernel_rfl) drw_hp ?_
    | refine X_nil ?_
    | refine XQ_nil ?_
    | refine XC_seq ?_
    | refine XT_seq ?_
    | refine Y_res (r_move rfl) rfl ?_
    | refine Y_res (r_assign rfl) rfl ?_
    | refine Y_res (r_eql rfl rfl) rfl ?_
    | refine Y_res (r_field' rfl) rfl ?_
    | refine Y_res (r_nilCheck rfl) rfl ?_
    | refine Y_res (r_loadB rfl rfl) rfl ?_
  refine XC_condP rfl (fun h1 => ?_) (fun h1 => ?_)
  · repeat first
      | refine XC_region ?_
      | refine X_nil ?_
      | refine XC_seq ?_
      | refine XT_seq ?_
      | refine XT_then_ret ?_
      | refine XC_ret ?_
      | refine Y_res (r_assign rfl) rfl ?_
    exact XT_ret1 (.inl rfl) Try.results13 rfl (fun w' h => ⟨by rw [roomL, if_pos (by omega)], h⟩)
  · repeat first
      | refine XC_quietF rfl (by kernel_rfl) (by kernel_rfl) drw_hp ?_
      | refine XQ_nil ?_
      | refine XC_seq ?_
      | refine XT_seq ?_
      | refine XC_skip ?_
      | refine XC_ret ?_
      | refine Y_res (r_move rfl) rfl ?_
      | refine Y_res (r_assign rfl) rfl ?_
      | refine Y_res (r_sub64 rfl rfl (by omega)) rfl ?_
      | refine Y_res (r_mul64 rfl rfl (by omega)) rfl ?_
      | refine Y_res (r_field' rfl) rfl ?_
      | refine Y_res (r_nilCheck rfl) rfl ?_
      | refine Y_res (r_loadB rfl rfl) rfl ?_
      | refine Y_res (r_min2 rfl rfl) rfl ?_
    exact XT_ret1 (.inl rfl) Try.results13 rfl (fun w' h => ⟨congrArg (fun z => Ending.returned (Value.int .i64 z)) (by rw [roomL, if_neg (show ¬ l.at_ = l.to by omega)]), h⟩)
set_option maxHeartbeats 1000000 in
theorem opening_any (hT : Hp w0 TS (WlC gl g l a es) w) : Calls Try.prog 19 #[.pointer (some ⟨gl, 0, none⟩)] w fun e w' => e = .returned (.int .i64 l.op) ∧ Hp w0 TS (WlC gl g l a es) w' := by
  refine calls_of_X (vs := [_]) (M := Hp w0 TS (WlC gl g l a es)) Try.func19 rfl Try.ntmps19 rfl hT ?_
  clear hT
  unfold WlC lgC
  repeat first
    | refine XC_region ?_
    | refine X_nil ?_
    | refine XC_seq ?_
    | refine XT_seq ?_
    | refine XC_ret ?_
    | refine Y_res (r_move rfl) rfl ?_
    | refine Y_res (r_assign rfl) rfl ?_
    | refine Y_res (r_field' rfl) rfl ?_
    | refine Y_res (r_nilCheck rfl) rfl ?_
    | refine Y_res (r_loadB rfl rfl) rfl ?_
  exact XT_ret1 (.inl rfl) Try.results19 rfl (fun w' h => ⟨rfl, h⟩)
set_option maxRecDepth 100000 in
set_option maxHeartbeats 4000000 in
theorem records_any (hT : Hp w0 TS (WlC gl g l a es) w) (hl : LgOk l) (hj : JOk .u8 a.js l.list) (hlen : ∀ x ∈ l.list, x.length ≤ 1000000) :
    Calls Try.prog 14 #[.pointer (some ⟨gl, 0, none⟩)] w fun e w' => ∃ A c js, e = .returned (.slice A l.list.length c) ∧ JOk .u8 js l.list ∧ Hp w0 TS (Ch.sv A c 30 1 l.list.length (js.map It.val) :: Ch.bagN js :: WlC gl g l a es) w' := by
  have hl5 := hl.ll
  have hjl := hj.ln
  refine calls_of_X (vs := [_]) (M := Hp w0 TS (WlC gl g l a es)) Try.func14 rfl Try.ntmps14 rfl hT ?_
  clear hT
  unfold WlC lgC
  repeat first
    | refine XC_region ?_
    | refine X_nil ?_
    | refine XC_seq ?_
    | refine XT_seq ?_
    | refine XC_block ?_
    | refine Y_res (r_move rfl) rfl ?_
    | refine Y_res (r_assign rfl) rfl ?_
    | refine Y_res (r_len rfl) rfl ?_
    | refine Y_res (r_field' rfl) rfl ?_
    | refine Y_res (r_nilCheck rfl) rfl ?_
    | refine Y_res (r_loadB rfl rfl) rfl ?_
  refine XC_loop (ι := Nat × Option Addr × Nat × List It) (fun j => j.1 ≤ l.list.length ∧ JOk .u8 j.2.2.2 (l.list.take j.1)) (fun j => [(3, .slice j.2.1 j.1 j.2.2.1), (9, .slice a.A l.list.length a.c), (10, .int .i64 l.list.length), (11, .int .i64 j.1)])
    (fun j => Hp w0 TS (Ch.sv j.2.1 j.2.2.1 30 1 j.1 (j.2.2.2.map It.val) :: Ch.bagN j.2.2.2 :: WlC gl g l a es)) (fun j => l.list.length - j.1) (0, none, 0, []) ⟨Nat.zero_le _, JOk.nil _⟩ ⟨rfl, rfl, rfl, rfl, trivial⟩ (fun _ h => h.bagN0.nilV _ _) ?_
  rintro ⟨i, A, c, js⟩ ⟨hi, hjs⟩
  dsimp only at hi hjs ⊢
  repeat first
    | refine XC_region ?_
    | refine X_nil ?_
    | refine XC_seq ?_
    | refine XT_seq ?_
    | refine Y_res (r_lss rfl rfl) rfl ?_
  refine XC_condP rfl (fun hlt => ?_) (fun hge => ?_)
  · have hi2 : i < l.list.length := by omega
    obtain ⟨x, hx⟩ : ∃ x, l.list[i]? = some x := ⟨l.list[i], List.getElem?_eq_getElem hi2⟩
    obtain ⟨B, d, hB⟩ := hj.at_ i x hx
    have hxl := hlen x (List.mem_of_getElem? hx)
    have hv : (a.js.map It.val)[i]? = some (.slice B x.length d) := by rw [List.getElem?_map, hB]; rfl
    have hrd : ∀ w1, Hp w0 TS (Ch.sv A c 30 1 i (js.map It.val) :: Ch.bagN js :: WlC gl g l a es) w1 → Rds w1 B d .u8 x := fun w1 h => RdV.toS (bagN_rd (it := itI .u8 B d x) (h.tail.tail.tail.tail.head) (List.mem_of_getElem? hB))
    unfold WlC lgC at hrd ⊢
    repeat first
      | refine XC_region ?_
      | refine X_nil ?_
      | refine XC_seq ?_
      | refine XT_seq ?_
      | refine XC_block ?_
      | refine XC_skip ?_
      | refine Y_res (r_move rfl) rfl ?_
      | refine Y_res (r_assign rfl) rfl ?_
      | refine Y_res (r_indexV0 rfl rfl hi2 (Nat.le_refl _)) rfl ?_
      | refine Y_res (r_loadV rfl hv) rfl ?_
    refine X_tells (g := 29) (E := 5) (k := .u8) (z := x) rfl rfl (fun w1 hM => clone_any x B d w1 (hrd w1 hM) hxl) ?_
    intro B2 d2 y hy
    subst hy
    repeat first
      | refine XC_region ?_
      | refine X_nil ?_
      | refine XT_seq ?_
      | refine XT_block_normal ?_
      | refine Y_res (r_move rfl) rfl ?_
      | refine Y_res (r_assign rfl) rfl ?_
      | refine Y_res (r_add64 rfl rfl (by omega)) rfl ?_
      | (refine X_buildV rfl rfl (fun u hu => by simp at hu; rw [hu]; rfl) rfl (by simp) rfl ?_; intro _ _)
      | (refine X_appendV (s := 1) rfl rfl (fun w_ hM => rdv_blk (r := []) hM.head (List.append_nil _).symm rfl (Nat.le_refl 1) (by decide)) (fun u hu => by simp at hu; rw [hu]; rfl) rfl (by decide) rfl rfl (by omega) (by omega) rfl ?_; intro _ _)
    rename_i g9 hg9 A4 c4
    have htk : l.list.take (i + 1) = l.list.take i ++ [y] := by
      obtain ⟨h1, h2⟩ := List.getElem?_eq_some_iff.1 hx
      rw [List.take_succ_eq_append_getElem h1, h2]
    exact XT_round (i + 1, A4, c4, js ++ [itI .u8 B2 d2 y]) ⟨by dsimp only; omega, by rw [htk]; exact hjs.snoc B2 d2 y⟩ (by dsimp only; omega) ⟨rfl, rfl, rfl, rfl, trivial⟩ (fun w1 h => bag_add (Hp.sublist h (.cons _ (List.Sublist.refl _))))
  · obtain rfl : i = l.list.length := by omega
    rw [List.take_length] at hjs
    repeat first
      | refine XC_region ?_
      | refine X_nil ?_
      | refine XC_seq ?_
      | refine XT_seq ?_
      | refine XT_block_same rfl ?_
      | refine XT_then_exit ?_
      | refine XC_exit ?_
      | refine XC_ret ?_
      | refine Y_res (r_move rfl) rfl ?_
      | refine Y_res (r_assign rfl) rfl ?_
    exact XT_ret1 (.inl rfl) Try.results14 rfl (fun w' h => ⟨A, c, js, rfl, hjs, h⟩)
end
end Go.Proofs.Ytgfpibojgkleiaa.NWl
