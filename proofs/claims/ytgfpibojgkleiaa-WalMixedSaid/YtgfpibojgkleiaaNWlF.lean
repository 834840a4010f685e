/- The records of a log that has one, walked: the one is a part of its own. -/
import Derived.Test.YtgfpibojgkleiaaNWlA
namespace Go.Proofs.Ytgfpibojgkleiaa.NWl
open Go Go.RowKit Go.Proofs.Ytgfpibojgkleiaa.MX Go.Proofs.Ytgfpibojgkleiaa.PWal Go.Proofs.Ytgfpibojgkleiaa.NPl
set_option linter.unusedVariables false
set_option linter.unusedSimpArgs false
set_option linter.unusedVariables false
set_option maxRecDepth 100000 in
set_option maxHeartbeats 4000000 in
/-- The records of a log that has one. -/
theorem records1_any {gl g : Nat} {l : Lg} {a : La} {w w0 : World} {TS : Nat → Prop} {es : List Ch} {x : List Int} (hT : Hp w0 TS (WlC gl g l a es) w) (hj : JOk .u8 a.js l.list) (hl1 : l.list = [x]) (hxl : x.length ≤ 1000000) :
    Calls Try.prog 14 #[.pointer (some ⟨gl, 0, none⟩)] w fun e w' => ∃ A c B d, e = .returned (.slice A 1 c) ∧ Hp w0 TS (Ch.sv A c 30 1 1 [.slice B x.length d] :: Ch.sl B d 5 .u8 x :: WlC gl g l a es) w' := by
  have hjl := hj.ln
  obtain ⟨B, d, hB⟩ := hj.at_ 0 x (by rw [hl1]; rfl)
  have hv : (a.js.map It.val)[0]? = some (.slice B x.length d) := by rw [List.getElem?_map, hB]; rfl
  have hrd : ∀ w1, Hp w0 TS (WlC gl g l a es) w1 → Rds w1 B d .u8 x := fun w1 h => RdV.toS (bagN_rd (it := itI .u8 B d x) (h.tail.tail.head) (List.mem_of_getElem? hB))
  have hln : l.list.length = 1 := by rw [hl1]; rfl
  refine calls_of_X (vs := [_]) (M := Hp w0 TS (WlC gl g l a es)) Try.func14 rfl Try.ntmps14 rfl hT ?_
  clear hT
  unfold WlC lgC at hrd ⊢
  rw [hln] at hrd ⊢
  refine XC_mem (M' := Hp w0 TS (Ch.sv none 0 30 1 0 [] :: Ch.blk gl [.pointer (some ⟨g, 0, none⟩), .int .i64 l.at_, .int .i64 l.to, .int .i64 l.gen, .int .i64 l.op, .int .i64 l.nx, .slice a.A 1 a.c, .bool l.broken] _ :: Ch.sv a.A a.c 30 1 1 (a.js.map It.val) :: Ch.bagN a.js :: es)) (fun _ h => h.nilV _ _) ?_
  repeat first
    | refine XC_region ?_
    | refine X_nil ?_
    | refine XC_seq ?_
    | refine XT_seq ?_
    | refine XC_block ?_
    | refine Y_res (r_move rfl) rfl ?_
    | refine Y_res (r_assign rfl) rfl ?_
    | refine Y_res (r_len rfl) rfl ?_
    | refine Y_res (r_field' rfl) rfl ?_
    | refine Y_res (r_nilCheck rfl) rfl ?_
    | refine Y_res (r_loadB rfl rfl) rfl ?_
  refine XC_rounds 2 ?_
  refine XR_succ ?_
  repeat first
    | refine XC_region ?_
    | refine X_nil ?_
    | refine XC_condT rfl ?_
    | refine XC_seq ?_
    | refine XT_seq ?_
    | refine XC_block ?_
    | refine XC_skip ?_
    | refine Y_res (r_move rfl) rfl ?_
    | refine Y_res (r_assign rfl) rfl ?_
    | refine Y_res (r_lss rfl rfl) rfl ?_
    | refine Y_res (r_indexV0 (i := 0) rfl rfl (by decide) (Nat.le_refl _)) rfl ?_
    | refine Y_res (r_loadV (i := 0) rfl hv) rfl ?_
  refine X_tells (g := 29) (E := 5) (k := .u8) (z := x) rfl rfl (fun w1 hM => clone_any x B d w1 (hrd w1 hM.tail) hxl) ?_
  intro B2 d2 y hy
  subst hy
  repeat first
    | refine XC_region ?_
    | refine X_nil ?_
    | refine XC_condF rfl ?_
    | refine XC_seq ?_
    | refine XT_seq ?_
    | refine XT_block_normal ?_
    | refine XT_block_same rfl ?_
    | refine XT_then_exit ?_
    | refine XC_exit ?_
    | refine XC_ret ?_
    | refine Y_res (r_move rfl) rfl ?_
    | refine Y_res (r_assign rfl) rfl ?_
    | refine Y_res (r_add64 rfl rfl (by omega)) rfl ?_
    | refine Y_res (r_lss rfl rfl) rfl ?_
    | (refine X_buildV rfl rfl (fun u hu => by simp at hu; rw [hu]; rfl) rfl (by simp) rfl ?_; intro _ _)
    | (refine X_appendV (s := 1) rfl rfl (fun w_ hM => rdv_blk (r := []) hM.head (List.append_nil _).symm rfl (Nat.le_refl 1) (by decide)) (fun u hu => by simp at hu; rw [hu]; rfl) rfl (by decide) rfl rfl (by decide) (by decide) rfl ?_; intro _ _)
  rename_i g9 hg9 A4 c4
  exact XT_ret1 (.inl rfl) Try.results14 rfl (fun w' h => ⟨A4, c4, B2, d2, rfl, (h.tail).swap⟩)
end Go.Proofs.Ytgfpibojgkleiaa.NWl
