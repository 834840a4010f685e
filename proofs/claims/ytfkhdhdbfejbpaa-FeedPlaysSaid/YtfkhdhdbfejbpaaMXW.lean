/- Bags: many rows that are only read, some of which were there, some of which are new; calls that tell such. No program in sight. -/
import Derived.Test.YtfkhdhdbfejbpaaMXV
namespace Go.Proofs.Ytfkhdhdbfejbpaa.MX
open Go Go.RowKit
set_option linter.unusedVariables false
set_option linter.unusedSimpArgs false
set_option linter.unusedVariables false
/-- A row that is read: its address, capacity, length, cells (one an element). -/
structure It where
  A : Option Addr
  c : Nat
  l : Nat
  vs : List Value
def It.val (it : It) : Value := .slice it.A it.l it.c
def It.rd (w : World) (it : It) : Prop := RdV w it.A it.c 1 it.l it.vs
/-- It lies in blocks from the n-th on. -/
def It.from_ (n : Nat) (it : It) : Prop := ∀ a, it.A = some a → n ≤ a.block
theorem rdv_block {w : World} {A : Option Addr} {c s l : Nat} {vs : List Value} (h : RdV w A c s l vs) (hv : vs ≠ []) : ∃ a, A = some a ∧ a.block < w.heap.size := by
  have h0 : 0 < vs.length := List.length_pos_iff.2 hv
  have hl := h.len
  have h1 : 0 < l := by
    rcases Nat.eq_zero_or_pos l with h2 | h2
    · rw [h2, Nat.zero_mul] at hl; omega
    · exact h2
  have hA := h.some (by have := h.le; omega)
  refine ⟨adOf A, hA, ?_⟩
  have := World.block_lt_of_cell? _ _ (h.at_ 0 _ (List.getElem?_eq_getElem h0))
  rwa [add_block] at this
theorem rdv_loc {w w' : World} {A : Option Addr} {c s l : Nat} {vs : List Value} (h : RdV w A c s l vs) (hk : ∀ a, A = some a → vs ≠ [] → w'.heap[a.block]? = w.heap[a.block]?) : RdV w' A c s l vs :=
  ⟨h.le, h.cap, h.nil, h.len, fun j v hj => by
    have hv : vs ≠ [] := by intro e; rw [e] at hj; simp at hj
    obtain ⟨a, ha, _⟩ := rdv_block h hv
    have h1 := h.at_ j v hj
    have h2 := hk a ha hv
    subst ha
    have hb : ((adOf (some a)).add j).block = a.block := add_block _ _
    simp only [World.cell?] at h1 ⊢
    rw [hb] at h1 ⊢
    rw [h2]
    exact h1⟩
/-- Rows that are read: each was there, or is new. -/
def Ch.bag (w0 : World) (its : List It) : Ch :=
  ⟨fun k => w0.heap.size ≤ k ∧ ∃ it ∈ its, it.vs ≠ [] ∧ ∃ a, it.A = some a ∧ a.block = k,
   fun w => ∀ it ∈ its, it.rd w0 ∨ (it.from_ w0.heap.size ∧ it.rd w),
   fun w w' h e it hit => (e it hit).imp id fun ⟨h1, h2⟩ => ⟨h1, rdv_loc h2 fun a ha hv => h _ ⟨h1 a ha, it, hit, hv, a, ha, rfl⟩⟩,
   fun w k e ⟨hk, it, hit, hv, a, ha, hb⟩ => by
    rcases e it hit with h1 | ⟨h1, h2⟩
    · obtain ⟨a', ha', hlt⟩ := rdv_block h1 hv
      rw [ha] at ha'
      injection ha' with ha'
      subst ha'
      omega
    · obtain ⟨a', ha', hlt⟩ := rdv_block h2 hv
      rw [ha] at ha'
      injection ha' with ha'
      subst ha'
      omega⟩
section
variable {w0 w w' : World} {cs ds : List Ch} {its : List It} {it : It} {A : Option Addr} {cap l : Nat} {e : TypeId} {vs : List Value} {k : IntKind} {xs : List Int}
theorem old_of_chg {S : Nat → Prop} (h : Chg S w0 w) (hs : ∀ k, ¬ S k) (hr : it.rd w0) : it.rd w := RdV.keep hr h fun a ha => hs _
theorem bag_rd (h : (Ch.bag w0 its).P w) (hc : Chg (fun _ => False) w0 w) (hit : it ∈ its) : it.rd w := by
  rcases h it hit with h1 | ⟨_, h2⟩
  · exact old_of_chg hc (fun _ h => h) h1
  · exact h2
theorem Hp.bag0 (h : Hp w0 (fun _ => False) cs w) : Hp w0 (fun _ => False) (Ch.bag w0 [] :: cs) w :=
  h.add (Chg.refl _ _) (fun it hit => by simp at hit) (fun j hj => by obtain ⟨_, it, hit, _⟩ := hj; simp at hit)
/-- A row of one's own goes into the bag. -/
theorem Hp.bagV (h : Hp w0 (fun _ => False) (Ch.sv A cap e 1 l vs :: Ch.bag w0 its :: cs) w) : Hp w0 (fun _ => False) (Ch.bag w0 (⟨A, cap, l, vs⟩ :: its) :: cs) w := by
  have hsv := h.head
  have hown := h.own _ (List.mem_cons_self ..)
  obtain ⟨hs1, hs2⟩ := List.pairwise_cons.1 h.sep
  obtain ⟨hs3, hs4⟩ := List.pairwise_cons.1 hs2
  have hb := h.sat _ (List.mem_cons_of_mem _ (List.mem_cons_self ..))
  have hfp : ∀ a, A = some a → vs ≠ [] → (Ch.sv A cap e 1 l vs).fp a.block := fun a ha hv => by subst ha; rfl
  have hnew : It.from_ w0.heap.size ⟨A, cap, l, vs⟩ := fun a ha => by
    have ha : A = some a := ha
    subst ha
    exact (hown a.block rfl).resolve_left (fun h => h)
  have hsub : ∀ k, (Ch.bag w0 (⟨A, cap, l, vs⟩ :: its)).fp k → (Ch.sv A cap e 1 l vs).fp k ∨ (Ch.bag w0 its).fp k := fun k ⟨hk, it, hit, hv, a, ha, hb⟩ => by
    rcases List.mem_cons.1 hit with rfl | hit
    · left
      have := hfp a ha hv
      rwa [hb] at this
    · exact .inr ⟨hk, it, hit, hv, a, ha, hb⟩
  refine ⟨h.chg, fun x hx => ?_, fun x hx k hk => ?_, .cons (fun x hx k hk hxk => ?_) hs4⟩
  · rcases List.mem_cons.1 hx with rfl | hx
    · intro it hit
      rcases List.mem_cons.1 hit with rfl | hit
      · exact .inr ⟨hnew, rdv_sv hsv⟩
      · exact hb it hit
    · exact h.sat x (List.mem_cons_of_mem _ (List.mem_cons_of_mem _ hx))
  · rcases List.mem_cons.1 hx with rfl | hx
    · exact .inr hk.1
    · exact h.own x (List.mem_cons_of_mem _ (List.mem_cons_of_mem _ hx)) k hk
  · rcases hsub k hk with h1 | h1
    · exact hs1 x (List.mem_cons_of_mem _ hx) k h1 hxk
    · exact hs3 x hx k h1 hxk
/-- A bag of fewer, or in another order. -/
theorem Hp.bagSub {jts : List It} (h : Hp w0 (fun _ => False) (Ch.bag w0 its :: cs) w) (hs : ∀ it ∈ jts, it ∈ its) : Hp w0 (fun _ => False) (Ch.bag w0 jts :: cs) w := by
  obtain ⟨hs1, hs2⟩ := List.pairwise_cons.1 h.sep
  have hsub : ∀ k, (Ch.bag w0 jts).fp k → (Ch.bag w0 its).fp k := fun k ⟨hk, it, hit, hv, a, ha, hb⟩ => ⟨hk, it, hs it hit, hv, a, ha, hb⟩
  refine ⟨h.chg, fun x hx => ?_, fun x hx k hk => ?_, .cons (fun x hx k hk hxk => hs1 x hx k (hsub k hk) hxk) hs2⟩
  · rcases List.mem_cons.1 hx with rfl | hx
    · exact fun it hit => h.head it (hs it hit)
    · exact h.sat x (List.mem_cons_of_mem _ hx)
  · rcases List.mem_cons.1 hx with rfl | hx
    · exact .inr hk.1
    · exact h.own x (List.mem_cons_of_mem _ hx) k hk
theorem sv_of_sl (h : (Ch.sl A cap e k xs).P w) : (Ch.sv A cap e 1 xs.length (xs.map (Value.int k))).P w := h
/-- A row that was there goes into the bag. -/
theorem Hp.bagO (h : Hp w0 (fun _ => False) (Ch.bag w0 its :: cs) w) (hr : it.rd w0) : Hp w0 (fun _ => False) (Ch.bag w0 (it :: its) :: cs) w := by
  obtain ⟨hs1, hs2⟩ := List.pairwise_cons.1 h.sep
  have hsub : ∀ k, (Ch.bag w0 (it :: its)).fp k → (Ch.bag w0 its).fp k := fun k ⟨hk, jt, hit, hv, a, ha, hb⟩ => by
    rcases List.mem_cons.1 hit with rfl | hit
    · obtain ⟨a', ha', hlt⟩ := rdv_block hr hv
      rw [ha] at ha'
      injection ha' with ha'
      subst ha'
      omega
    · exact ⟨hk, jt, hit, hv, a, ha, hb⟩
  refine ⟨h.chg, fun x hx => ?_, fun x hx k hk => ?_, .cons (fun x hx k hk hxk => hs1 x hx k (hsub k hk) hxk) hs2⟩
  · rcases List.mem_cons.1 hx with rfl | hx
    · intro jt hit
      rcases List.mem_cons.1 hit with rfl | hit
      · exact .inl hr
      · exact h.head jt hit
    · exact h.sat x (List.mem_cons_of_mem _ hx)
  · rcases List.mem_cons.1 hx with rfl | hx
    · exact .inr hk.1
    · exact h.own x (List.mem_cons_of_mem _ hx) k hk
end
end Go.Proofs.Ytfkhdhdbfejbpaa.MX
