/- What stays right of a disk; parts put in order; writes that are done. -/
import Derived.Test.YtgfpibojgkleiaaNPl3
namespace Go.Proofs.Ytgfpibojgkleiaa.NPl
open Go Go.RowKit Go.Proofs.Ytgfpibojgkleiaa.MX
set_option linter.unusedVariables false
set_option linter.unusedSimpArgs false
set_option linter.unusedVariables false
theorem ok_new {n : Nat} (h1 : 8 ≤ n) (h2 : n ≤ 16384) : PlOk (new0 n) :=
  ⟨h1, h2, by simp [new0], by simp [new0], fun s hs => by rw [List.eq_of_mem_replicate hs]; rfl, fun s hs => by rw [List.eq_of_mem_replicate hs]; rfl, fun x hx => by simp [new0] at hx, by simp [new0], by simp [new0]⟩
theorem ok_step {p : Pl} (h : PlOk p) : PlOk (stepP p).1 := by
  obtain ⟨f1, f2, f3, f4⟩ := stepP_same p
  have hf := h.lf
  refine ⟨by rw [f1]; exact h.lo, by rw [f1]; exact h.hi, by rw [f1, f2]; exact h.sl, by rw [f1, f3]; exact h.nl, by rw [f2]; exact h.ss, by rw [f3]; exact h.ns, by rw [f4, f1]; exact h.ls, by rw [f4]; exact h.ll, ?_⟩
  unfold stepP
  split
  · dsimp only; omega
  · split <;> exact h.lf
theorem ok_write {p : Pl} (h : PlOk p) (hl : p.loose.length ≤ 10000) (i : Int) (b : List Int) : PlOk (writeP p i b).1 := by
  obtain ⟨f1, f2, f3, f4⟩ := stepP_same p
  have h' := ok_step h
  unfold writeP
  split
  · exact h
  · rename_i h1
    split
    · exact h
    · rename_i h2
      split
      · exact h'
      · obtain ⟨_, h3, h4⟩ := there0 h1
        refine ⟨h'.lo, h'.hi, h'.sl, by rw [List.length_set, f1]; exact h.nl, h'.ss, fun s hs => ?_, fun x hx => ?_, ?_, h'.lf⟩
        · rcases List.mem_or_eq_of_mem_set hs with hs | hs
          · exact h.ns s hs
          · rw [hs]; exact Classical.not_not.1 h2
        · rcases List.mem_append.1 hx with hx | hx
          · exact (f1 ▸ h.ls x hx : x.1 < (stepP p).1.n ∧ x.2.length = 64)
          · rw [List.mem_singleton.1 hx]
            exact ⟨by show i.toNat < (stepP p).1.n; rw [f1]; omega, Classical.not_not.1 h2⟩
        · show (p.loose ++ [(i.toNat, b)]).length ≤ 100000
          rw [List.length_append, List.length_singleton]
          omega
theorem loose_write (p : Pl) (i : Int) (b : List Int) : (writeP p i b).1.loose.length ≤ p.loose.length + 1 := by
  obtain ⟨f1, f2, f3, f4⟩ := stepP_same p
  unfold writeP
  split
  · exact Nat.le_succ _
  · split
    · exact Nat.le_succ _
    · split
      · rw [f4]; exact Nat.le_succ _
      · show (p.loose ++ [(i.toNat, b)]).length ≤ _
        rw [List.length_append]; exact Nat.le_refl _
theorem ok_arm {p : Pl} (h : PlOk p) (m : Int) (hm : m ≤ 9223372036854775807) : PlOk (armP p m) := ⟨h.lo, h.hi, h.sl, h.nl, h.ss, h.ns, h.ls, h.ll, by show -1 ≤ max m (-1) ∧ max m (-1) ≤ _; omega⟩
theorem ok_sync {p : Pl} (h : PlOk p) : PlOk (syncP p).1 := by
  have h' := ok_step h
  obtain ⟨f1, f2, f3, f4⟩ := stepP_same p
  unfold syncP
  split
  · exact h
  · split
    · exact h'
    · exact ⟨h'.lo, h'.hi, by rw [revS_len, f1]; exact h.sl, h'.nl, revS_64 h.ss (fun x hx => (h.ls x hx).2) _, h'.ns, fun x hx => by simp at hx, by simp, h'.lf⟩
theorem ok_rev {p : Pl} (h : PlOk p) (ks : List Bool) : PlOk (revP p ks) :=
  ⟨h.lo, h.hi, (revS_len ..).trans h.sl, (revS_len ..).trans h.sl, revS_64 h.ss (fun x hx => (h.ls x hx).2) _, revS_64 h.ss (fun x hx => (h.ls x hx).2) _, fun x hx => by simp [revP] at hx, by simp [revP], by simp [revP]⟩
section
variable {g g' : Nat} {a a' : Ad} {p q : Pl} {w w0 : World} {TS : Nat → Prop} {es : List Ch} {x : Ch}
theorem plc_drop (h : Hp w0 TS (PlC g a p (x :: es)) w) : Hp w0 TS (PlC g a p es) w := Hp.sublist h ((List.Sublist.refl (PlC g a p [])).append (.cons x (List.Sublist.refl es)))
theorem plc_in (h : Hp w0 TS (x :: PlC g a p es) w) : Hp w0 TS (PlC g a p (x :: es)) w := h.of_perm (List.perm_middle (l₁ := PlC g a p [])).symm
theorem plc_swap (h : Hp w0 TS (PlC g a p (PlC g' a' q es)) w) : Hp w0 TS (PlC g' a' q (PlC g a p es)) w := h.of_perm (List.perm_append_comm_assoc (PlC g a p []) (PlC g' a' q []) es)
theorem plc_in2 (h : Hp w0 TS (x :: PlC g a p (PlC g' a' q es)) w) : Hp w0 TS (PlC g' a' q (x :: PlC g a p es)) w := plc_in (h.of_perm (.cons _ (List.perm_append_comm_assoc (PlC g a p []) (PlC g' a' q []) es)))
theorem new_es (n : Nat) (hT : Hp w0 TS es w) (h1 : 8 ≤ n) (h2 : n ≤ 16384) : Calls Try.prog 10 #[.int .i64 n] w fun e w' => ∃ g a, e = .returned (.pointer (some ⟨g, 0, none⟩)) ∧ Hp w0 TS (PlC g a (new0 n) es) w' :=
  (new_in n w h1 h2).mono fun e w' h => by
    obtain ⟨g, a, rfl, h⟩ := h
    exact ⟨g, a, rfl, hT.frame0 h⟩
theorem read_es (i : Nat) (s : List Int) (hp : PlOk p) (hd : p.down = false) (hs : p.now[i]? = some s) (hT : Hp w0 TS (PlC g a p es) w) :
    Calls Try.prog 36 #[.pointer (some ⟨g, 0, none⟩), .int .i64 i] w fun e w' => ∃ b, e = .returned (.tuple #[.slice (some ⟨b, 0, none⟩) 64 64, .int .i64 0]) ∧ Hp w0 TS (Ch.ints b .u8 s 74 :: PlC g a p es) w' := by
  have hi : i < p.now.length := (List.getElem?_eq_some_iff.1 hs).1
  have hnl := hp.nl
  have ht : thereP p i = 0 := by rw [thereP, if_neg (by simp [hd]), if_neg (by omega)]
  exact (read_ok i hT hp ht).mono fun e w' h => by
    obtain ⟨b, s', e1, rfl, h2⟩ := h
    rw [Int.toNat_natCast, hs] at e1
    obtain rfl := Option.some.inj e1
    exact ⟨b, rfl, h2⟩
end
def rep (c : Int) : List Int := List.replicate 64 c
theorem stepP_done {p : Pl} (hd : p.down = false) (hl : p.left < 0) : stepP p = (p, true) := by
  rw [stepP, if_neg (by omega), if_neg (by omega), hd]
  rfl
theorem writeP_done {p : Pl} {i : Nat} {b : List Int} (hd : p.down = false) (hl : p.left < 0) (hi : i < p.n) (hb : b.length = 64) : writeP p i b = ({ p with now := p.now.set i b, loose := p.loose ++ [(i, b)] }, 0) := by
  have ht : thereP p i = 0 := by rw [thereP, if_neg (by simp [hd]), if_neg (by omega)]
  rw [writeP, if_neg (by simp [ht]), if_neg (by simp [hb]), if_neg (by rw [stepP_done hd hl]; simp), stepP_done hd hl]
  rfl
theorem rep0 (c : Int) : (rep c).getD 0 0 = c := rfl
theorem rep63 (c : Int) : (rep c).getD 63 0 = c := rfl
end Go.Proofs.Ytgfpibojgkleiaa.NPl
