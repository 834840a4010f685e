/- What stays right of a disk; parts put in order; the document's example, walked. -/
import Derived.Test.YtipikjikjjmmiaaNPl4
namespace Go.Proofs.Ytipikjikjjmmiaa.NPl
open Go Go.RowKit Go.Proofs.Ytipikjikjjmmiaa.MX
set_option linter.unusedVariables false
set_option linter.unusedSimpArgs false
set_option linter.unusedVariables false
theorem ok_new {n : Nat} (h1 : 8 ≤ n) (h2 : n ≤ 16384) : PlOk (new0 n) :=
  ⟨h1, h2, by simp [new0], by simp [new0], fun s hs => by rw [List.eq_of_mem_replicate hs]; rfl, fun s hs => by rw [List.eq_of_mem_replicate hs]; rfl, fun x hx => by simp [new0] at hx, by simp [new0], by simp [new0]⟩
theorem ok_step {p : Pl} (h : PlOk p) : PlOk (stepP p).1 := by
  obtain ⟨f1, f2, f3, f4⟩ := stepP_same p
  have hf := h.lf
  refine ⟨by rw [f1]; exact h.lo, by rw [f1]; exact h.hi, by rw [f1, f2]; exact h.sl, by rw [f1, f3]; exact h.nl, by rw [f2]; exact h.ss, by rw [f3]; exact h.ns, by rw [f4, f1]; exact h.ls, by rw [f4]; exact h.ll, ?_⟩
  unfold stepP
  split
  · dsimp only; omega
  · split <;> exact h.lf
theorem ok_write {p : Pl} (h : PlOk p) (hl : p.loose.length ≤ 10000) (i : Int) (b : List Int) : PlOk (writeP p i b).1 := by
  obtain ⟨f1, f2, f3, f4⟩ := stepP_same p
  have h' := ok_step h
  unfold writeP
  split
  · exact h
  · rename_i h1
    split
    · exact h
    · rename_i h2
      split
      · exact h'
      · obtain ⟨_, h3, h4⟩ := there0 h1
        refine ⟨h'.lo, h'.hi, h'.sl, by rw [List.length_set, f1]; exact h.nl, h'.ss, fun s hs => ?_, fun x hx => ?_, ?_, h'.lf⟩
        · rcases List.mem_or_eq_of_mem_set hs with hs | hs
          · exact h.ns s hs
          · rw [hs]; exact Classical.not_not.1 h2
        · rcases List.mem_append.1 hx with hx | hx
          · exact (f1 ▸ h.ls x hx : x.1 < (stepP p).1.n ∧ x.2.length = 64)
          · rw [List.mem_singleton.1 hx]
            exact ⟨by show i.toNat < (stepP p).1.n; rw [f1]; omega, Classical.not_not.1 h2⟩
        · show (p.loose ++ [(i.toNat, b)]).length ≤ 100000
          rw [List.length_append, List.length_singleton]
          omega
theorem loose_write (p : Pl) (i : Int) (b : List Int) : (writeP p i b).1.loose.length ≤ p.loose.length + 1 := by
  obtain ⟨f1, f2, f3, f4⟩ := stepP_same p
  unfold writeP
  split
  · exact Nat.le_succ _
  · split
    · exact Nat.le_succ _
    · split
      · rw [f4]; exact Nat.le_succ _
      · show (p.loose ++ [(i.toNat, b)]).length ≤ _
        rw [List.length_append]; exact Nat.le_refl _
theorem ok_arm {p : Pl} (h : PlOk p) (m : Int) (hm : m ≤ 9223372036854775807) : PlOk (armP p m) := ⟨h.lo, h.hi, h.sl, h.nl, h.ss, h.ns, h.ls, h.ll, by show -1 ≤ max m (-1) ∧ max m (-1) ≤ _; omega⟩
theorem ok_sync {p : Pl} (h : PlOk p) : PlOk (syncP p).1 := by
  have h' := ok_step h
  obtain ⟨f1, f2, f3, f4⟩ := stepP_same p
  unfold syncP
  split
  · exact h
  · split
    · exact h'
    · exact ⟨h'.lo, h'.hi, by rw [revS_len, f1]; exact h.sl, h'.nl, revS_64 h.ss (fun x hx => (h.ls x hx).2) _, h'.ns, fun x hx => by simp at hx, by simp, h'.lf⟩
theorem ok_rev {p : Pl} (h : PlOk p) (ks : List Bool) : PlOk (revP p ks) :=
  ⟨h.lo, h.hi, (revS_len ..).trans h.sl, (revS_len ..).trans h.sl, revS_64 h.ss (fun x hx => (h.ls x hx).2) _, revS_64 h.ss (fun x hx => (h.ls x hx).2) _, fun x hx => by simp [revP] at hx, by simp [revP], by simp [revP]⟩
section
variable {g g' : Nat} {a a' : Ad} {p q : Pl} {w w0 : World} {TS : Nat → Prop} {es : List Ch} {x : Ch}
theorem plc_drop (h : Hp w0 TS (PlC g a p (x :: es)) w) : Hp w0 TS (PlC g a p es) w := Hp.sublist h ((List.Sublist.refl (PlC g a p [])).append (.cons x (List.Sublist.refl es)))
theorem plc_in (h : Hp w0 TS (x :: PlC g a p es) w) : Hp w0 TS (PlC g a p (x :: es)) w := h.of_perm (List.perm_middle (l₁ := PlC g a p [])).symm
theorem plc_swap (h : Hp w0 TS (PlC g a p (PlC g' a' q es)) w) : Hp w0 TS (PlC g' a' q (PlC g a p es)) w := h.of_perm (List.perm_append_comm_assoc (PlC g a p []) (PlC g' a' q []) es)
theorem plc_in2 (h : Hp w0 TS (x :: PlC g a p (PlC g' a' q es)) w) : Hp w0 TS (PlC g' a' q (x :: PlC g a p es)) w := plc_in (h.of_perm (.cons _ (List.perm_append_comm_assoc (PlC g a p []) (PlC g' a' q []) es)))
theorem new_es (n : Nat) (hT : Hp w0 TS es w) (h1 : 8 ≤ n) (h2 : n ≤ 16384) : Calls Try.prog 9 #[.int .i64 n] w fun e w' => ∃ g a, e = .returned (.pointer (some ⟨g, 0, none⟩)) ∧ Hp w0 TS (PlC g a (new0 n) es) w' :=
  (new_in n w h1 h2).mono fun e w' h => by
    obtain ⟨g, a, rfl, h⟩ := h
    exact ⟨g, a, rfl, hT.frame0 h⟩
theorem fill_es (c : Int) (n : Nat) (hn : n ≤ 100000) (hc : 0 ≤ c ∧ c < 256) (hT : Hp w0 TS (PlC g a p es) w) : Calls Try.prog 11 #[.int .u8 c, .int .i64 n] w fun e w' => ∃ B cap, e = .returned (.slice B n cap) ∧ Hp w0 TS (PlC g a p (Ch.sl B cap 5 .u8 (List.replicate n c) :: es)) w' :=
  (fill_any c n w hn hc).mono fun e w' h => by
    obtain ⟨v, rfl, ⟨B, cap, rfl, h1, h2⟩, hc⟩ := h
    exact ⟨B, cap, by rw [List.length_replicate], plc_in (hT.add hc h1 h2)⟩
theorem write_rep (i c : Int) (n : Nat) (B : Option Addr) (cap : Nat) (hp : PlOk p) (hl : p.loose.length ≤ 10000) (hT : Hp w0 TS (PlC g a p (Ch.sl B cap 5 .u8 (List.replicate n c) :: es)) w) :
    Calls Try.prog 10 #[.pointer (some ⟨g, 0, none⟩), .int .i64 i, .slice B n cap] w fun e w' => ∃ a', e = .returned (.int .i64 (writeP p i (List.replicate n c)).2) ∧ Hp w0 TS (PlC g a' (writeP p i (List.replicate n c)).1 es) w' := by
  have h := write_any i (List.replicate n c) B cap hT hp hl (fun cs w1 h1 => rds_sl (h1.sat _ (List.mem_append_right _ (List.mem_cons_self ..))))
  rw [List.length_replicate] at h
  exact h.mono fun e w' hh => by
    obtain ⟨a', e1, h2⟩ := hh
    exact ⟨a', e1, plc_drop h2⟩
theorem rev_blk (ks : List Bool) (b : Nat) (hp : PlOk p) (hm : ks.length ≤ 1000) (hT : Hp w0 TS (Ch.blk b (ks.map Value.bool) 4 :: PlC g a p es) w) :
    Calls Try.prog 14 #[.pointer (some ⟨g, 0, none⟩), .slice (some ⟨b, 0, none⟩) ks.length ks.length] w fun e w' => ∃ a', e = .returned (.tuple #[]) ∧ Hp w0 TS (PlC g a' (revP p ks) es) w' :=
  (revive_any ks (some ⟨b, 0, none⟩) ks.length (plc_in hT) hp (fun cs w1 h1 => rdv_blk (r := []) (h1.sat _ (List.mem_append_right _ (List.mem_cons_self ..))) (List.append_nil _).symm (by simp) (Nat.le_refl _) (by omega))).mono fun e w' hh => by
    obtain ⟨a', e1, h2⟩ := hh
    exact ⟨a', e1, plc_drop h2⟩
theorem read_es (i : Nat) (s : List Int) (hp : PlOk p) (hd : p.down = false) (hs : p.now[i]? = some s) (hT : Hp w0 TS (PlC g a p es) w) :
    Calls Try.prog 12 #[.pointer (some ⟨g, 0, none⟩), .int .i64 i] w fun e w' => ∃ b, e = .returned (.tuple #[.slice (some ⟨b, 0, none⟩) 64 64, .int .i64 0]) ∧ Hp w0 TS (Ch.ints b .u8 s 62 :: PlC g a p es) w' := by
  have hi : i < p.now.length := (List.getElem?_eq_some_iff.1 hs).1
  have hnl := hp.nl
  have ht : thereP p i = 0 := by rw [thereP, if_neg (by simp [hd]), if_neg (by omega)]
  exact (read_ok i hT hp ht).mono fun e w' h => by
    obtain ⟨b, s', e1, rfl, h2⟩ := h
    rw [Int.toNat_natCast, hs] at e1
    obtain rfl := Option.some.inj e1
    exact ⟨b, rfl, h2⟩
end
def a1 : Pl := (writeP (new0 8) 3 (List.replicate 64 1)).1
def a2 : Pl := (writeP a1 3 (List.replicate 64 2)).1
def a3 : Pl := armP a2 0
def a4 : Pl := (syncP a3).1
set_option maxRecDepth 100000 in
set_option maxHeartbeats 4000000 in
theorem anchor_any (w : World) : Calls Try.prog 8 #[] w (Says w (.bool true)) := by
  have k0 : PlOk (new0 8) := ok_new (by decide) (by decide)
  have k1 : PlOk a1 := ok_write k0 (by decide) _ _
  have l1 : a1.loose.length ≤ 10000 := by decide +kernel
  have k2 : PlOk a2 := ok_write k1 l1 _ _
  have k3 : PlOk a3 := ok_arm k2 0 (by decide)
  have k4 : PlOk a4 := ok_sync k3
  have e4 : (syncP a3).2 = 50 := by decide +kernel
  have k5 : PlOk (revP a4 [true]) := ok_rev k4 _
  have k6 : PlOk (revP a4 [false, true]) := ok_rev k4 _
  have e5 : (revP a4 [true]).now[3]? = some (List.replicate 64 1) := by decide +kernel
  have e6 : (revP a4 [false, true]).now[3]? = some (List.replicate 64 2) := by decide +kernel
  refine calls_of_X (vs := []) (M := Hp w (fun _ => False) []) Try.func8 rfl Try.ntmps8 rfl (Hp.nil _ _) ?_
  repeat first
    | refine XC_region ?_
    | refine X_nil ?_
    | refine XC_seq ?_
    | refine XT_seq ?_
    | refine Y_res (r_assign rfl) rfl ?_
  refine X_call (g := 9) rfl rfl (fun w1 q1 => (new_es 8 q1 (by decide) (by decide)).mono ?_)
  rintro e w2 ⟨g, a, rfl, q2⟩
  refine ⟨_, rfl, _, q2, ?_⟩
  clear q1 q2
  repeat first
    | refine XC_region ?_
    | refine X_nil ?_
    | refine XC_condF rfl ?_
    | refine XC_seq ?_
    | refine XT_seq ?_
    | refine XC_skip ?_
    | refine Y_res (r_move rfl) rfl ?_
    | refine Y_res (r_assign rfl) rfl ?_
    | refine Y_res (r_eqlNil rfl rfl) rfl ?_
  refine X_call (g := 11) rfl rfl (fun w1 q1 => (fill_es 1 64 (by decide) (by decide) q1).mono ?_)
  rintro e w2 ⟨B, cap, rfl, q2⟩
  refine ⟨_, rfl, _, q2, ?_⟩
  clear q1 q2
  skip
  refine X_call (g := 10) rfl rfl (fun w1 q1 => (write_rep 3 1 64 _ _ k0 (by decide) q1).mono ?_)
  rintro e w2 ⟨aa, rfl, q2⟩
  refine ⟨_, rfl, Hp w (fun _ => False) (PlC g aa a1 []), q2, ?_⟩
  clear q1 q2
  repeat first
    | refine XC_region ?_
    | refine X_nil ?_
    | refine XC_seq ?_
    | refine XT_seq ?_
    | refine Y_res (r_move rfl) rfl ?_
  refine X_call (g := 11) rfl rfl (fun w1 q1 => (fill_es 2 64 (by decide) (by decide) q1).mono ?_)
  rintro e w2 ⟨B, cap, rfl, q2⟩
  refine ⟨_, rfl, _, q2, ?_⟩
  clear q1 q2
  skip
  refine X_call (g := 10) rfl rfl (fun w1 q1 => (write_rep 3 2 64 _ _ k1 l1 q1).mono ?_)
  rintro e w2 ⟨ab, rfl, q2⟩
  refine ⟨_, rfl, Hp w (fun _ => False) (PlC g ab a2 []), q2, ?_⟩
  clear q1 q2
  repeat first
    | refine XC_region ?_
    | refine X_nil ?_
    | refine XC_seq ?_
    | refine XT_seq ?_
    | refine Y_res (r_move rfl) rfl ?_
  refine X_call (g := 22) rfl rfl (fun w1 q1 => (arm_any 0 q1).mono ?_)
  rintro e w2 ⟨rfl, q2⟩
  refine ⟨_, rfl, Hp w (fun _ => False) (PlC g ab a3 []), q2, ?_⟩
  clear q1 q2
  repeat first
    | refine XC_region ?_
    | refine X_nil ?_
    | refine XC_seq ?_
    | refine XT_seq ?_
    | refine Y_res (r_move rfl) rfl ?_
  refine X_call (g := 20) rfl rfl (fun w1 q1 => (sync_any q1 k3).mono ?_)
  rintro e w2 ⟨ac, rfl, q2⟩
  rw [e4]
  refine ⟨_, rfl, Hp w (fun _ => False) (PlC g ac a4 []), q2, ?_⟩
  clear q1 q2
  repeat first
    | refine XC_region ?_
    | refine X_nil ?_
    | refine XC_seq ?_
    | refine XT_seq ?_
    | refine Y_res (r_move rfl) rfl ?_
    | refine Y_res (r_assign rfl) rfl ?_
  refine X_call (g := 18) rfl rfl (fun w1 q1 => (clone_any q1 k4).mono ?_)
  rintro e w2 ⟨g', ad, rfl, q2⟩
  refine ⟨_, rfl, _, q2, ?_⟩
  clear q1 q2
  repeat first
    | refine XC_region ?_
    | refine X_nil ?_
    | refine XC_condF rfl ?_
    | refine XC_seq ?_
    | refine XT_seq ?_
    | refine XC_skip ?_
    | refine Y_res (r_move rfl) rfl ?_
    | refine Y_res (r_assign rfl) rfl ?_
    | refine Y_res (r_eqlNil rfl rfl) rfl ?_
    | (refine X_buildV (us := [.bool true]) rfl rfl (by simp [Value.oneCell']) rfl (by decide) rfl ?_; intro b1 hb1)
  refine X_call (g := 14) rfl rfl (fun w1 q1 => (rev_blk [true] _ k4 (by decide) q1).mono ?_)
  rintro e w2 ⟨ae, rfl, q2⟩
  refine ⟨_, rfl, _, plc_swap q2, ?_⟩
  clear q1 q2
  repeat first
    | refine XC_region ?_
    | refine X_nil ?_
    | refine XC_seq ?_
    | refine XT_seq ?_
    | refine Y_res (r_move rfl) rfl ?_
    | (refine X_buildV (us := [.bool false, .bool true]) rfl rfl (by simp [Value.oneCell']) rfl (by decide) rfl ?_; intro b2 hb2)
  refine X_call (g := 14) rfl rfl (fun w1 q1 => (rev_blk [false, true] _ k4 (by decide) q1).mono ?_)
  rintro e w2 ⟨af, rfl, q2⟩
  refine ⟨_, rfl, _, plc_swap q2, ?_⟩
  clear q1 q2
  repeat first
    | refine XC_region ?_
    | refine X_nil ?_
    | refine XC_seq ?_
    | refine XT_seq ?_
    | refine Y_res (r_move rfl) rfl ?_
  refine X_call (g := 12) rfl rfl (fun w1 q1 => (read_es 3 _ k5 rfl e5 q1).mono ?_)
  rintro e w2 ⟨b3, rfl, q2⟩
  refine ⟨_, rfl, _, plc_in2 q2, ?_⟩
  clear q1 q2
  repeat first
    | refine XC_region ?_
    | refine X_nil ?_
    | refine XC_seq ?_
    | refine XT_seq ?_
    | refine Y_res (r_move rfl) rfl ?_
    | refine Y_res (r_assign rfl) rfl ?_
    | refine Y_res (r_extract rfl rfl) rfl ?_
  refine X_call (g := 12) rfl rfl (fun w1 q1 => (read_es 3 _ k6 rfl e6 q1).mono ?_)
  rintro e w2 ⟨b4, rfl, q2⟩
  refine ⟨_, rfl, _, q2, ?_⟩
  clear q1 q2
  unfold PlC
  repeat first
    | refine XC_region ?_
    | refine X_nil ?_
    | refine XC_seq ?_
    | refine XT_seq ?_
    | refine XC_ret ?_
    | refine Y_res (r_move rfl) rfl ?_
    | refine Y_res (r_assign rfl) rfl ?_
    | refine Y_res (r_eql rfl rfl) rfl ?_
    | refine Y_on rfl rfl ?_
    | refine Y_res (r_len rfl) rfl ?_
    | refine Y_res (r_loadI rfl (by first | omega | (simp only [List.length_set, List.length_replicate]; omega))) rfl ?_
    | refine Y_res (r_extract rfl rfl) rfl ?_
    | refine Y_res (r_pickT rfl rfl) rfl ?_
    | refine Y_splitT rfl rfl (by decide) ?_
    | refine Y_res (r_indexB rfl rfl (by omega)) rfl ?_
  exact XT_says (.inl rfl) Try.results8 rfl rfl
end Go.Proofs.Ytipikjikjjmmiaa.NPl
