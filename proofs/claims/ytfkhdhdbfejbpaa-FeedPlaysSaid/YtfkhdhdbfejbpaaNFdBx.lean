/- The law's own readers: where they lie, and that they are as the feed's. -/
import Derived.Test.YtfkhdhdbfejbpaaNFdI
import Derived.Test.YtfkhdhdbfejbpaaMXO
import Derived.Test.YtfkhdhdbfejbpaaNPlBs
namespace Go.Proofs.Ytfkhdhdbfejbpaa.Fd
open Go Go.RowKit Go.Proofs.Ytfkhdhdbfejbpaa.MX Go.Proofs.Ytfkhdhdbfejbpaa.PFd
set_option linter.unusedVariables false
set_option linter.unusedSimpArgs false
set_option linter.unusedVariables false
structure Bx where
  P : Nat
  lost : Nat
  gone : Bool
  B : Option Addr
  d : Nat
  xs : List Int
def bxC (b : Bx) : List Value := [.int .i64 b.P, .int .i64 b.lost, .bool b.gone, .slice b.B b.xs.length b.d]
def bxI (b : Bx) : It := itI .i64 b.B b.d b.xs
def BxM (A : Option Addr) (c : Nat) (bs : List Bx) (es : List Ch) : List Ch := Ch.sv A c 43 4 bs.length (bs.map bxC).flatten :: Ch.bagN (bs.map bxI) :: es
theorem bxC_len (bs : List Bx) : ∀ x ∈ bs.map bxC, x.length = 4 := fun x hx => by
  obtain ⟨b, _, rfl⟩ := List.mem_map.1 hx
  rfl
theorem bxC_one (b : Bx) : ∀ v ∈ bxC b, v.oneCell' = true := by simp [bxC, Value.oneCell']
theorem bx_cell {bs : List Bx} {i : Nat} {b : Bx} (h : bs[i]? = some b) (j : Nat) {v : Value} (hv : (bxC b)[j]? = some v) : (bs.map bxC).flatten[i * 4 + j]? = some v := by
  have hj : j < 4 := (List.getElem?_eq_some_iff.1 hv).1
  obtain ⟨pre, post, e1, e2, _⟩ := flat_split (i := i) (us := bxC b) (bxC_len bs) (by rw [List.getElem?_map, h]; rfl)
  rw [e1, List.getElem?_append_right (by omega), show i * 4 + j - pre.length = j by omega, List.getElem?_append_left (by show j < 4; exact hj), hv]
theorem bx_set {bs : List Bx} {i : Nat} {b b' : Bx} (h : bs[i]? = some b) (j : Nat) (v : Value) (hj : j < 4) (hb : (bxC b).set j v = bxC b') : (bs.map bxC).flatten.set (i * 4 + j) v = ((bs.set i b').map bxC).flatten := by
  obtain ⟨pre, post, e1, e2, e3⟩ := flat_split (i := i) (us := bxC b) (bxC_len bs) (by rw [List.getElem?_map, h]; rfl)
  rw [List.map_set, e3 (bxC b'), e1, List.set_append_right _ _ (by omega), show i * 4 + j - pre.length = j by omega, List.set_append_left _ _ (by show j < 4; exact hj), hb]
theorem bx_set4 {bs : List Bx} {i : Nat} (b' : Bx) : ((bs.map bxC).set i (bxC b')).flatten = ((bs.set i b').map bxC).flatten := by rw [List.map_set]
theorem bx_flen (bs : List Bx) : (bs.map bxC).flatten.length = bs.length * 4 := by
  induction bs with
  | nil => rfl
  | cons b bs ih => rw [List.map_cons, List.flatten_cons, List.length_append, ih, List.length_cons]; show 4 + _ = _; omega
/-- A reader and the law's. -/
def Rel (n : Nat) (b : Bx) : Option Rd → Prop
  | none => b.gone = true ∧ b.xs = [] ∧ b.lost = 0
  | some x => b.gone = false ∧ x.Ok ∧ x.cap = b.P ∧ x.lost = b.lost ∧ x.buf = b.xs.map (Value.int .i64) ∧ b.lost ≤ n ∧ b.P ≤ 256
structure Rels (n : Nat) (bs : List Bx) (rs : List (Option Rd)) : Prop where
  ln : bs.length = rs.length
  at_ : ∀ (i : Nat) (b : Bx) (o : Option Rd), bs[i]? = some b → rs[i]? = some o → Rel n b o
theorem Rel.mono {n m : Nat} {b : Bx} {o : Option Rd} (h : Rel n b o) (hm : n ≤ m) : Rel m b o := by
  cases o with
  | none => exact h
  | some x => exact ⟨h.1, h.2.1, h.2.2.1, h.2.2.2.1, h.2.2.2.2.1, Nat.le_trans h.2.2.2.2.2.1 hm, h.2.2.2.2.2.2⟩
theorem Rels.mono {n m : Nat} {bs : List Bx} {rs : List (Option Rd)} (h : Rels n bs rs) (hm : n ≤ m) : Rels m bs rs := ⟨h.ln, fun i b o h1 h2 => (h.at_ i b o h1 h2).mono hm⟩
theorem Rels.get {n : Nat} {bs : List Bx} {rs : List (Option Rd)} (h : Rels n bs rs) {i : Nat} (hi : i < bs.length) : ∃ b o, bs[i]? = some b ∧ rs[i]? = some o ∧ Rel n b o := by
  have hr : i < rs.length := by rw [← h.ln]; exact hi
  exact ⟨bs[i], rs[i], List.getElem?_eq_getElem hi, List.getElem?_eq_getElem hr, h.at_ i _ _ (List.getElem?_eq_getElem hi) (List.getElem?_eq_getElem hr)⟩
theorem Rels.set {n : Nat} {bs : List Bx} {rs : List (Option Rd)} (h : Rels n bs rs) {i : Nat} {b : Bx} {o : Option Rd} (hb : Rel n b o) : Rels n (bs.set i b) (rs.set i o) := ⟨by simp [h.ln], fun j b' o' h1 h2 => by
  rw [List.getElem?_set] at h1 h2
  by_cases hij : i = j
  · subst hij
    rw [if_pos rfl] at h1 h2
    split at h1
    · split at h2
      · obtain rfl := Option.some.inj h1
        obtain rfl := Option.some.inj h2
        exact hb
      · cases h2
    · cases h1
  · rw [if_neg hij] at h1 h2
    exact h.at_ j b' o' h1 h2⟩
theorem Rels.snoc {n : Nat} {bs : List Bx} {rs : List (Option Rd)} (h : Rels n bs rs) {b : Bx} {o : Option Rd} (hb : Rel n b o) : Rels n (bs ++ [b]) (rs ++ [o]) := ⟨by simp [h.ln], fun j b' o' h1 h2 => by
  rw [List.getElem?_append] at h1 h2
  rw [← h.ln] at h2
  split at h1
  · rename_i hj
    rw [if_pos hj] at h2
    exact h.at_ j b' o' h1 h2
  · rename_i hj
    rw [if_neg hj] at h2
    have h3 := (List.getElem?_eq_some_iff.1 h1).1
    rw [List.length_singleton] at h3
    rw [show j - bs.length = 0 by omega] at h1 h2
    obtain rfl := Option.some.inj h1
    obtain rfl := Option.some.inj h2
    exact hb⟩
theorem Rels.ok {n : Nat} {bs : List Bx} {rs : List (Option Rd)} (h : Rels n bs rs) : allOk rs := fun x hx => by
  obtain ⟨i, hi⟩ := List.getElem?_of_mem hx
  have hl : i < bs.length := by rw [h.ln]; exact (List.getElem?_eq_some_iff.1 hi).1
  exact (h.at_ i _ _ (List.getElem?_eq_getElem hl) hi).2.1
/-- Told. -/
theorem Rel.put {n : Nat} {b : Bx} {x : Rd} (h : Rel n b (some x)) (hn : n ≤ 1000) (k : Int) (B : Option Addr) (d : Nat) :
    (b.xs.length < b.P → Rel (n + 1) { b with B := B, d := d, xs := b.xs ++ [k] } (putO (.int .i64 k) (some x))) ∧
    (¬ b.xs.length < b.P → Rel (n + 1) { b with B := B, d := d, xs := b.xs.tail ++ [k], lost := b.lost + 1 } (putO (.int .i64 k) (some x))) := by
  obtain ⟨h1, h2, h3, h4, h5, h6, h7⟩ := h
  have hl : x.buf.length = b.xs.length := by rw [h5, List.length_map]
  have hok : (x.put (.int .i64 k)).Ok := ⟨by rw [Rd.put_cap]; exact h2.cp, by rw [Rd.put_cap]; exact Rd.put_len h2 _, by have := (Rd.put_lost x (.int .i64 k)).2; omega⟩
  constructor
  · intro hlt
    have hp : x.put (.int .i64 k) = { x with buf := x.buf ++ [.int .i64 k], s := x.s + 1 } := by unfold Rd.put; rw [if_pos (by omega)]
    refine ⟨h1, hok, by rw [Rd.put_cap]; exact h3, ?_, ?_, by dsimp only; omega, h7⟩
    · show (x.put (.int .i64 k)).lost = _
      rw [hp]; exact h4
    · show (x.put (.int .i64 k)).buf = _
      rw [hp]; dsimp only; rw [h5, List.map_append]; rfl
  · intro hge
    have hp : x.put (.int .i64 k) = { x with buf := x.buf.tail ++ [.int .i64 k], s := x.s + 1, r := x.r + 1, lost := x.lost + 1 } := by unfold Rd.put; rw [if_neg (by omega)]
    refine ⟨h1, hok, by rw [Rd.put_cap]; exact h3, ?_, ?_, by dsimp only; omega, h7⟩
    · show (x.put (.int .i64 k)).lost = _
      rw [hp]; dsimp only; rw [h4]
    · show (x.put (.int .i64 k)).buf = _
      rw [hp]; dsimp only; rw [h5, List.map_append, List.map_tail]; rfl
/-- A step's cells. -/
def shOp := shRec Try.underlying41 (shCons (shInt .i64 Try.underlying3) (shCons (shInt .i64 Try.underlying3) (shCons (shInt .i64 Try.underlying3) shNil)))
def shOps := shSl Try.underlying38 shOp
abbrev OpD := Int × Int × Int × Unit
def opC (o : OpD) : List Value := [.int .i64 o.1, .int .i64 o.2.1, .int .i64 o.2.2.1]
theorem ops_at {w : World} {l : List OpD} {A : Option Addr} {c : Nat} (h : shOps.has w [.slice A l.length c] (A, c, l)) :
    (0 < l.length → A = some (adOf A)) ∧ l.length ≤ c ∧ c ≤ 9223372036854775807 ∧ ∀ (j : Nat) (o : OpD), l[j]? = some o → (∀ i v, (opC o)[i]? = some v → w.cell? (((adOf A).add (j * 3)).add i) = some v) ∧ (Lit.int .i64 o.1).wf = true ∧ (Lit.int .i64 o.2.1).wf = true ∧ (Lit.int .i64 o.2.2.1).wf = true := by
  obtain ⟨h1, h2, h3, h4, _, h5⟩ := h
  have hm : maxLen ≤ 9223372036854775807 := by decide
  refine ⟨fun hp => ?_, h2, Nat.le_trans h3 hm, fun j o hj => ?_⟩
  · cases A with
    | none => have := h4 rfl; dsimp only at this h2; omega
    | some a => rfl
  obtain ⟨cs, g1, g2, g3⟩ := h5 j o hj
  have e3 : Try.prog.cellsOf 41 = 3 := by kernel_rfl
  rw [e3] at g1 g2
  match cs, g1 with
  | [c0, c1, c2], _ =>
    obtain ⟨_, k1, k2, k3, _⟩ := g3
    have q1 : [c0] = [Value.int .i64 o.1] := k1.1
    have q2 : [c1] = [Value.int .i64 o.2.1] := k2.1
    have q3 : [c2] = [Value.int .i64 o.2.2.1] := k3.1
    obtain rfl := (List.cons.inj q1).1
    obtain rfl := (List.cons.inj q2).1
    obtain rfl := (List.cons.inj q3).1
    exact ⟨fun i v hv => by rw [add_add _ _ _ (.inr trivial)]; exact g2 i v hv, k1.2, k2.2, k3.2⟩
section
variable {w w0 : World} {TS : Nat → Prop} {es : List Ch} {gf c : Nat} {A : Option Addr} {rs : List (Option Rd)} {x y z : Ch}
theorem fdl_in (xs : List Ch) (h : Hp w0 TS (xs ++ FdCI gf A c rs []) w) : Hp w0 TS (FdCI gf A c rs xs) w := by
  have e : FdCI gf A c rs xs = FdCI gf A c rs [] ++ xs := by simp [FdCI]
  rw [e]
  exact h.of_perm List.perm_append_comm
theorem fdl_out (xs : List Ch) (h : Hp w0 TS (FdCI gf A c rs xs) w) : Hp w0 TS (xs ++ FdCI gf A c rs []) w := by
  have e : FdCI gf A c rs xs = FdCI gf A c rs [] ++ xs := by simp [FdCI]
  rw [e] at h
  exact h.of_perm List.perm_append_comm
/-- The law's lists: one is written anew. -/
theorem bag_set {bs : List Bx} {i : Nat} {b b' : Bx} {E : TypeId} {B : Option Addr} {d : Nat} {xs : List Int} (hi : bs[i]? = some b) (hB : b'.B = B) (hd : b'.d = d) (hxs : b'.xs = xs) (h : Hp w0 TS (Ch.sl B d E .i64 xs :: Ch.bagN (bs.map bxI) :: es) w) : Hp w0 TS (Ch.bagN ((bs.set i b').map bxI) :: es) w := by
  have h1 : Hp w0 TS (Ch.sv B d E 1 xs.length (xs.map (Value.int .i64)) :: Ch.bagN (bs.map bxI) :: es) w := h
  refine h1.bagNV.bagNSub fun it hit => ?_
  obtain ⟨q, hq, rfl⟩ := List.mem_map.1 hit
  rcases List.mem_or_eq_of_mem_set hq with hq | rfl
  · exact List.mem_cons_of_mem _ (List.mem_map.2 ⟨q, hq, rfl⟩)
  · subst hB hd hxs
    exact List.mem_cons_self ..
/-- A list is another one. -/
theorem bx_put {bs : List Bx} {j l cl c' : Nat} {b : Bx} {g : Ch} {Al A' : Option Addr} {E : TypeId} {xs1 : List Int} (hb : bs[j]? = some b)
    (h : Hp w0 TS (Ch.sl A' c' E .i64 xs1 :: g :: Ch.sv Al cl 43 4 l ((bs.map bxC).flatten.set (j * 4 + 3) (.slice A' xs1.length c')) :: Ch.bagN (bs.map bxI) :: es) w) :
    Hp w0 TS (g :: Ch.sv Al cl 43 4 l ((bs.set j { b with B := A', d := c', xs := xs1 }).map bxC).flatten :: Ch.bagN ((bs.set j { b with B := A', d := c', xs := xs1 }).map bxI) :: es) w := by
  rw [bx_set (b' := { b with B := A', d := c', xs := xs1 }) hb 3 _ (by decide) rfl] at h
  have h1 := h.of_perm (ds := Ch.sl A' c' E .i64 xs1 :: Ch.bagN (bs.map bxI) :: g :: Ch.sv Al cl 43 4 l ((bs.set j { b with B := A', d := c', xs := xs1 }).map bxC).flatten :: es) (List.Perm.cons _ (List.perm_middle (l₁ := [g, Ch.sv Al cl 43 4 l ((bs.set j { b with B := A', d := c', xs := xs1 }).map bxC).flatten])))
  have h2 := bag_set (b' := { b with B := A', d := c', xs := xs1 }) hb rfl rfl rfl h1
  exact h2.of_perm (List.perm_middle (l₁ := [g, Ch.sv Al cl 43 4 l ((bs.set j { b with B := A', d := c', xs := xs1 }).map bxC).flatten])).symm
/-- A list loses its first one. -/
theorem bag_cut {bs : List Bx} {i : Nat} {b : Bx} {n : Int} {t : List Int} (hi : bs[i]? = some b) (hx : b.xs = n :: t) (h : Hp w0 TS (Ch.bagN (bs.map bxI) :: es) w) :
    Hp w0 TS (Ch.bagN ((bs.set i { b with B := cutA b.B 1 b.d 1, d := b.d - 1, xs := t }).map bxI) :: es) w := by
  have hbm : bxI b ∈ bs.map bxI := List.mem_map.2 ⟨b, List.mem_of_getElem? hi, rfl⟩
  have hrd : RdV w b.B b.d 1 b.xs.length (b.xs.map (Value.int .i64)) := bagN_rd h.head hbm
  have hle := hrd.le
  have hc := hrd.cut 1 b.xs.length (by rw [hx]; simp) (Nat.le_refl _)
  have e : ((b.xs.map (Value.int .i64)).take b.xs.length).drop 1 = t.map (Value.int .i64) := by rw [List.take_of_length_le (by simp), hx]; rfl
  have el : b.xs.length - 1 = t.length := by rw [hx]; rfl
  rw [e, el] at hc
  refine h.conv (fun it hit => ?_) (fun k hk => ?_)
  · obtain ⟨q, hq, rfl⟩ := List.mem_map.1 hit
    rcases List.mem_or_eq_of_mem_set hq with hq | rfl
    · exact bagN_rd h.head (List.mem_map.2 ⟨q, hq, rfl⟩)
    · exact hc
  · obtain ⟨it, hit, hv, a, ha, hb⟩ := hk
    obtain ⟨q, hq, rfl⟩ := List.mem_map.1 hit
    rcases List.mem_or_eq_of_mem_set hq with hq | rfl
    · exact ⟨bxI q, List.mem_map.2 ⟨q, hq, rfl⟩, hv, a, ha, hb⟩
    · have hd : 0 < b.d := by rw [hx] at hle; simp at hle; omega
      have hA := hrd.some hd
      have ht : t ≠ [] := fun e => hv (by rw [e]; rfl)
      have htl : 0 < t.length := List.length_pos_iff.2 ht
      have ha2 : cutA b.B 1 b.d 1 = some a := ha
      unfold cutA at ha2
      rw [if_neg (by omega), hA] at ha2
      refine ⟨bxI b, hbm, fun e => ?_, adOf b.B, hA, ?_⟩
      · have e : b.xs.map (Value.int .i64) = [] := e
        rw [hx] at e
        cases e
      · have := Option.some.inj ha2
        rw [← hb, ← this]
        rfl
end
section
variable {P : Program} {n : Nat} {R : Regs} {ty T : TypeId} {M : World → Prop} {x : Operand} {A : Option Addr} {l : Nat} {vs : List Value} {v : Value}
theorem r_loadG [hA : IsAgg P T false] {i c s : Nat} (hx : R.ev x = some (.pointer (some ((adOf A).add i)))) (hr : ∀ w, M w → RdV w A c s l vs) (hi : vs[i]? = some v) : Res P n (.load T x) ty R M v := r_load hx (fun w hM => (hr w hM).at_ i v hi)
end
end Go.Proofs.Ytfkhdhdbfejbpaa.Fd
