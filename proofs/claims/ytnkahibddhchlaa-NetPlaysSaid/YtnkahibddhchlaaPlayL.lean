/- What calls do to a net's state; the counts. -/
import Derived.Test.YtnkahibddhchlaaCopy
import Derived.Test.YtnkahibddhchlaaFlipL
namespace Go.Proofs.Ytnkahibddhchlaa
open Go.RowKit
set_option linter.unusedVariables false

def NSt.deliv (s : NSt) (a b j : Int) : NSt := if s.has a b j = true then { s.gone a b j with t := { s.t with delivered := s.t.delivered + 1 } } else s
def NSt.drop (s : NSt) (a b j : Int) : NSt := if s.has a b j = true then { s.gone a b j with t := { s.t with dropped := s.t.dropped + 1 } } else s
def NSt.dbl (s : NSt) (a b j : Int) : NSt := if s.has a b j = true then s.double a b j else s
def NSt.flp (s : NSt) (a b j bit : Int) : NSt := if s.has a b j = true ∧ 0 ≤ bit ∧ bit / 8 < (s.the a b j).length then s.flip a b j bit else s
def NSt.clr (s : NSt) (dst : Int) : NSt := if 0 ≤ dst ∧ dst < s.n then s.clear dst else s
/-- A call, but for Copy. -/
def NSt.play (s : NSt) (o : OpI) : NSt :=
  if o.kind = 0 then (s.send o.fr o.dst o.b.bs).2 else if o.kind = 1 then s.deliv o.fr o.dst o.at' else if o.kind = 2 then s.drop o.fr o.dst o.at' else
  if o.kind = 3 then s.dbl o.fr o.dst o.at' else if o.kind = 4 then s.flp o.fr o.dst o.at' o.bit else if o.kind = 5 then s.clr o.dst else s

section
variable {p : Nat} {s : NSt} {L : List Pc} {w : World}
theorem deliver_any (H : NAt p s L w) (ht : Tok 1000000000 s.t) {a b j : Int} (ha : okI a) (hb : okI b) :
    Calls Try.prog 14 #[ptrV p, .int .i64 a, .int .i64 b, .int .i64 j] w fun e w' => ∃ v er, e = .returned (.tuple #[slV v, .int .i64 er]) ∧ NAt p (s.deliv a b j) L w' := by
  unfold NSt.deliv
  cases h : s.has a b j with
  | true =>
    refine (deliver_yes H ht ha hb h).mono ?_
    rintro e w' ⟨v, rfl, h'⟩
    exact ⟨v, 0, rfl, by rw [if_pos rfl]; exact h'.re (.drop (.same _))⟩
  | false =>
    refine (deliver_no H ha hb h).mono ?_
    rintro e w' ⟨rfl, rfl⟩
    exact ⟨(none, 0, 0), 170, rfl, by rw [if_neg (by simp)]; exact H⟩
theorem drop_any (H : NAt p s L w) (ht : Tok 1000000000 s.t) {a b j : Int} (ha : okI a) (hb : okI b) :
    Calls Try.prog 28 #[ptrV p, .int .i64 a, .int .i64 b, .int .i64 j] w fun e w' => ∃ er, e = .returned (.int .i64 er) ∧ NAt p (s.drop a b j) L w' := by
  unfold NSt.drop
  cases h : s.has a b j with
  | true =>
    refine (drop_yes H ht ha hb h).mono ?_
    rintro e w' ⟨rfl, h'⟩
    exact ⟨0, rfl, by rw [if_pos rfl]; exact h'⟩
  | false =>
    refine (drop_no H ha hb h).mono ?_
    rintro e w' ⟨rfl, rfl⟩
    exact ⟨170, rfl, by rw [if_neg (by simp)]; exact H⟩
theorem double_any (H : NAt p s L w) (ht : Tok 1000000000 s.t) {a b j : Int} (ha : okI a) (hb : okI b) :
    Calls Try.prog 15 #[ptrV p, .int .i64 a, .int .i64 b, .int .i64 j] w fun e w' => ∃ er, e = .returned (.int .i64 er) ∧ NAt p (s.dbl a b j) L w' := by
  unfold NSt.dbl
  cases h : s.has a b j with
  | true =>
    refine (double_yes H ht ha hb h).mono ?_
    rintro e w' ⟨rfl, h'⟩
    exact ⟨0, rfl, by rw [if_pos rfl]; exact h'⟩
  | false =>
    refine (double_no H ha hb h).mono ?_
    rintro e w' ⟨rfl, rfl⟩
    exact ⟨170, rfl, by rw [if_neg (by simp)]; exact H⟩
theorem flip_all (H : NAt p s L w) (ht : Tok 1000000000 s.t) {a b j bit : Int} (ha : okI a) (hb : okI b) (hbi : okI bit) :
    Calls Try.prog 12 #[ptrV p, .int .i64 a, .int .i64 b, .int .i64 j, .int .i64 bit] w fun e w' => ∃ er, e = .returned (.int .i64 er) ∧ NAt p (s.flp a b j bit) L w' := by
  unfold NSt.flp
  cases h : s.has a b j with
  | true =>
    by_cases hc : 0 ≤ bit ∧ bit / 8 < (s.the a b j).length
    · refine (flip_yes H ht ha hb h hc).mono ?_
      rintro e w' ⟨rfl, h'⟩
      exact ⟨0, rfl, by rw [if_pos ⟨rfl, hc⟩]; exact h'⟩
    · refine (flip_bad H ha hb hbi h hc).mono ?_
      rintro e w' ⟨rfl, rfl⟩
      exact ⟨170, rfl, by rw [if_neg (fun h => hc h.2)]; exact H⟩
  | false =>
    refine (flip_no H ha hb h).mono ?_
    rintro e w' ⟨rfl, rfl⟩
    exact ⟨170, rfl, by rw [if_neg (by simp)]; exact H⟩
theorem clear_any (H : NAt p s L w) (ht : Tok 1000000000 s.t) (dst : Int) :
    Calls Try.prog 29 #[ptrV p, .int .i64 dst] w fun e w' => ∃ m er, e = .returned (.tuple #[.int .i64 m, .int .i64 er]) ∧ NAt p (s.clr dst) L w' := by
  unfold NSt.clr
  by_cases h : 0 ≤ dst ∧ dst < s.n
  · refine (clear_c H ht h).mono ?_
    rintro e w' ⟨rfl, h'⟩
    exact ⟨_, _, rfl, by rw [if_pos h]; exact h'⟩
  · refine (clear_no H h).mono ?_
    rintro e w' ⟨rfl, h'⟩
    exact ⟨_, _, rfl, by rw [if_neg h]; exact h'⟩

/-- What a net's state is bound to. -/
theorem NAt.key (H : NAt p s L w) {k : Ky} (h : s.F k ≠ []) : 0 ≤ k.1 ∧ k.1 < s.n ∧ 0 ≤ k.2 ∧ k.2 < s.n ∧ k.1 ≠ k.2 := by
  obtain ⟨m, xs, -, ok, hF⟩ := H
  rw [← hF] at h
  rcases look_cases xs k with h' | ⟨i, hi, rfl⟩
  · exact absurd (look_none h').1 h
  · exact ok.key _ (List.getElem_mem hi)
theorem NAt.lenF (H : NAt p s L w) (k : Ky) : (s.F k).length ≤ s.room := by
  obtain ⟨m, xs, -, ok, hF⟩ := H
  rw [← hF]
  rcases look_cases xs k with h' | ⟨i, hi, h'⟩
  · rw [(look_none h').1]; exact Nat.zero_le _
  · rw [(look_at ok hi h').1, List.length_map]; exact ok.len _ (List.getElem_mem hi)
theorem NAt.sizes (H : NAt p s L w) : 1 ≤ s.n ∧ s.n ≤ 64 ∧ 1 ≤ s.room ∧ s.room ≤ 256 := by
  obtain ⟨m, xs, -, ok, hF⟩ := H
  exact ⟨ok.n1, ok.n2, ok.r1, ok.r2⟩
end

/-! ### Sums over all ways -/
theorem sum_filter {l : List Ky} {F : Ky → List (List Int)} {g : Ky → Nat} (hg : ∀ k, (F k).isEmpty = true → g k = 0) : ((l.filter fun k => !(F k).isEmpty).map g).sum = (l.map g).sum := by
  induction l with
  | nil => rfl
  | cons k l ih =>
    cases h : (F k).isEmpty with
    | true =>
      rw [List.filter_cons_of_neg (by simp [h]), ih, List.map_cons, List.sum_cons, hg k h, Nat.zero_add]
    | false =>
      rw [List.filter_cons_of_pos (by simp [h]), List.map_cons, List.sum_cons, ih, List.map_cons, List.sum_cons]
theorem allF_eq (n : Nat) (F : Ky → List (List Int)) : allF n F = ((allK n).map fun k => (F k).length).sum := by
  unfold allF heldK
  exact sum_filter fun k h => by rw [List.isEmpty_iff.1 h]; rfl
theorem cntTo_eq (n : Nat) (F : Ky → List (List Int)) (dst : Int) : cntTo (heldK n F) F dst (heldK n F).length = ((allK n).map fun k => if k.2 = dst then (F k).length else 0).sum := by
  unfold cntTo
  rw [List.take_length]
  unfold heldK
  exact sum_filter fun k h => by rw [List.isEmpty_iff.1 h]; simp
theorem sum_upd {l : List Ky} (hd : l.Nodup) (F : Ky → List (List Int)) {k : Ky} (hk : k ∈ l) (v : List (List Int)) : (l.map fun x => (upd F k v x).length).sum + (F k).length = (l.map fun x => (F x).length).sum + v.length := by
  induction l with
  | nil => cases hk
  | cons y l ih =>
    obtain ⟨h1, h2⟩ := List.nodup_cons.1 hd
    simp only [List.map_cons, List.sum_cons]
    rcases List.mem_cons.1 hk with rfl | hk
    · have e : (l.map fun x => (upd F k v x).length) = l.map fun x => (F x).length := by
        apply List.map_congr_left
        intro x hx
        have : x ≠ k := fun e => h1 (e ▸ hx)
        simp [upd, this]
      rw [e, upd_self]
      omega
    · have : y ≠ k := fun e => h1 (e ▸ hk)
      have e : upd F k v y = F y := by simp [upd, this]
      rw [e]
      have := ih h2 hk
      omega
theorem mem_allK {n : Nat} {k : Ky} (h1 : 0 ≤ k.1 ∧ k.1 < n) (h2 : 0 ≤ k.2 ∧ k.2 < n) : k ∈ allK n := by
  have := mem_heldK (n := n) (F := fun _ => [[]]) h1 h2 (by simp)
  exact (List.mem_filter.1 this).1
theorem allF_upd {n : Nat} (F : Ky → List (List Int)) {k : Ky} (h1 : 0 ≤ k.1 ∧ k.1 < n) (h2 : 0 ≤ k.2 ∧ k.2 < n) (v : List (List Int)) : allF n (upd F k v) + (F k).length = allF n F + v.length := by
  rw [allF_eq, allF_eq]
  exact sum_upd (allK_nodup n) F (mem_allK h1 h2) v
theorem allF_clr (n : Nat) (F : Ky → List (List Int)) (dst : Int) : allF n (clrF F dst) + cntTo (heldK n F) F dst (heldK n F).length = allF n F := by
  rw [allF_eq, allF_eq, cntTo_eq]
  induction allK n with
  | nil => rfl
  | cons k l ih =>
    simp only [List.map_cons, List.sum_cons]
    unfold clrF at ih ⊢
    split
    · simp only [List.length_nil]; omega
    · omega
theorem allF_le {p : Nat} {s : NSt} {L : List Pc} {w : World} (H : NAt p s L w) : allF s.n s.F ≤ 1048576 := by
  obtain ⟨h1, h2, h3, h4⟩ := H.sizes
  have h5 := sumTo_le (l := heldK s.n s.F) (F := s.F) (r := s.room) (fun i hi => H.lenF _) _ (Nat.le_refl _)
  have h6 := heldK_len s.n s.F
  have h7 : s.n * s.n ≤ 64 * 64 := Nat.mul_le_mul h2 h2
  have h8 : (heldK s.n s.F).length * s.room ≤ 64 * 64 * 256 := Nat.mul_le_mul (by omega) h4
  have e : sumTo (heldK s.n s.F) s.F (heldK s.n s.F).length = allF s.n s.F := by unfold sumTo allF; rw [List.take_length]
  omega

/-- What was sent and doubled is what was delivered, dropped, lost, and what is in flight. -/
def Cons (s : NSt) : Prop := s.t.sent + s.t.doubled = s.t.delivered + s.t.dropped + s.t.lost + (allF s.n s.F : Int)

theorem come_cons {s : NSt} {k : Ky} (h1 : 0 ≤ k.1 ∧ k.1 < s.n) (h2 : 0 ≤ k.2 ∧ k.2 < s.n) (bs : List Int) :
    (s.come k bs).t.lost + (allF s.n (s.come k bs).F : Int) = s.t.lost + (allF s.n s.F : Int) + 1 ∧ (s.come k bs).t = { s.t with lost := (s.come k bs).t.lost } ∧ (s.t.lost ≤ (s.come k bs).t.lost ∧ (s.come k bs).t.lost ≤ s.t.lost + 1) ∧ (s.come k bs).n = s.n ∧ (s.come k bs).room = s.room := by
  unfold NSt.come comeT comeF
  dsimp only
  by_cases h : (s.F k).length < s.room
  · rw [if_pos h, if_pos h]
    have := allF_upd s.F h1 h2 (s.F k ++ [bs])
    rw [List.length_append, List.length_singleton] at this
    exact ⟨by omega, rfl, by omega, rfl, rfl⟩
  · rw [if_neg h, if_neg h]
    exact ⟨by dsimp only; omega, rfl, by dsimp only; omega, rfl, rfl⟩

/-- A call: the counts stay small, and balanced; nodes and room stay. -/
theorem play_ok {p : Nat} {s : NSt} {L : List Pc} {w : World} (H : NAt p s L w) {B : Int} (ht : Tok B s.t) (hc : Cons s) (o : OpI) : Tok (B + 1100000) (s.play o).t ∧ Cons (s.play o) ∧ (s.play o).n = s.n ∧ (s.play o).room = s.room := by
  have same : Tok (B + 1100000) s.t ∧ Cons s ∧ s.n = s.n ∧ s.room = s.room := ⟨ht.mono (by omega), hc, rfl, rfl⟩
  have hasK : ∀ a b j, s.has a b j = true → (0 ≤ (a, b).1 ∧ (a, b).1 < (s.n : Int)) ∧ (0 ≤ (a, b).2 ∧ (a, b).2 < (s.n : Int)) ∧ 0 ≤ j ∧ j.toNat < (s.F (a, b)).length := by
    intro a b j h
    have h1 := of_decide_eq_true h
    have h2 := H.key (k := (a, b)) (fun e => by rw [e] at h1; simp at h1; omega)
    exact ⟨⟨h2.1, h2.2.1⟩, ⟨h2.2.2.1, h2.2.2.2.1⟩, h1.1, by omega⟩
  have hgone : ∀ a b j, s.has a b j = true → allF s.n (s.gone a b j).F + 1 = allF s.n s.F := by
    intro a b j h
    obtain ⟨h1, h2, h3, h4⟩ := hasK a b j h
    have := allF_upd s.F h1 h2 ((s.F (a, b)).eraseIdx j.toNat)
    rw [List.length_eraseIdx_of_lt h4] at this
    unfold NSt.gone
    dsimp only
    omega
  have hall := allF_le H
  unfold NSt.play
  obtain ⟨t1, t2, t3, t4, t5, t6⟩ := ht
  unfold Cons at hc
  split
  · unfold NSt.send
    split
    · rename_i h
      have hk : s.okB o.fr o.dst = true := h.1
      unfold NSt.okB at hk
      simp only [Bool.and_eq_true, decide_eq_true_eq] at hk
      obtain ⟨e1, e2, e5, e3, e4⟩ := come_cons (s := { s with t := { s.t with sent := s.t.sent + 1 } }) (k := (o.fr, o.dst)) hk.1.1 hk.1.2 o.b.bs
      dsimp only at e1 e2 e3 e4 e5 ⊢
      generalize NSt.come { s with t := { s.t with sent := s.t.sent + 1 } } (o.fr, o.dst) o.b.bs = s2 at *
      refine ⟨?_, ?_, e3, e4⟩
      · rw [e2]
        constructor <;> dsimp only <;> omega
      · unfold Cons
        rw [e2, e3]
        dsimp only
        omega
    · exact same
  · split
    · unfold NSt.deliv
      split
      · rename_i h
        have h1 := hgone _ _ _ h
        refine ⟨by constructor <;> dsimp only <;> omega, ?_, rfl, rfl⟩
        show s.t.sent + s.t.doubled = s.t.delivered + 1 + s.t.dropped + s.t.lost + (allF s.n (s.gone o.fr o.dst o.at').F : Int)
        omega
      · exact same
    · split
      · unfold NSt.drop
        split
        · rename_i h
          have h1 := hgone _ _ _ h
          refine ⟨by constructor <;> dsimp only <;> omega, ?_, rfl, rfl⟩
          show s.t.sent + s.t.doubled = s.t.delivered + (s.t.dropped + 1) + s.t.lost + (allF s.n (s.gone o.fr o.dst o.at').F : Int)
          omega
        · exact same
      · split
        · unfold NSt.dbl
          split
          · rename_i h
            obtain ⟨h1, h2, -, -⟩ := hasK _ _ _ h
            unfold NSt.double
            obtain ⟨e1, e2, e5, e3, e4⟩ := come_cons (s := { s with t := { s.t with doubled := s.t.doubled + 1 } }) (k := (o.fr, o.dst)) h1 h2 (s.the o.fr o.dst o.at')
            dsimp only at e1 e2 e3 e4 e5 ⊢
            generalize NSt.come { s with t := { s.t with doubled := s.t.doubled + 1 } } (o.fr, o.dst) (s.the o.fr o.dst o.at') = s2 at *
            refine ⟨?_, ?_, e3, e4⟩
            · rw [e2]
              constructor <;> dsimp only <;> omega
            · unfold Cons
              rw [e2, e3]
              dsimp only
              omega
          · exact same
        · split
          · unfold NSt.flp
            split
            · rename_i h
              obtain ⟨h1, h2, h3, h4⟩ := hasK _ _ _ h.1
              have hl := allF_upd s.F h1 h2 ((s.F (o.fr, o.dst)).set o.at'.toNat (flipB (s.the o.fr o.dst o.at') o.bit))
              rw [List.length_set] at hl
              refine ⟨by constructor <;> dsimp only [NSt.flip] <;> omega, ?_, rfl, rfl⟩
              unfold Cons NSt.flip
              dsimp only
              omega
            · exact same
          · split
            · unfold NSt.clr
              split
              · have hl := allF_clr s.n s.F o.dst
                unfold NSt.clear
                refine ⟨by constructor <;> dsimp only <;> omega, ?_, rfl, rfl⟩
                unfold Cons
                dsimp only
                omega
              · exact same
            · exact same
end Go.Proofs.Ytnkahibddhchlaa
