/- The walk of the net's Clear. -/
import Derived.Test.YtnkahibddhchlaaAlive
namespace Go.Proofs.Ytnkahibddhchlaa
open Go.RowKit Go.Shelf
set_option linter.unusedVariables false
attribute [local go_sem] Oper.semAt_some

def clrF (F : Ky → List (List Int)) (dst : Int) : Ky → List (List Int) := fun k => if k.2 = dst then [] else F k
/-- How many of the first i ways' datagrams are on their way to a node. -/
def cntTo (l : List Ky) (F : Ky → List (List Int)) (dst : Int) (i : Nat) : Nat := ((l.take i).map fun k => if k.2 = dst then (F k).length else 0).sum
theorem cntTo_succ {l : List Ky} (F : Ky → List (List Int)) (dst : Int) {i : Nat} (hi : i < l.length) : cntTo l F dst (i + 1) = cntTo l F dst i + if (l[i]'hi).2 = dst then (F (l[i]'hi)).length else 0 := by
  unfold cntTo
  rw [List.take_succ_eq_append_getElem hi, List.map_append, List.sum_append]
  simp
theorem cntTo_le {l : List Ky} {F : Ky → List (List Int)} {dst : Int} {r : Nat} (h : ∀ i (hi : i < l.length), (F (l[i]'hi)).length ≤ r) : ∀ i, i ≤ l.length → cntTo l F dst i ≤ i * r
  | 0, _ => by simp [cntTo]
  | i + 1, hi => by
    rw [cntTo_succ F dst (by omega)]
    have h1 := cntTo_le (dst := dst) h i (by omega)
    have h2 := h i (by omega)
    rw [Nat.add_mul]
    split <;> omega
def NSt.clear (s : NSt) (dst : Int) : NSt := { s with t := { s.t with dropped := s.t.dropped + (cntTo (heldK s.n s.F) s.F dst (heldK s.n s.F).length : Nat) }, F := clrF s.F dst }

theorem allK_nodup (n : Nat) : (allK n).Nodup := by
  unfold allK
  rw [List.nodup_iff_pairwise_ne] 
  refine List.pairwise_map.2 ?_
  refine List.Pairwise.imp_of_mem ?_ (List.nodup_range (n := n * n))
  intro a b ha hb hne e
  simp only [Prod.mk.injEq] at e
  apply hne
  have h1 := Nat.div_add_mod a n
  have h2 := Nat.div_add_mod b n
  have e1 : a / n = b / n := by omega
  have e2 : a % n = b % n := by omega
  rw [← h1, ← h2, e1, e2]

/-- The lanes when the first i of those that hold some are cleared. -/
def clrX (xs : List Ln) (l : List Ky) (dst : Int) (i : Nat) : List Ln := xs.map fun x => if x.key ∈ l.take i ∧ x.key.2 = dst then ⟨x.key, x.q, .slice none 0 0, []⟩ else x
theorem clrX_key (xs : List Ln) (l : List Ky) (dst : Int) (i : Nat) : (clrX xs l dst i).map Ln.key = xs.map Ln.key := by
  unfold clrX
  rw [List.map_map]
  apply List.map_congr_left
  intro x _
  simp only [Function.comp]
  split <;> rfl
theorem clrX_kOf (xs : List Ln) (l : List Ky) (dst : Int) (i : Nat) : (clrX xs l dst i).map kOf = xs.map kOf := by
  unfold clrX
  rw [List.map_map]
  apply List.map_congr_left
  intro x _
  simp only [Function.comp]
  split <;> rfl
theorem clrX_zero (xs : List Ln) (l : List Ky) (dst : Int) : clrX xs l dst 0 = xs := by
  unfold clrX
  simp
theorem clrX_ok {n room : Nat} {xs : List Ln} (ok : NOk n room xs) (l : List Ky) (dst : Int) (i : Nat) : NOk n room (clrX xs l dst i) := by
  refine ⟨by rw [clrX_key]; exact ok.nd, fun y hy => ?_, fun y hy => ?_, fun y hy => ?_, ok.n1, ok.n2, ok.r1, ok.r2⟩
  all_goals
    obtain ⟨x, hx, rfl⟩ := List.mem_map.1 hy
  · split
    · exact ok.key x hx
    · exact ok.key x hx
  · split
    · exact Nat.zero_le _
    · exact ok.len x hx
  · split
    · intro g hg; cases hg
    · exact ok.byte x hx
theorem clrX_look {n room : Nat} {xs : List Ln} (ok : NOk n room xs) (l : List Ky) (dst : Int) (i : Nat) (k : Ky) : look (clrX xs l dst i) k = if k ∈ l.take i ∧ k.2 = dst then [] else look xs k := by
  rcases look_cases xs k with h | ⟨j, hj, rfl⟩
  · have h' : ∀ x ∈ clrX xs l dst i, x.key ≠ k := by
      intro y hy
      obtain ⟨x, hx, rfl⟩ := List.mem_map.1 hy
      have := h x hx
      split
      · exact this
      · exact this
    rw [(look_none h').1, (look_none h).1]
    split <;> rfl
  · have hj' : j < (clrX xs l dst i).length := by unfold clrX; simpa using hj
    have hk : ((clrX xs l dst i)[j]'hj').key = (xs[j]'hj).key := by
      have : ((clrX xs l dst i).map Ln.key)[j]'(by simpa using hj') = (xs.map Ln.key)[j]'(by simpa using hj) := List.getElem_of_eq (clrX_key xs l dst i) _
      simpa using this
    rw [(look_at (clrX_ok ok l dst i) hj' hk).1, (look_at ok hj rfl).1]
    simp only [clrX, List.getElem_map]
    split <;> rfl
theorem clrX_len (xs : List Ln) (l : List Ky) (dst : Int) (i : Nat) : (clrX xs l dst i).length = xs.length := by simp [clrX]
/-- One more is cleared. -/
theorem clrX_set {n room : Nat} {xs : List Ln} (ok : NOk n room xs) {l : List Ky} {dst : Int} {i j : Nat} (hi : i < l.length) (hj : j < xs.length) (hk : (xs[j]'hj).key = l[i]'hi) :
    clrX xs l dst (i + 1) = if (l[i]'hi).2 = dst then (clrX xs l dst i).set j ⟨l[i]'hi, (xs[j]'hj).q, .slice none 0 0, []⟩ else clrX xs l dst i := by
  have hmem : ∀ x ∈ xs, x.key = l[i]'hi → x = xs[j]'hj := by
    intro x hx e
    obtain ⟨m, hm, rfl⟩ := List.mem_iff_getElem.1 hx
    have h1 : (xs.map Ln.key)[m]'(by simpa using hm) = (xs.map Ln.key)[j]'(by simpa using hj) := by
      simp only [List.getElem_map]; rw [e, hk]
    have := (List.getElem_inj ok.nd).1 h1
    subst this
    rfl
  have hstep : ∀ x ∈ xs, (x.key ∈ l.take (i + 1) ∧ x.key.2 = dst) ↔ ((x.key ∈ l.take i ∧ x.key.2 = dst) ∨ (x = xs[j]'hj ∧ (l[i]'hi).2 = dst)) := by
    intro x hx
    rw [List.take_succ_eq_append_getElem hi, List.mem_append, List.mem_singleton]
    constructor
    · rintro ⟨h1 | h1, h2⟩
      · exact .inl ⟨h1, h2⟩
      · exact .inr ⟨hmem x hx h1, by rw [← h1]; exact h2⟩
    · rintro (⟨h1, h2⟩ | ⟨h1, h2⟩)
      · exact ⟨.inl h1, h2⟩
      · rw [h1]
        exact ⟨.inr hk, by rw [hk]; exact h2⟩
  apply List.ext_getElem
  · rw [clrX_len]; split <;> simp [clrX_len]
  intro m h1 h2
  have hm : m < xs.length := by rw [clrX_len] at h1; exact h1
  have e1 : (clrX xs l dst (i + 1))[m]'h1 = if (xs[m]'hm).key ∈ l.take (i + 1) ∧ (xs[m]'hm).key.2 = dst then ⟨(xs[m]'hm).key, (xs[m]'hm).q, .slice none 0 0, []⟩ else xs[m]'hm := by simp only [clrX, List.getElem_map]
  have e2 : (clrX xs l dst i)[m]'(by rw [clrX_len]; exact hm) = if (xs[m]'hm).key ∈ l.take i ∧ (xs[m]'hm).key.2 = dst then ⟨(xs[m]'hm).key, (xs[m]'hm).q, .slice none 0 0, []⟩ else xs[m]'hm := by simp only [clrX, List.getElem_map]
  have hs := hstep _ (List.getElem_mem hm)
  by_cases hd : (l[i]'hi).2 = dst
  · simp only [if_pos hd, List.getElem_set]
    by_cases e : j = m
    · subst e
      rw [if_pos rfl, e1, if_pos (hs.2 (.inr ⟨rfl, hd⟩)), hk]
    · rw [if_neg e, e1, e2]
      have hne : ¬ xs[m]'hm = xs[j]'hj := by
        intro h
        have h3 : (xs.map Ln.key)[m]'(by simpa using hm) = (xs.map Ln.key)[j]'(by simpa using hj) := by simp only [List.getElem_map]; rw [h]
        exact e ((List.getElem_inj ok.nd).1 h3).symm
      by_cases hc : (xs[m]'hm).key ∈ l.take i ∧ (xs[m]'hm).key.2 = dst
      · rw [if_pos (hs.2 (.inl hc)), if_pos hc]
      · rw [if_neg (fun h => by rcases hs.1 h with h | h; exact hc h; exact hne h.1), if_neg hc]
  · simp only [if_neg hd]
    rw [e1, e2]
    by_cases hc : (xs[m]'hm).key ∈ l.take i ∧ (xs[m]'hm).key.2 = dst
    · rw [if_pos (hs.2 (.inl hc)), if_pos hc]
    · rw [if_neg (fun h => by rcases hs.1 h with h | h; exact hc h; exact hd h.2), if_neg hc]
/-- A way that has not been met is as it was. -/
theorem held_notyet {n : Nat} {F : Ky → List (List Int)} {i : Nat} (hi : i < (allK n).length) : (allK n)[i]'hi ∉ (heldK n F).take (cntK n F i) := by
  have e : (heldK n F).take (cntK n F i) = ((allK n).take i).filter fun k => !(F k).isEmpty := by
    have e2 : heldK n F = ((allK n).take i).filter (fun k => !(F k).isEmpty) ++ ((allK n).drop i).filter fun k => !(F k).isEmpty := by
      unfold heldK
      conv => lhs; rw [← List.take_append_drop i (allK n)]
      rw [List.filter_append]
    rw [e2]
    unfold cntK
    exact List.take_left
  rw [e]
  intro h
  have h1 := (List.mem_filter.1 h).1
  obtain ⟨m, hm, e3⟩ := List.mem_iff_getElem.1 h1
  have hmi : m < i := by
    have := hm
    rw [List.length_take] at this
    omega
  rw [List.getElem_take] at e3
  have := (List.getElem_inj (allK_nodup n)).1 e3
  omega
theorem clrX_all {n room : Nat} {xs : List Ln} (ok : NOk n room xs) (dst : Int) : look (clrX xs (heldK n (look xs)) dst (heldK n (look xs)).length) = clrF (look xs) dst := by
  funext k
  rw [clrX_look ok, List.take_length]
  unfold clrF
  by_cases h : k.2 = dst
  · rw [if_pos h]
    by_cases h2 : look xs k = []
    · rw [h2]; split <;> rfl
    · rw [if_pos ⟨look_held ok h2, h⟩]
  · rw [if_neg h, if_neg (fun h2 => h h2.2)]

/-- A lane is emptied. -/
theorem clr_step {V : World} {B p m : Nat} {n room : Nat} {t : Tf} {xs : List Ln} {O T : List Pc} {j : Nat} (hj : j < xs.length) (H : SL V (O ++ (heldP B p m n room t xs ++ T))) :
    SL (V.setCell ⟨(xs[j]'hj).q, 0, none⟩ (.slice none 0 0)) (O ++ (heldP B p m n room t (xs.set j ⟨(xs[j]'hj).key, (xs[j]'hj).q, .slice none 0 0, []⟩) ++ T)) ∧
      V.cell? ⟨(xs[j]'hj).q, 0, none⟩ = some (xs[j]'hj).h ∧ V.frozen? ⟨(xs[j]'hj).q, 0, none⟩ = false ∧ ∃ a c, (xs[j]'hj).h = .slice a (xs[j]'hj).gs.length c := by
  have h1 : SL V (netP p m n room t xs ++ (.blk B [ptrV p] 24 :: (O ++ T))) := (SL.swap H).perm (by
    show List.Perm (.blk B [ptrV p] 24 :: (netP p m n room t xs ++ (O ++ T))) _
    exact List.perm_middle.symm)
  have h2 := net_split h1 hj
  have hc := h2.cell (b := (xs[j]'hj).q) (o := 0) (.here _ _) rfl
  have hf := h2.free (b := (xs[j]'hj).q) (.here _ _) 0
  obtain ⟨a, c, hsl, -⟩ := ln_slice h2 (.there (.here _ _))
  refine ⟨?_, hc, hf, a, c, hsl⟩
  have h3 : SL _ (lnB (xs[j]'hj).q (.slice none 0 0) :: lnH (xs[j]'hj).h (xs[j]'hj).gs :: ((xs[j]'hj).gs.map grP ++ _)) := h2.setCell 0 (.slice none 0 0)
  have h4 := h3.re (.step (.here _ _) (.drop (re_right _ _)))
  have h5 := (h4.pure (q := lnH (.slice none 0 0) []) (OwnK.nil _ _ _ _) fun b hb => by cases hb).re (.step (.there (.here _ _)) (.step (.here _ _) (.same _)))
  have h6 := net_join hj ⟨(xs[j]'hj).key, (xs[j]'hj).q, .slice none 0 0, []⟩ rfl rfl h5
  have h7 := h6.perm (List.perm_middle (a := Pc.blk B [ptrV p] 24))
  exact SL.swap (A := heldP B p m n room t _) h7

section
variable {p : Nat} {s : NSt} {L : List Pc} {w : World}

theorem clear_no (H0 : NAt p s L w) {dst : Int} (hd : ¬ (0 ≤ dst ∧ dst < s.n)) :
    Calls Try.prog 29 #[ptrV p, .int .i64 dst] w fun e w' => e = .returned (.tuple #[.int .i64 0, .int .i64 170]) ∧ NAt p s L w' := by
  obtain ⟨m, xs, H, ok, hF⟩ := H0
  obtain ⟨n, room, t, F⟩ := s
  dsimp only at H ok hF hd
  have H1 := H.alloc [.int .i64 dst] 3
  have hno := Lib.hid (fun V L' (h : SL V (netB p n room m t :: L')) => none_c h)
  have his := Lib.hid (fun V L' (h : SL V (netB p n room m t :: L')) => is_c h dst)
  rw [decide_eq_false hd] at his
  have hH := Lib.hid H1
  have hfin : Hid (∀ V, SL V (netP p m n room t xs ++ L) → NAt p ⟨n, room, t, F⟩ L V) := Lib.hid fun V h => ⟨m, xs, h, ok, hF⟩
  clear H H1 ok hF hd
  refine calls_of_marks Try.func29 rfl ?_
  simp only [Try.ntmps29, List.size_toArray, List.length_cons, List.length_nil, Nat.reduceAdd, Nat.reduceSub, Array.replicate_succ, Array.replicate_zero, List.push_toArray, List.append_toArray, List.nil_append, List.cons_append]
  unfold ptrV at *
  gi_wp2_with fail
  generalize w.alloc (.cells [Value.int .i64 dst].toArray 3) = w1 at *
  generalize w.heap.size = b3 at *
  have hno' := (hno.out w1 _ hH.out.tail)
  clear hno
  refine ⟨trivial, rfl, calls_in (hno'.mono ?_)⟩
  rintro e w' ⟨rfl, rfl⟩
  clear hno'
  have c0 := hH.out.cell (b := b3) (o := 0) (.here _ _) rfl
  gi_wp2_with fail
  have his' := (his.out w1 _ hH.out.tail)
  clear his
  refine ⟨trivial, rfl, calls_in (his'.mono ?_)⟩
  rintro e w' ⟨rfl, rfl⟩
  clear his'
  gi_wp2_with fail
  exact ⟨.tuple #[.int .i64 0, .int .i64 170], by simp [results, Try.results29, go_sem], rfl, hfin.out _ hH.out.tail⟩

set_option maxHeartbeats 4000000 in
theorem clear_c (H0 : NAt p s L w) (ht : Tok 1000000000 s.t) {dst : Int} (hd : 0 ≤ dst ∧ dst < s.n) :
    Calls Try.prog 29 #[ptrV p, .int .i64 dst] w fun e w' => e = .returned (.tuple #[.int .i64 (cntTo (heldK s.n s.F) s.F dst (heldK s.n s.F).length : Nat), .int .i64 0]) ∧ NAt p (s.clear dst) L w' := by
  obtain ⟨m, xs, H, ok, hF⟩ := H0
  obtain ⟨n, room, t, F⟩ := s
  dsimp only at H ok hF hd ht
  subst hF
  dsimp only
  obtain ⟨hd1, hd2⟩ := ht.dropped
  have hno := Lib.hid (fun V L' (h : SL V (netB p n room m t :: L')) => none_c h)
  have his := Lib.hid (fun V L' (h : SL V (netB p n room m t :: L')) => is_c h dst)
  rw [decide_eq_true hd] at his
  have hheld := Lib.hid (fun V L' (h : SL V L') => held_c p V h)
  obtain ⟨K, hK⟩ : ∃ K, heldK n (look xs) = K := ⟨_, rfl⟩
  have hg := Lib.hid (fun B => held_gives B p m n room t (fun i => clrX xs (heldK n (look xs)) dst i) (xs.map kOf) (look xs) (fun i => clrX_ok ok _ _ _) (fun i => clrX_kOf _ _ _ _) (fun i h => by
    rw [clrX_look ok, if_neg (fun h2 => held_notyet h h2.1)]))
  have hall : Hid (look (clrX xs K dst K.length) = clrF (look xs) dst ∧ NOk n room (clrX xs K dst K.length)) := Lib.hid (by rw [← hK]; exact ⟨clrX_all ok dst, clrX_ok ok _ _ _⟩)
  have hlane : Hid (∀ i (hi : i < K.length), ∃ (j : Nat) (hj : j < xs.length), (xs[j]'hj).key = K[i]'hi ∧ kat (xs.map kOf) (K[i]'hi) = ptrV (xs[j]'hj).q ∧ look xs (K[i]'hi) = (xs[j]'hj).gs.map Gr.bs ∧ (look xs (K[i]'hi)).length ≤ room) := Lib.hid (by subst hK; exact fun i hi => held_lane ok hi)
  have hnd : Hid (K.Nodup) := Lib.hid (by rw [← hK]; unfold heldK; exact (allK_nodup n).filter _)
  have hlen : K.length ≤ n * n := by rw [← hK]; exact heldK_len n _
  have hn2 := ok.n2
  have hr2 := ok.r2
  have hsz : Hid (∀ i, i ≤ K.length → cntTo K (look xs) dst i ≤ 1048576) := Lib.hid fun i hi => by
    have h1 := cntTo_le (r := room) (dst := dst) (fun i hi => (hlane.out i hi).choose_spec.choose_spec.2.2.2) i hi
    have h2 : i * room ≤ n * n * room := Nat.mul_le_mul_right room (by omega)
    have h3 : n * n ≤ 64 * 64 := Nat.mul_le_mul hn2 hn2
    have h4 : n * n * room ≤ 64 * 64 * 256 := Nat.mul_le_mul h3 hr2
    omega
  have hst : Hid (∀ i (hi : i < K.length), cntTo K (look xs) dst (i + 1) = cntTo K (look xs) dst i + if (K[i]'hi).2 = dst then (look xs (K[i]'hi)).length else 0) := Lib.hid fun i hi => cntTo_succ _ _ hi
  have hok := Lib.hid ok
  have hmx : Try.prog.follows .mixedOrders = true := by kernel_rfl
  rw [hK] at hg ⊢
  have H1 := H.alloc [.int .i64 dst] 3
  have hH := Lib.hid H1
  have hS : Hid (NSt.clear ⟨n, room, t, look xs⟩ dst = ⟨n, room, { t with dropped := t.dropped + (cntTo K (look xs) dst K.length : Nat) }, clrF (look xs) dst⟩) := Lib.hid (by unfold NSt.clear; dsimp only; rw [hK])
  clear H ok H1 hlen hd ht hK
  refine calls_of_marks Try.func29 rfl ?_
  simp only [Try.ntmps29, List.size_toArray, List.length_cons, List.length_nil, Nat.reduceAdd, Nat.reduceSub, Array.replicate_succ, Array.replicate_zero, List.push_toArray, List.append_toArray, List.nil_append, List.cons_append]
  unfold ptrV at *
  gi_wp2_with fail
  generalize w.alloc (.cells [Value.int .i64 dst].toArray 3) = w1 at *
  generalize w.heap.size = b3 at *
  have hno' := (hno.out w1 _ hH.out.tail)
  clear hno
  refine ⟨trivial, rfl, calls_in (hno'.mono ?_)⟩
  rintro e w' ⟨rfl, rfl⟩
  clear hno'
  have c0 := hH.out.cell (b := b3) (o := 0) (.here _ _) rfl
  gi_wp2_with fail
  have his' := (his.out w1 _ hH.out.tail)
  clear his
  refine ⟨trivial, rfl, calls_in (his'.mono ?_)⟩
  rintro e w' ⟨rfl, rfl⟩
  clear his' c0
  gi_wp2_with fail
  have H1 := hH.out.alloc [.int .i64 0] 3
  generalize w1.alloc (.cells [Value.int .i64 0].toArray 3) = w2 at *
  generalize w1.heap.size = S at *
  refine ⟨trivial, rfl, calls_in ((hheld.out _ _ H1).mono ?_)⟩
  rintro e w3 ⟨B, rfl, H2⟩
  have H3 := (held_put (O := [.blk S [.int .i64 0] 3, .blk b3 [.int .i64 dst] 3]) H2)
  rw [← clrX_zero xs K dst] at H3
  have H4 := Lib.hid H3
  clear H1 H2 hheld hH H3
  gi_wp2_with fail
  refine wp_rangeS rfl egH (hg.out B) (by intro x hx; obtain ⟨k, _, rfl⟩ := List.mem_map.1 hx; rfl)
    (fun i L' => L' = .blk S [.int .i64 (cntTo K (look xs) dst i : Nat)] 3 :: .blk b3 [.int .i64 dst] 3 :: L) (fun _ _ _ => False) (L0 := .blk S [.int .i64 0] 3 :: .blk b3 [.int .i64 dst] 3 :: L) (by simp [cntTo]) H4.out ?_ ?_ ?_
  · rintro i hi V l _ T rfl H
    have hi' : i < K.length := by simpa [heldX] using hi
    obtain ⟨j, hj, hkey, hkat, hlook, hlr⟩ := hlane.out i hi'
    have hx : (heldX (xs.map kOf) K)[i] = #[.agg #[.int .i64 (K[i]'hi').1, .int .i64 (K[i]'hi').2], .pointer (some ⟨(xs[j]'hj).q, 0, none⟩)] := by simp only [heldX, List.getElem_map, hkat, kyV]
    rw [hx]
    clear hx
    have hXj : ∀ h : j < (clrX xs K dst i).length, (clrX xs K dst i)[j]'h = xs[j]'hj := fun h => by
      simp only [clrX, List.getElem_map]
      rw [if_neg]
      rintro ⟨h1, -⟩
      rw [hkey] at h1
      obtain ⟨m', hm, e⟩ := List.mem_iff_getElem.1 h1
      rw [List.getElem_take] at e
      have := (List.getElem_inj hnd.out).1 e
      rw [List.length_take] at hm
      omega
    have hjX : j < (clrX xs K dst i).length := by rw [clrX_len]; exact hj
    have hset := clrX_set (dst := dst) hok.out hi' hj hkey
    have hX := hXj hjX
    have hlen : (look xs (K[i]'hi')).length = (xs[j]'hj).gs.length := by rw [hlook, List.length_map]
    have hst' := hst.out i hi'
    have hb1 := hsz.out i (by omega)
    have hb2 := hsz.out (i + 1) (by omega)
    rw [hlen] at hst'
    rw [hst'] at hb2
    have hstep : Hid (∀ V O T, SL V (O ++ (heldP B p m n room t (clrX xs K dst i) ++ T)) → _) := Lib.hid fun V O T h => clr_step hjX h
    rw [hX, hkey] at hstep
    generalize K[i]'hi' = k at *
    obtain ⟨k1, k2⟩ := k
    generalize (xs[j]'hj).gs.length = len at *
    generalize (xs[j]'hj).q = q at *
    generalize (xs[j]'hj).h = hh at *
    dsimp only at *
    obtain ⟨s2, hs2⟩ : ∃ s2, cntTo K (look xs) dst (i + 1) = s2 := ⟨_, rfl⟩
    obtain ⟨s1, hs1⟩ : ∃ s1, cntTo K (look xs) dst i = s1 := ⟨_, rfl⟩
    rw [hs1] at H hb1 hb2 hst'
    rw [hs2] at hst'
    have hs2' := Lib.hid hs2
    have hset' := Lib.hid hset
    have hst2 := Lib.hid hst'
    clear hXj hjX hset hX hlook hkat hkey hlr hlen hs1 hs2 H4 hg hst hsz hnd hlane hall hS hst'
    gi_wp2_with fail
    have H := H.alloc [.int .i64 k1, .int .i64 k2] 42
    generalize V.alloc (.cells [Value.int .i64 k1, .int .i64 k2].toArray 42) = V3 at *
    generalize V.heap.size = kb at *
    refine ⟨.blk kb [.int .i64 k1, .int .i64 k2] 42 :: .blk S [.int .i64 s1] 3 :: .blk b3 [.int .i64 dst] 3 :: L, H, ?_⟩
    clear H
    intro V2 T2 H
    have z1 := H.cell (b := kb) (o := 1) (.here _ _) rfl
    have d0 := H.cell (b := b3) (o := 0) (.there (.there (.here _ _))) rfl
    have H8 := Lib.hid (H.tail)
    clear H
    by_cases hk : k2 = dst
    · have hkb : (k2 == dst) = true := by simpa using hk
      rw [if_pos hk] at hst2 hb2
      have hseteq := hset'.out
      rw [if_pos hk] at hseteq
      have H9 := H8.out.setCell 0 (.int .i64 s2)
      have s0 := H8.out.cell (b := S) (o := 0) (.here _ _) rfl
      have f0 := H8.out.free (b := S) (.here _ _) 0
      have hlt := blk_lt (show V2.heap[S]? = some _ from H8.out.head)
      obtain ⟨-, hc, hf, a1, c1, hh1⟩ := hstep.out _ (.blk S [.int .i64 s1] 3 :: .blk b3 [.int .i64 dst] 3 :: L) T2 H8.out
      obtain ⟨H10, hc2, hf2, -⟩ := hstep.out _ (.blk S [.int .i64 s2] 3 :: .blk b3 [.int .i64 dst] 3 :: L) T2 H9
      subst hh1
      have H11 := Lib.hid H10.drew
      have hseq2 := Lib.hid hseteq
      clear H8 H9 H10 hset' hseteq hstep hk
      have hw : IntKind.i64.wrap ((s1 : Int) + (len : Int)) = (s2 : Int) := by rw [IntWalk.i64_in ((s1 : Int) + (len : Int)) ⟨by omega, by omega⟩, hst2.out]; simp
      gi_wp2_with fail
      gi_region_with_o (fail)
      all_goals
        (try rw [hw])
        clear hw hst2
        gi_wp2_with fail
        exact ⟨_, rfl, by
          rw [hs2'.out]
          show SL _ (_ ++ (heldP B p m n room t (clrX xs K dst (i + 1)) ++ T2))
          rw [hseq2.out]
          exact H11.out⟩
    · have hkb : (k2 == dst) = false := by simpa using hk
      rw [if_neg hk] at hst2
      have hseteq := hset'.out
      rw [if_neg hk] at hseteq
      have e : s2 = s1 := by have := hst2.out; omega
      have hseq2 := Lib.hid hseteq
      have e' := Lib.hid e
      clear hset' hseteq hstep hk hb2 hst2 e
      gi_wp2_with fail
      exact ⟨_, rfl, by
        rw [hs2'.out, e'.out]
        show SL _ (_ ++ (heldP B p m n room t (clrX xs K dst (i + 1)) ++ T2))
        rw [hseq2.out]
        exact H8.out⟩
  · rintro V _ D rfl H
    rw [show (heldX (xs.map kOf) K).length = K.length from by simp [heldX]] at H
    have H' := (held_get (D := [.obj D (.deferred (some []))]) (O := [.blk S [.int .i64 (cntTo K (look xs) dst K.length : Nat)] 3, .blk b3 [.int .i64 dst] 3]) H)
    have hb := hsz.out K.length (Nat.le_refl _)
    obtain ⟨R, hR⟩ : ∃ R, cntTo K (look xs) dst K.length = R := ⟨_, rfl⟩
    rw [hR] at H' hb hS
    have hR' := Lib.hid hR
    clear H hsz hst H4 hg hR hlane hnd
    have H6 := H'.re (.step (.there (.there (.there (.here _ _)))) (.same _))
    have z := H'.cell (b := S) (o := 0) (.there (.here _ _)) rfl
    have c6 := H6.cell (b := p) (o := 6) (.here _ _) rfl
    have f6 := H6.free (b := p) (.here _ _) 6
    have hlt := blk_lt (show V.heap[p]? = some _ from H6.head)
    have H7 := H6.drew.setCell 6 (.int .i64 (t.dropped + (R : Int)))
    have H8 := Lib.hid (show SL _ (.obj D (.deferred (some [])) :: .blk S [.int .i64 R] 3 :: .blk b3 [.int .i64 dst] 3 :: (netP p m n room { t with dropped := t.dropped + (R : Int) } (clrX xs K dst K.length) ++ L)) from H7.re (.step (.there (.here _ _)) (.step (.there (.here _ _)) (.step (.there (.here _ _)) (.same _)))))
    have z' := H8.out.cell (b := S) (o := 0) (.there (.here _ _)) rfl
    clear H' H6 H7
    have hw : IntKind.i64.wrap (t.dropped + (R : Int)) = t.dropped + (R : Int) := IntWalk.i64_in (t.dropped + (R : Int)) ⟨by omega, by omega⟩
    gi_wp2_with fail
    refine wpIn_wide.2 ?_
    go_still_tail 10, (by kernel_rfl)
    change wpList _ _ _ _ _ V.drew
    have c7 : V.drew.cell? ⟨p, 6, none⟩ = some (.int .i64 t.dropped) := c6
    have f7 : V.drew.frozen? ⟨p, 6, none⟩ = false := f6
    generalize V.drew = V4 at *
    clear z c6 f6 hlt
    go_wp2_with fail
    generalize V4.setCell ⟨p, 6, none⟩ (.int .i64 (t.dropped + (R : Int))) = V5 at *
    clear hw c7 f7
    gi_wp2_with fail
    refine leaveS (v := .tuple #[.int .i64 (R : Nat), .int .i64 0]) H8.out ?_ ?_
    · intro V h
      simp [results, Try.results29, go_sem]
    · intro V h
      refine ⟨by rw [hR'.out], m, clrX xs K dst K.length, ?_, ?_, ?_⟩
      · rw [hS.out]; exact h.tail.tail
      · rw [hS.out]; exact hall.out.2
      · rw [hS.out]; exact hall.out.1
  · exact fun c i V L D h _ => h.elim
end
end Go.Proofs.Ytnkahibddhchlaa
