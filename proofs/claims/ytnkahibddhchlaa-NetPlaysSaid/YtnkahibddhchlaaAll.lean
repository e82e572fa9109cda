/- The walks of All, Ways, Traffic. -/
import Derived.Test.YtnkahibddhchlaaHeld
namespace Go.Proofs.Ytnkahibddhchlaa
open Go.RowKit Go.Shelf
set_option linter.unusedVariables false
attribute [local go_sem] Oper.semAt_some

/-- How many are in flight. -/
def allF (n : Nat) (F : Ky → List (List Int)) : Nat := ((heldK n F).map fun k => (F k).length).sum

theorem held_lane {n room : Nat} {xs : List Ln} (ok : NOk n room xs) {i : Nat} (hi : i < (heldK n (look xs)).length) :
    ∃ (j : Nat) (hj : j < xs.length), (xs[j]'hj).key = (heldK n (look xs))[i]'hi ∧ kat (xs.map kOf) ((heldK n (look xs))[i]'hi) = ptrV (xs[j]'hj).q ∧ look xs ((heldK n (look xs))[i]'hi) = (xs[j]'hj).gs.map Gr.bs ∧ (look xs ((heldK n (look xs))[i]'hi)).length ≤ room := by
  have hm := List.getElem_mem hi
  have hne : (look xs ((heldK n (look xs))[i]'hi)).isEmpty = false := by
    have := (List.mem_filter.1 hm).2
    simpa using this
  rcases look_cases xs ((heldK n (look xs))[i]'hi) with h | ⟨j, hj, h⟩
  · rw [(look_none h).1] at hne; cases hne
  · have h1 := look_at ok hj h
    exact ⟨j, hj, h, h1.2, h1.1, by rw [h1.1, List.length_map]; exact ok.len _ (List.getElem_mem hj)⟩

theorem heldK_len (n : Nat) (F : Ky → List (List Int)) : (heldK n F).length ≤ n * n := by
  unfold heldK
  exact Nat.le_trans (List.length_filter_le _ _) (by rw [allK_length]; exact Nat.le_refl _)

def sumTo (l : List Ky) (F : Ky → List (List Int)) (i : Nat) : Nat := ((l.take i).map fun k => (F k).length).sum
theorem sumTo_succ {l : List Ky} (F : Ky → List (List Int)) {i : Nat} (hi : i < l.length) : sumTo l F (i + 1) = sumTo l F i + (F (l[i]'hi)).length := by
  unfold sumTo
  rw [List.take_succ_eq_append_getElem hi, List.map_append, List.sum_append]
  simp
theorem sumTo_le {l : List Ky} {F : Ky → List (List Int)} {r : Nat} (h : ∀ i (hi : i < l.length), (F (l[i]'hi)).length ≤ r) : ∀ i, i ≤ l.length → sumTo l F i ≤ i * r
  | 0, _ => by simp [sumTo]
  | i + 1, hi => by
    rw [sumTo_succ F (by omega)]
    have h1 := sumTo_le h i (by omega)
    have h2 := h i (by omega)
    rw [Nat.add_mul]
    omega

theorem egH : ∀ args w, (callFunc 50 args).run Try.prog w = .ok (.enter 50 args) w := enters_of Try.func50 (by kernel_rfl) rfl
/-- The iterator's block, and some of the call's own, put as a range asks them. -/
theorem held_put {V : World} {B p m : Nat} {n room : Nat} {t : Tf} {xs : List Ln} {L O : List Pc} (H : SL V (.blk B [ptrV p] 24 :: (O ++ (netP p m n room t xs ++ L)))) : SL V ((O ++ L) ++ heldP B p m n room t xs) := by
  refine H.perm ?_
  show List.Perm _ ((O ++ L) ++ ([.blk B [ptrV p] 24] ++ netP p m n room t xs))
  have h1 : List.Perm ((O ++ L) ++ ([.blk B [ptrV p] 24] ++ netP p m n room t xs)) (([.blk B [ptrV p] 24] ++ netP p m n room t xs) ++ (O ++ L)) := List.perm_append_comm
  refine List.Perm.trans ?_ h1.symm
  show List.Perm (.blk B [ptrV p] 24 :: _) (.blk B [ptrV p] 24 :: (netP p m n room t xs ++ (O ++ L)))
  exact (List.perm_append_comm_assoc _ _ _).cons _
theorem held_get {V : World} {B p m : Nat} {n room : Nat} {t : Tf} {xs : List Ln} {L O D : List Pc} (H : SL V (D ++ ((O ++ L) ++ heldP B p m n room t xs))) : SL V (D ++ (O ++ (netP p m n room t xs ++ L))) := by
  have h1 : List.Perm ((O ++ L) ++ heldP B p m n room t xs) (.blk B [ptrV p] 24 :: (O ++ (netP p m n room t xs ++ L))) := by
    refine List.perm_append_comm.trans ?_
    show List.Perm (.blk B [ptrV p] 24 :: (netP p m n room t xs ++ (O ++ L))) _
    exact (List.perm_append_comm_assoc _ _ _).cons _
  have h2 := (H.perm (h1.append_left D)).perm (List.perm_middle (a := .blk B [ptrV p] 24) (l₁ := D))
  exact h2.tail

section
variable {p : Nat} {s : NSt} {L : List Pc} {w : World}

set_option maxHeartbeats 4000000 in
theorem all_c (H0 : NAt p s L w) :
    Calls Try.prog 16 #[ptrV p] w fun e w' => e = .returned (.int .i64 (allF s.n s.F : Nat)) ∧ NAt p s L w' := by
  obtain ⟨m, xs, H, ok, hF⟩ := H0
  obtain ⟨n, room, t, F⟩ := s
  dsimp only at H ok hF
  subst hF
  dsimp only
  have hno := Lib.hid (fun V (h : SL V (netP p m n room t xs ++ L)) => none_c h)
  have hheld := Lib.hid (fun V L' (h : SL V L') => held_c p V h)
  have hg := Lib.hid (fun B => held_gives B p m n room t (fun _ => xs) (xs.map kOf) (look xs) (fun _ => ok) (fun _ => rfl) (fun i h => rfl))
  have hlane := Lib.hid (fun i hi => held_lane ok (i := i) hi)
  have hlen := heldK_len n (look xs)
  have hn2 := ok.n2
  have hr2 := ok.r2
  have hsz : Hid (∀ i, i ≤ (heldK n (look xs)).length → sumTo (heldK n (look xs)) (look xs) i ≤ 1048576) := Lib.hid fun i hi => by
    have h1 := sumTo_le (r := room) (fun i hi => (hlane.out i hi).choose_spec.choose_spec.2.2.2) i hi
    have h2 : i * room ≤ n * n * room := Nat.mul_le_mul_right room (by omega)
    have h3 : n * n ≤ 64 * 64 := Nat.mul_le_mul hn2 hn2
    have h4 : n * n * room ≤ 64 * 64 * 256 := Nat.mul_le_mul h3 hr2
    omega
  have hfin : Hid (sumTo (heldK n (look xs)) (look xs) (heldK n (look xs)).length = allF n (look xs)) := Lib.hid (by unfold sumTo allF; rw [List.take_length])
  have hst : Hid (∀ i (hi : i < (heldK n (look xs)).length), sumTo (heldK n (look xs)) (look xs) (i + 1) = sumTo (heldK n (look xs)) (look xs) i + (look xs ((heldK n (look xs))[i]'hi)).length) := Lib.hid fun i hi => sumTo_succ _ hi
  have hcellL : Hid (∀ i (hi : i < (heldK n (look xs)).length), ∃ q, kat (xs.map kOf) ((heldK n (look xs))[i]'hi) = ptrV q ∧ ∀ V R, SL V (netP p m n room t xs ++ R) → ∃ a c, V.cell? ⟨q, 0, none⟩ = some (.slice a (look xs ((heldK n (look xs))[i]'hi)).length c)) := Lib.hid fun i hi => by
    obtain ⟨j, hj, h1, h2, h3, h4⟩ := hlane.out i hi
    refine ⟨_, h2, fun V R h => ?_⟩
    have hS := net_split h hj
    obtain ⟨a, c, hsl, -⟩ := ln_slice hS (.there (.here _ _))
    have hc := hS.cell (b := (xs[j]'hj).q) (o := 0) (.here _ _) rfl
    rw [hsl] at hc
    exact ⟨a, c, by rw [hc, h3, List.length_map]⟩
  have hH := Lib.hid H
  clear H hlane hlen
  have hok := Lib.hid ok
  have hmx : Try.prog.follows .mixedOrders = true := by kernel_rfl
  clear ok
  refine calls_of_marks Try.func16 rfl ?_
  simp only [Try.ntmps16, List.size_toArray, List.length_cons, List.length_nil, Nat.reduceAdd, Nat.reduceSub, Array.replicate_succ, Array.replicate_zero, List.push_toArray, List.append_toArray, List.nil_append, List.cons_append]
  unfold ptrV at *
  gi_wp2_with fail
  refine ⟨trivial, rfl, calls_in ((hno.out _ hH.out).mono ?_)⟩
  rintro e w' ⟨rfl, rfl⟩
  clear hno
  gi_wp2_with fail
  have H1 := hH.out.alloc [.int .i64 0] 3
  generalize w.alloc (.cells [Value.int .i64 0].toArray 3) = w1 at *
  generalize w.heap.size = S at *
  refine ⟨trivial, rfl, calls_in ((hheld.out _ _ H1).mono ?_)⟩
  rintro e w2 ⟨B, rfl, H2⟩
  have H3 := Lib.hid (held_put (O := [.blk S [.int .i64 0] 3]) H2)
  clear H1 H2 hheld hH
  gi_wp2_with fail
  refine wp_rangeS rfl egH (hg.out B) (by intro x hx; obtain ⟨k, _, rfl⟩ := List.mem_map.1 hx; rfl)
    (fun i L' => L' = .blk S [.int .i64 (sumTo (heldK n (look xs)) (look xs) i : Nat)] 3 :: L) (fun _ _ _ => False) (L0 := .blk S [.int .i64 0] 3 :: L) (by simp [sumTo]) H3.out ?_ ?_ ?_
  · rintro i hi V l _ T rfl H
    have hi' : i < (heldK n (look xs)).length := by simpa [heldX] using hi
    obtain ⟨q, hq, hcell⟩ := hcellL.out i hi'
    have hx : (heldX (xs.map kOf) (heldK n (look xs)))[i] = #[kyV ((heldK n (look xs))[i]'hi'), .pointer (some ⟨q, 0, none⟩)] := by simp only [heldX, List.getElem_map, hq]
    rw [hx]
    clear hx
    have hst' := Lib.hid (hst.out i hi')
    have hb1 := hsz.out i (by omega)
    have hb2 := hsz.out (i + 1) (by omega)
    rw [hst'.out] at hb2
    generalize (heldK n (look xs))[i]'hi' = k at *
    generalize (look xs k).length = len at *
    clear hq H3 hg hst hsz
    gi_wp2_with fail
    refine ⟨_, H, ?_⟩
    clear H
    intro V2 T2 H
    obtain ⟨a1, c1, hl⟩ := hcell V2 _ (SL.tail (SL.swap H))
    have s0 := H.cell (b := S) (o := 0) (.here _ _) rfl
    have f0 := H.free (b := S) (.here _ _) 0
    have hlt := blk_lt (show V2.heap[S]? = some _ from H.head)
    have H9 := Lib.hid (H.setCell 0 (.int .i64 (sumTo (heldK n (look xs)) (look xs) (i + 1) : Nat)))
    obtain ⟨s2, hs2⟩ : ∃ s2, sumTo (heldK n (look xs)) (look xs) (i + 1) = s2 := ⟨_, rfl⟩
    rw [hs2] at hst' H9
    have hs2' := Lib.hid hs2
    clear hs2
    generalize sumTo (heldK n (look xs)) (look xs) i = s1 at *
    clear H hcell hcellL hfin hi hi'
    gi_wp2_with fail
    have hw : IntKind.i64.wrap ((s1 : Int) + (len : Int)) = (s2 : Int) := by rw [IntWalk.i64_in ((s1 : Int) + (len : Int)) ⟨by omega, by omega⟩, hst'.out]; simp
    gi_region_with_o (fail)
    all_goals
      (try rw [hw])
      clear hw hst'
      gi_wp2_with fail
      exact ⟨_, rfl, by rw [hs2'.out]; exact H9.out.drew⟩
  · rintro V _ D rfl H
    have H' := Lib.hid (held_get (D := [.obj D (.deferred (some []))]) (O := [.blk S [.int .i64 (sumTo (heldK n (look xs)) (look xs) (heldX (xs.map kOf) (heldK n (look xs))).length : Nat)] 3]) H)
    have z := H.cell (b := S) (o := 0) (.there (.here _ _)) rfl
    rw [show (heldX (xs.map kOf) (heldK n (look xs))).length = (heldK n (look xs)).length from by simp [heldX], hfin.out] at z
    obtain ⟨R, hR⟩ : ∃ R, allF n (look xs) = R := ⟨_, rfl⟩
    have hR' := Lib.hid hR
    rw [hR] at z
    clear H hsz hst hcellL H3 hg hfin hR
    gi_wp2_with fail
    refine leaveS (v := .int .i64 (R : Nat)) H'.out ?_ ?_
    · intro V h
      simp [results, Try.results16, go_sem]
    · intro V h
      exact ⟨by rw [hR'.out], m, xs, h.tail, hok.out, rfl⟩
  · exact fun c i V L D h _ => h.elim

def tfV (t : Tf) : List Value := [.int .i64 t.sent, .int .i64 t.doubled, .int .i64 t.delivered, .int .i64 t.dropped, .int .i64 t.lost, .int .i64 t.flipped]
theorem traffic_c (H0 : NAt p s L w) :
    Calls Try.prog 20 #[ptrV p] w fun e w' => e = .returned (.agg (tfV s.t).toArray) ∧ NAt p s L w' := by
  obtain ⟨m, xs, H, ok, hF⟩ := H0
  obtain ⟨n, room, t, F⟩ := s
  dsimp only at H ok hF
  have H1 := H.alloc [.int .i64 0, .int .i64 0, .int .i64 0, .int .i64 0, .int .i64 0, .int .i64 0] 50
  have hno := Lib.hid (fun V (h : SL V (netP p m n room t xs ++ L)) => none_c h)
  have hH := Lib.hid H1
  have hfin : Hid (∀ V, SL V (netP p m n room t xs ++ L) → NAt p ⟨n, room, t, F⟩ L V) := Lib.hid fun V h => ⟨m, xs, h, ok, hF⟩
  clear H H1 hF ok
  unfold ptrV at *
  go_enter Try.func20, Try.ntmps20
  go_wp2_with fail
  refine (hno.out _ hH.out.tail).mono ?_
  rintro e w' ⟨rfl, rfl⟩
  generalize w.alloc (.cells [Value.int .i64 0, .int .i64 0, .int .i64 0, .int .i64 0, .int .i64 0, .int .i64 0].toArray 50) = w1 at *
  generalize w.heap.size = b at *
  have c3 := hH.out.cell (b := p) (o := 3) (by first | exact .here _ _ | exact .there (.here _ _) | exact .there (.there (.here _ _)) | exact .there (.there (.there (.here _ _))) | exact .there (.there (.there (.there (.here _ _)))) | exact .there (.there (.there (.there (.there (.here _ _))))) | exact .there (.there (.there (.there (.there (.there (.here _ _)))))) | exact .there (.there (.there (.there (.there (.there (.there (.here _ _))))))) | exact .there (.there (.there (.there (.there (.there (.there (.there (.here _ _)))))))) | exact .there (.there (.there (.there (.there (.there (.there (.there (.there (.here _ _))))))))) | exact .there (.there (.there (.there (.there (.there (.there (.there (.there (.there (.here _ _)))))))))) | exact .there (.there (.there (.there (.there (.there (.there (.there (.there (.there (.there (.here _ _))))))))))) | exact .there (.there (.there (.there (.there (.there (.there (.there (.there (.there (.there (.there (.here _ _)))))))))))) | exact .there (.there (.there (.there (.there (.there (.there (.there (.there (.there (.there (.there (.there (.here _ _)))))))))))))) rfl
  have c4 := hH.out.cell (b := p) (o := 4) (by first | exact .here _ _ | exact .there (.here _ _) | exact .there (.there (.here _ _)) | exact .there (.there (.there (.here _ _))) | exact .there (.there (.there (.there (.here _ _)))) | exact .there (.there (.there (.there (.there (.here _ _))))) | exact .there (.there (.there (.there (.there (.there (.here _ _)))))) | exact .there (.there (.there (.there (.there (.there (.there (.here _ _))))))) | exact .there (.there (.there (.there (.there (.there (.there (.there (.here _ _)))))))) | exact .there (.there (.there (.there (.there (.there (.there (.there (.there (.here _ _))))))))) | exact .there (.there (.there (.there (.there (.there (.there (.there (.there (.there (.here _ _)))))))))) | exact .there (.there (.there (.there (.there (.there (.there (.there (.there (.there (.there (.here _ _))))))))))) | exact .there (.there (.there (.there (.there (.there (.there (.there (.there (.there (.there (.there (.here _ _)))))))))))) | exact .there (.there (.there (.there (.there (.there (.there (.there (.there (.there (.there (.there (.there (.here _ _)))))))))))))) rfl
  have c5 := hH.out.cell (b := p) (o := 5) (by first | exact .here _ _ | exact .there (.here _ _) | exact .there (.there (.here _ _)) | exact .there (.there (.there (.here _ _))) | exact .there (.there (.there (.there (.here _ _)))) | exact .there (.there (.there (.there (.there (.here _ _))))) | exact .there (.there (.there (.there (.there (.there (.here _ _)))))) | exact .there (.there (.there (.there (.there (.there (.there (.here _ _))))))) | exact .there (.there (.there (.there (.there (.there (.there (.there (.here _ _)))))))) | exact .there (.there (.there (.there (.there (.there (.there (.there (.there (.here _ _))))))))) | exact .there (.there (.there (.there (.there (.there (.there (.there (.there (.there (.here _ _)))))))))) | exact .there (.there (.there (.there (.there (.there (.there (.there (.there (.there (.there (.here _ _))))))))))) | exact .there (.there (.there (.there (.there (.there (.there (.there (.there (.there (.there (.there (.here _ _)))))))))))) | exact .there (.there (.there (.there (.there (.there (.there (.there (.there (.there (.there (.there (.there (.here _ _)))))))))))))) rfl
  have c6 := hH.out.cell (b := p) (o := 6) (by first | exact .here _ _ | exact .there (.here _ _) | exact .there (.there (.here _ _)) | exact .there (.there (.there (.here _ _))) | exact .there (.there (.there (.there (.here _ _)))) | exact .there (.there (.there (.there (.there (.here _ _))))) | exact .there (.there (.there (.there (.there (.there (.here _ _)))))) | exact .there (.there (.there (.there (.there (.there (.there (.here _ _))))))) | exact .there (.there (.there (.there (.there (.there (.there (.there (.here _ _)))))))) | exact .there (.there (.there (.there (.there (.there (.there (.there (.there (.here _ _))))))))) | exact .there (.there (.there (.there (.there (.there (.there (.there (.there (.there (.here _ _)))))))))) | exact .there (.there (.there (.there (.there (.there (.there (.there (.there (.there (.there (.here _ _))))))))))) | exact .there (.there (.there (.there (.there (.there (.there (.there (.there (.there (.there (.there (.here _ _)))))))))))) | exact .there (.there (.there (.there (.there (.there (.there (.there (.there (.there (.there (.there (.there (.here _ _)))))))))))))) rfl
  have c7 := hH.out.cell (b := p) (o := 7) (by first | exact .here _ _ | exact .there (.here _ _) | exact .there (.there (.here _ _)) | exact .there (.there (.there (.here _ _))) | exact .there (.there (.there (.there (.here _ _)))) | exact .there (.there (.there (.there (.there (.here _ _))))) | exact .there (.there (.there (.there (.there (.there (.here _ _)))))) | exact .there (.there (.there (.there (.there (.there (.there (.here _ _))))))) | exact .there (.there (.there (.there (.there (.there (.there (.there (.here _ _)))))))) | exact .there (.there (.there (.there (.there (.there (.there (.there (.there (.here _ _))))))))) | exact .there (.there (.there (.there (.there (.there (.there (.there (.there (.there (.here _ _)))))))))) | exact .there (.there (.there (.there (.there (.there (.there (.there (.there (.there (.there (.here _ _))))))))))) | exact .there (.there (.there (.there (.there (.there (.there (.there (.there (.there (.there (.there (.here _ _)))))))))))) | exact .there (.there (.there (.there (.there (.there (.there (.there (.there (.there (.there (.there (.there (.here _ _)))))))))))))) rfl
  have c8 := hH.out.cell (b := p) (o := 8) (by first | exact .here _ _ | exact .there (.here _ _) | exact .there (.there (.here _ _)) | exact .there (.there (.there (.here _ _))) | exact .there (.there (.there (.there (.here _ _)))) | exact .there (.there (.there (.there (.there (.here _ _))))) | exact .there (.there (.there (.there (.there (.there (.here _ _)))))) | exact .there (.there (.there (.there (.there (.there (.there (.here _ _))))))) | exact .there (.there (.there (.there (.there (.there (.there (.there (.here _ _)))))))) | exact .there (.there (.there (.there (.there (.there (.there (.there (.there (.here _ _))))))))) | exact .there (.there (.there (.there (.there (.there (.there (.there (.there (.there (.here _ _)))))))))) | exact .there (.there (.there (.there (.there (.there (.there (.there (.there (.there (.there (.here _ _))))))))))) | exact .there (.there (.there (.there (.there (.there (.there (.there (.there (.there (.there (.there (.here _ _)))))))))))) | exact .there (.there (.there (.there (.there (.there (.there (.there (.there (.there (.there (.there (.there (.here _ _)))))))))))))) rfl
  have z0 := hH.out.cell (b := b) (o := 0) (.here _ _) rfl
  have z1 := hH.out.cell (b := b) (o := 1) (.here _ _) rfl
  have z2 := hH.out.cell (b := b) (o := 2) (.here _ _) rfl
  have z3 := hH.out.cell (b := b) (o := 3) (.here _ _) rfl
  have z4 := hH.out.cell (b := b) (o := 4) (.here _ _) rfl
  have z5 := hH.out.cell (b := b) (o := 5) (.here _ _) rfl
  have fz := fun o => hH.out.free (.here _ _) o
  have H9 := Lib.hid ((((((hH.out.setCell 0 (.int .i64 t.sent)).setCell 1 (.int .i64 t.doubled)).setCell 2 (.int .i64 t.delivered)).setCell 3 (.int .i64 t.dropped)).setCell 4 (.int .i64 t.lost)).setCell 5 (.int .i64 t.flipped))
  clear hH hno
  go_wp2_with fail
  generalize (((((w1.setCell ⟨b, 0, none⟩ (.int .i64 t.sent)).setCell ⟨b, 1, none⟩ (.int .i64 t.doubled)).setCell ⟨b, 2, none⟩ (.int .i64 t.delivered)).setCell ⟨b, 3, none⟩ (.int .i64 t.dropped)).setCell ⟨b, 4, none⟩ (.int .i64 t.lost)).setCell ⟨b, 5, none⟩ (.int .i64 t.flipped) = w2 at *
  have k0 := H9.out.cell (b := b) (o := 0) (.here _ _) rfl
  have k1 := H9.out.cell (b := b) (o := 1) (.here _ _) rfl
  have k2 := H9.out.cell (b := b) (o := 2) (.here _ _) rfl
  have k3 := H9.out.cell (b := b) (o := 3) (.here _ _) rfl
  have k4 := H9.out.cell (b := b) (o := 4) (.here _ _) rfl
  have k5 := H9.out.cell (b := b) (o := 5) (.here _ _) rfl
  refine bodyPost_ret (v := .agg (tfV t).toArray) ?_ rfl ?_
  · simp [results, Try.results20, go_sem, k0, k1, k2, k3, k4, k5, tfV]
  · exact ⟨rfl, hfin.out _ H9.out.tail⟩

def kyC (l : List Ky) : List Value := l.flatMap fun k => [.int .i64 k.1, .int .i64 k.2]
theorem kyC_length (l : List Ky) : (kyC l).length = l.length * 2 := by
  induction l with
  | nil => rfl
  | cons k l ih => simp only [kyC, List.flatMap_cons, List.length_append, List.length_cons, List.length_nil] at ih ⊢; rw [ih]; omega
theorem kyC_append (l k : List Ky) : kyC (l ++ k) = kyC l ++ kyC k := by simp [kyC]
theorem elemW : ElemK Try.prog 52 42 2 (.agg #[.int .i64 0, .int .i64 0]) 16 := ⟨by kernel_rfl, by kernel_rfl, rfl, by decide⟩

set_option maxHeartbeats 4000000 in
theorem ways_c (H0 : NAt p s L w) :
    Calls Try.prog 21 #[ptrV p] w fun e w' => ∃ a c, e = .returned (.slice a (heldK s.n s.F).length c) ∧ NAt p s (.own 42 2 (.slice a (heldK s.n s.F).length c) (heldK s.n s.F).length (kyC (heldK s.n s.F)) :: L) w' := by
  obtain ⟨m, xs, H, ok, hF⟩ := H0
  obtain ⟨n, room, t, F⟩ := s
  dsimp only at H ok hF
  subst hF
  dsimp only
  have hno := Lib.hid (fun V (h : SL V (netP p m n room t xs ++ L)) => none_c h)
  have hheld := Lib.hid (fun V L' (h : SL V L') => held_c p V h)
  have hg := Lib.hid (fun B => held_gives B p m n room t (fun _ => xs) (xs.map kOf) (look xs) (fun _ => ok) (fun _ => rfl) (fun i h => rfl))
  have hbig : Hid ((heldK n (look xs)).length ≤ 4096) := Lib.hid (by
    have h1 := heldK_len n (look xs)
    have h3 : n * n ≤ 64 * 64 := Nat.mul_le_mul ok.n2 ok.n2
    omega)
  obtain ⟨K, hK⟩ : ∃ K, heldK n (look xs) = K := ⟨_, rfl⟩
  rw [hK] at hbig hg ⊢
  have hH := Lib.hid H
  have hok := Lib.hid ok
  clear H ok hK
  refine calls_of_marks Try.func21 rfl ?_
  simp only [Try.ntmps21, List.size_toArray, List.length_cons, List.length_nil, Nat.reduceAdd, Nat.reduceSub, Array.replicate_succ, Array.replicate_zero, List.push_toArray, List.append_toArray, List.nil_append, List.cons_append]
  unfold ptrV at *
  gi_wp2_with fail
  refine ⟨trivial, rfl, calls_in ((hno.out _ hH.out).mono ?_)⟩
  rintro e w' ⟨rfl, rfl⟩
  clear hno
  gi_wp2_with fail
  have H1 := (hH.out.pure (q := .own 42 2 (.slice none 0 0) 0 []) (OwnK.nil _ _ _ _) fun b h => by cases h).alloc [.slice none 0 0] 52
  generalize w.alloc (.cells [Value.slice none 0 0].toArray 52) = w1 at *
  generalize w.heap.size = S at *
  refine ⟨trivial, rfl, calls_in ((hheld.out _ _ H1).mono ?_)⟩
  rintro e w2 ⟨B, rfl, H2⟩
  have H3 := Lib.hid (held_put (O := [.blk S [.slice none 0 0] 52, .own 42 2 (.slice none 0 0) 0 []]) H2)
  clear H1 H2 hheld hH
  gi_wp2_with fail
  refine wp_rangeS rfl egH (hg.out B) (by intro x hx; obtain ⟨k, _, rfl⟩ := List.mem_map.1 hx; rfl)
    (fun i L' => ∃ a c, L' = .blk S [.slice a i c] 52 :: .own 42 2 (.slice a i c) i (kyC (K.take i)) :: L) (fun _ _ _ => False) (L0 := .blk S [.slice none 0 0] 52 :: .own 42 2 (.slice none 0 0) 0 [] :: L) ⟨none, 0, rfl⟩ H3.out ?_ ?_ ?_
  · rintro i hi V l _ T ⟨a, c, rfl⟩ H
    have hi' : i < K.length := by simpa [heldX] using hi
    have hx : (heldX (xs.map kOf) K)[i] = #[.agg #[.int .i64 (K[i]'hi').1, .int .i64 (K[i]'hi').2], kat (xs.map kOf) (K[i]'hi')] := by simp only [heldX, List.getElem_map, kyV]
    rw [hx]
    clear hx
    have htk := Lib.hid (List.take_succ_eq_append_getElem hi')
    have hb := hbig.out
    generalize K[i]'hi' = k at *
    generalize kat (xs.map kOf) k = kq at *
    obtain ⟨k1, k2⟩ := k
    dsimp only at *
    clear H3 hg
    gi_wp2_with fail
    have H := H.alloc [.int .i64 k1, .int .i64 k2] 42
    generalize V.alloc (.cells [Value.int .i64 k1, .int .i64 k2].toArray 42) = V3 at *
    generalize V.heap.size = kb at *
    refine ⟨.blk kb [.int .i64 k1, .int .i64 k2] 42 :: .blk S [.slice a i c] 52 :: .own 42 2 (.slice a i c) i (kyC (K.take i)) :: L, H, ?_⟩
    clear H
    intro V2 T2 H
    simp only [List.cons_append] at H
    have s0 := H.cell (b := S) (o := 0) (.there (.here _ _)) rfl
    have z0 := H.cell (b := kb) (o := 0) (.here _ _) rfl
    have z1 := H.cell (b := kb) (o := 1) (.here _ _) rfl
    gi_wp2_with (
      gi_at_builtin
      refine sl_appIn (H.alloc [.int .i64 k1, .int .i64 k2] 42) rfl _ _ _ rfl elemW _ rfl (.there (.there (.there (.here _ _)))) [.int .i64 k1, .int .i64 k2] rfl rfl (rd_newK _ _ _) (by simp [Value.oneCell']) (by simp only [maxLen]; omega) (by omega) (fun h => by cases h) ?_
      intro v' w3 H3 hnil
      obtain ⟨a', c', rfl, -⟩ := OwnK.slice H3.head
      have H := H3.pull (.there (.there (.there (.here _ _))))
      clear H3 hnil s0 z0 z1
      have s0 := H.cell (b := S) (o := 0) (.here _ _) rfl
      have f0 := H.free (b := S) (.here _ _) 0)
    have H4 := H.setCell 0 (.slice a' (i + 1) c')
    refine ⟨_, ⟨a', c', rfl⟩, ?_⟩
    rw [htk.out, kyC_append]
    exact H4.re (.step (.here _ _) (.step (.here _ _) (.drop (.drop (.same _)))))
  · rintro V _ D ⟨a, c, rfl⟩ H
    have H' := (held_get (D := [.obj D (.deferred (some []))]) (O := [.blk S [.slice a (heldX (xs.map kOf) K).length c] 52, .own 42 2 (.slice a (heldX (xs.map kOf) K).length c) (heldX (xs.map kOf) K).length (kyC (K.take (heldX (xs.map kOf) K).length))]) H)
    have z := H.cell (b := S) (o := 0) (.there (.here _ _)) rfl
    rw [show (heldX (xs.map kOf) K).length = K.length from by simp [heldX]] at z H'
    rw [List.take_length] at H'
    have H'' := Lib.hid H'
    obtain ⟨R, hR⟩ : ∃ R, K.length = R := ⟨_, rfl⟩
    have hR' := Lib.hid hR
    rw [hR] at z H''
    clear H H3 hg hR H'
    gi_wp2_with fail
    refine leaveS (v := .slice a R c) H''.out ?_ ?_
    · intro V h
      simp [results, Try.results21, go_sem]
    · intro V h
      refine ⟨a, c, by rw [hR'.out], m, xs, ?_, hok.out, rfl⟩
      rw [hR'.out]
      have h2 : SL V (.own 42 2 (.slice a R c) R (kyC K) :: (netP p m n room t xs ++ L)) := h.tail
      exact h2.perm List.perm_middle.symm
  · exact fun c i V L D h _ => h.elim
end
end Go.Proofs.Ytnkahibddhchlaa
