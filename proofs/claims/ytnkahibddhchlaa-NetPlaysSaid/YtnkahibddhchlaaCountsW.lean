/- The walk of NetCounts. -/
import Derived.Test.YtnkahibddhchlaaPlayW
import Derived.Deep.CutBlock
import Derived.Deep.CutRange
namespace Go.Proofs.Ytnkahibddhchlaa
open Go.RowKit
set_option linter.unusedVariables false

def lexK (a b : Ky) : Prop := a.1 < b.1 ∨ (a.1 = b.1 ∧ a.2 < b.2)
theorem allK_sorted (n : Nat) : (allK n).Pairwise lexK := by
  unfold allK
  refine List.pairwise_map.2 ?_
  refine List.Pairwise.imp_of_mem ?_ (List.pairwise_lt_range (n := n * n))
  intro a b ha hb hab
  have hb' : b < n * n := by simpa using hb
  have hn : 0 < n := by
    rcases Nat.eq_zero_or_pos n with h | h
    · subst h; simp at hb'
    · exact h
  have h1 := Nat.div_add_mod a n
  have h2 := Nat.div_add_mod b n
  have h3 := Nat.div_le_div_right (c := n) (Nat.le_of_lt hab)
  unfold lexK
  rcases Nat.lt_or_ge (a / n) (b / n) with h | h
  · exact .inl (by simp only; omega)
  · have e : a / n = b / n := by omega
    refine .inr ⟨by simp only; omega, ?_⟩
    rw [e] at h1
    simp only
    omega
theorem heldK_lex (n : Nat) (F : Ky → List (List Int)) {i : Nat} (hi : i + 1 < (heldK n F).length) : lexK ((heldK n F)[i]'(by omega)) ((heldK n F)[i + 1]'hi) :=
  by
  have h : (heldK n F).Pairwise lexK := (allK_sorted n).filter _
  exact List.pairwise_iff_getElem.1 h i (i + 1) (by omega) hi (by omega)
theorem kyC_at (l : List Ky) {i : Nat} (hi : i < l.length) : (kyC l).getD (i * 2) undef = .int .i64 (l[i]'hi).1 ∧ (kyC l).getD (i * 2 + 1) undef = .int .i64 (l[i]'hi).2 := by
  induction l generalizing i with
  | nil => simp at hi
  | cons k l ih =>
    cases i with
    | zero => exact ⟨rfl, rfl⟩
    | succ i =>
      have := ih (i := i) (by simpa using hi)
      have e : ∀ j, (kyC (k :: l)).getD ((i + 1) * 2 + j) undef = (kyC l).getD (i * 2 + j) undef := fun j => by
        show (Value.int .i64 k.1 :: .int .i64 k.2 :: kyC l).getD _ _ = _
        rw [show (i + 1) * 2 + j = (i * 2 + j) + 1 + 1 by omega]
        rfl
      exact ⟨(e 0).trans this.1, (e 1).trans this.2⟩
/-- The way that was met last. -/
def lastK (K : List Ky) : Nat → Ky
  | 0 => (-1, -1)
  | i + 1 => K.getD i (-1, -1)

theorem lastK_lex {K : List Ky} (h : ∀ i (hi : i + 1 < K.length), lexK (K[i]'(by omega)) (K[i + 1]'hi)) {j : Nat} (hj : j < K.length) (h0 : 0 ≤ (K[j]'hj).1) : (lastK K j).1 ≤ (K[j]'hj).1 ∧ ((K[j]'hj).1 = (lastK K j).1 → (lastK K j).2 < (K[j]'hj).2) := by
  cases j with
  | zero => exact ⟨by simp only [lastK]; omega, fun e => by simp only [lastK] at e; omega⟩
  | succ i =>
    have h1 := h i hj
    have e : lastK K (i + 1) = K[i]'(by omega) := by simp [lastK, List.getD_eq_getElem?_getD, show i < K.length by omega]
    rw [e]
    unfold lexK at h1
    omega
theorem lastK_succ {K : List Ky} {j : Nat} (hj : j < K.length) : lastK K (j + 1) = K[j]'hj := by simp [lastK, List.getD_eq_getElem?_getD, hj]

def CtR (p : Nat) (N R : Nat) (k : Nat) (L : List Pc) (V : World) : Prop := ∃ s, NAt p s L V ∧ Tok (k * 1100000) s.t ∧ Cons s ∧ s.n = N ∧ s.room = R

set_option maxRecDepth 100000 in
set_option maxHeartbeats 8000000 in
theorem counts_c (n room : Int) (a : Option Addr) (len cap : Nat) (f : Nat → OpI) (w : World) (hf : RdOps w a len f) (hl : len ≤ 9223372036854775807) (hlc : len ≤ cap) :
    Calls Try.prog 6 #[.int .i64 n, .int .i64 room, .slice a len cap] w fun e w' => e = .returned (.bool true) ∧ Kp no w w' := by
  have hal := Lib.hid (alive_c (SL.start w))
  have hf' := Lib.hid hf
  have hgr := Lib.hid (fun V (h : SL V [.old w no]) => great_c a len cap f V hl (hf.no (h.kp (.here _ _))))
  have hl' := Lib.hid hl
  clear hf hl
  go_enter Try.func6, Try.ntmps6
  go_wp2_with fail
  refine hal.out.mono ?_
  rintro e w1 ⟨rfl, H1⟩
  have hH := Lib.hid H1
  have hg := Lib.hid (hgr.out _ H1)
  clear hal H1 hgr
  go_wp2_with fail
  refine hg.out.mono ?_
  rintro e w2 ⟨r, rfl, rfl, hr⟩
  clear hg
  have hk1 := Lib.hid (hH.out.kp (.here _ _))
  cases r
  · obtain ⟨hl300, hbyte⟩ := hr rfl
    have hbyte' := Lib.hid hbyte
    clear hr hbyte
    by_cases hv : 1 ≤ n ∧ n ≤ 64 ∧ 1 ≤ room ∧ room ≤ 256
    · obtain ⟨hv1, hv2, hv3, hv4⟩ := hv
      obtain ⟨N, rfl⟩ : ∃ N : Nat, n = N := ⟨n.toNat, by omega⟩
      obtain ⟨R, rfl⟩ : ∃ R : Nat, room = R := ⟨room.toNat, by omega⟩
      have hnew := Lib.hid (new_at N R (by omega) (by omega) (by omega) (by omega) hH.out)
      clear hH
      go_wp2_with fail
      refine hnew.out.mono ?_
      rintro e w3 ⟨p, rfl, NN⟩
      have hN := Lib.hid NN
      clear hnew NN
      unfold ptrV
      go_wp2_with fail
      go_loopw [40] (fun i V => ∃ k : Nat, k ≤ len ∧ i = .int .i64 k ∧ Hid (CtR p N R k [.old w no] V)) (fun i _ => len - (intOf i).toNat)
      case atStart => exact ⟨0, by omega, rfl, Lib.hid ⟨_, hN.out, Tok.zero _ (by omega), by
        unfold Cons
        have : allF N (fun _ => ([] : List (List Int))) = 0 := by unfold allF; rw [show heldK N (fun _ => []) = [] from List.filter_eq_nil_iff.2 (by simp)]; rfl
        dsimp only [t0]
        rw [this]
        rfl, rfl, rfl⟩⟩
      case round =>
        clear hN
        obtain ⟨k, hk, rfl, hR⟩ := hrel
        by_cases hkl : k < len
        · obtain ⟨s, NN, hT, hC, hsn, hsr⟩ := hR.out
          have hT9 : Tok 1000000000 s.t := hT.mono (by omega)
          obtain ⟨b, o, rfl, -⟩ := (hf'.out.no (NN.tail.kp (.here _ _))).at hkl
          have hop : ∀ V, SL V [.old w no] → OpAt V b (o + k * 6) (f k) := fun V h => by
            obtain ⟨b', o', e, h2⟩ := (hf'.out.no (h.kp (.here _ _))).at hkl
            cases e
            exact h2
          have hp := Lib.hid (fun c => play_c (c := c) NN hT9 hop)
          have hok := Lib.hid (play_ok NN hT hC (f k))
          obtain ⟨s2, hs2⟩ : ∃ s2, s.play (f k) = s2 := ⟨_, rfl⟩
          rw [hs2] at hp hok
          have hsn' := Lib.hid hsn
          have hsr' := Lib.hid hsr
          have hcap1 : k + 1 ≤ cap := by omega
          have hkc : ¬ cap = k := by omega
          clear NN hT hC hT9 hop hs2 hR hsn hsr
          unfold ptrV at *
          go_wp2_with fail
          refine (hp.out _).mono ?_
          rintro e w4 ⟨⟨v, rfl⟩, NN⟩
          have htr := Lib.hid (traffic_c NN)
          clear hp NN
          unfold ptrV at *
          go_wp2_with fail
          refine htr.out.mono ?_
          rintro e w5 ⟨rfl, NN⟩
          have hN := NN.alloc (tfV s2.t) 50
          have hH := Lib.hid hN
          clear htr NN hN
          unfold tfV at *
          go_wp2_with fail
          generalize w5.alloc (.cells [Value.int .i64 s2.t.sent, .int .i64 s2.t.doubled, .int .i64 s2.t.delivered, .int .i64 s2.t.dropped, .int .i64 s2.t.lost, .int .i64 s2.t.flipped].toArray 50) = w6 at *
          generalize w5.heap.size = tb at *
          have hsum : Hid (∃ y1 y2 y3 : Int, IntKind.i64.wrap (s2.t.sent + s2.t.doubled) = y1 ∧ IntKind.i64.wrap (s2.t.delivered + s2.t.dropped) = y2 ∧ IntKind.i64.wrap (y2 + s2.t.lost) = y3 ∧ IntKind.i64.wrap (y3 + (allF s2.n s2.F : Nat)) = y1) := Lib.hid (by
            have h1 := allF_le hH.out
            obtain ⟨⟨t1, t2, t3, t4, t5, t6⟩, hC, -, -⟩ := hok.out
            unfold Cons at hC
            have hk9 : (k : Int) * 1100000 + 1100000 ≤ 1000000000 := by omega
            refine ⟨s2.t.sent + s2.t.doubled, s2.t.delivered + s2.t.dropped, s2.t.delivered + s2.t.dropped + s2.t.lost, IntWalk.i64_in _ ⟨by omega, by omega⟩, IntWalk.i64_in _ ⟨by omega, by omega⟩, IntWalk.i64_in _ ⟨by omega, by omega⟩, ?_⟩
            rw [hC]
            exact IntWalk.i64_in _ ⟨by omega, by omega⟩)
          have hall := Lib.hid (fun V (h : NAt p s2 [.blk tb [.int .i64 s2.t.sent, .int .i64 s2.t.doubled, .int .i64 s2.t.delivered, .int .i64 s2.t.dropped, .int .i64 s2.t.lost, .int .i64 s2.t.flipped] 50, .old w no] V) => all_c h)
          have hfin : Hid (∀ V, NAt p s2 [.blk tb [.int .i64 s2.t.sent, .int .i64 s2.t.doubled, .int .i64 s2.t.delivered, .int .i64 s2.t.dropped, .int .i64 s2.t.lost, .int .i64 s2.t.flipped] 50, .old w no] V → Hid (CtR p N R (k + 1) [.old w no] V)) := Lib.hid fun V h => Lib.hid ⟨s2, h.re (.drop (.same _)), by
            have := hok.out.1
            rw [show ((k + 1 : Nat) : Int) * 1100000 = k * 1100000 + 1100000 by omega]
            exact this, hok.out.2.1, by rw [hok.out.2.2.1, hsn'.out], by rw [hok.out.2.2.2, hsr'.out]⟩
          obtain ⟨y1, y2, y3, g1, g2, g3, g4⟩ := hsum.out
          generalize allF s2.n s2.F = al at *
          generalize s2.t.sent = z1 at *
          generalize s2.t.doubled = z2 at *
          generalize s2.t.delivered = z3 at *
          generalize s2.t.dropped = z4 at *
          generalize s2.t.lost = z5 at *
          generalize s2.t.flipped = z6 at *
          have hyy : (y1 != y1) = false := by simp
          clear hsum hok hsn' hsr'
          unfold ptrV at *
          refine wp_region_held_drew (S := (fun W => W.cell? ⟨tb, 0, none⟩ = some (.int .i64 z1) ∧ W.cell? ⟨tb, 1, none⟩ = some (.int .i64 z2) ∧ W.cell? ⟨tb, 2, none⟩ = some (.int .i64 z3) ∧ W.cell? ⟨tb, 3, none⟩ = some (.int .i64 z4) ∧ W.cell? ⟨tb, 4, none⟩ = some (.int .i64 z5))) (by kernel_rfl) ?_ (fun hHeld => ?_)
          · have H := hH.out.tail.drew
            exact ⟨H.cell (o := 0) (.here _ _) rfl, H.cell (o := 1) (.here _ _) rfl, H.cell (o := 2) (.here _ _) rfl, H.cell (o := 3) (.here _ _) rfl, H.cell (o := 4) (.here _ _) rfl⟩
          have H := hH.out.drew
          generalize World.drew w6 = w7 at *
          clear hH
          refine takeL (i := 0) rfl (by kernel_rfl) (by kernel_rfl) (by kernel_rfl) (fun _ _ _ _ h => h) hHeld ?_ (Or.inl ⟨by rfl, ?_⟩) ?_
          rotate_left
          · intro W hW
            (try dsimp only at hW)
            first | (go_simp; done) | (go_simp; with_reducible rfl)
          ((try simp only [Act.put]); (try simp only [List.setIfInBounds_toArray]); (try simp only [List.set_cons_succ]); (try simp only [List.set_cons_zero]))
          refine takeL (i := 1) rfl (by kernel_rfl) (by kernel_rfl) (by kernel_rfl) (fun _ _ _ _ h => h) hHeld ?_ (Or.inl ⟨by rfl, ?_⟩) ?_
          rotate_left
          · intro W hW
            (try dsimp only at hW)
            first | (go_simp; done) | (go_simp; with_reducible rfl)
          ((try simp only [Act.put]); (try simp only [List.setIfInBounds_toArray]); (try simp only [List.set_cons_succ]); (try simp only [List.set_cons_zero]))
          refine takeL (i := 2) rfl (by kernel_rfl) (by kernel_rfl) (by kernel_rfl) (fun _ _ _ _ h => h) hHeld ?_ (Or.inl ⟨by rfl, ?_⟩) ?_
          rotate_left
          · intro W hW
            (try dsimp only at hW)
            first | (go_simp; done) | (go_simp; with_reducible rfl)
          ((try simp only [Act.put]); (try simp only [List.setIfInBounds_toArray]); (try simp only [List.set_cons_succ]); (try simp only [List.set_cons_zero]))
          refine takeL (i := 3) rfl (by kernel_rfl) (by kernel_rfl) (by kernel_rfl) (fun _ _ _ _ h => h) hHeld ?_ (Or.inl ⟨by rfl, ?_⟩) ?_
          rotate_left
          · intro W hW
            (try dsimp only at hW)
            first | (go_simp; done) | (go_simp; with_reducible rfl)
          ((try simp only [Act.put]); (try simp only [List.setIfInBounds_toArray]); (try simp only [List.set_cons_succ]); (try simp only [List.set_cons_zero]))
          refine takeL (i := 4) rfl (by kernel_rfl) (by kernel_rfl) (by kernel_rfl) (fun _ _ _ _ h => h) hHeld ?_ (Or.inl ⟨by rfl, ?_⟩) ?_
          rotate_left
          · intro W hW
            (try dsimp only at hW)
            first | (go_simp; done) | (go_simp; with_reducible rfl)
          ((try simp only [Act.put]); (try simp only [List.setIfInBounds_toArray]); (try simp only [List.set_cons_succ]); (try simp only [List.set_cons_zero]))
          refine takeL (i := 5) rfl (by kernel_rfl) (by kernel_rfl) (by kernel_rfl) (fun _ _ _ _ h => h) hHeld ?_ (Or.inl ⟨by rfl, ?_⟩) ?_
          rotate_left
          · intro W hW
            (try dsimp only at hW)
            first | (go_simp; done) | (go_simp; with_reducible rfl)
          ((try simp only [Act.put]); (try simp only [List.setIfInBounds_toArray]); (try simp only [List.set_cons_succ]); (try simp only [List.set_cons_zero]))
          refine takeL (i := 6) rfl (by kernel_rfl) (by kernel_rfl) (by kernel_rfl) (fun _ _ _ _ h => h) hHeld ?_ (Or.inl ⟨by rfl, ?_⟩) ?_
          rotate_left
          · intro W hW
            (try dsimp only at hW)
            first | (go_simp; done) | (go_simp; with_reducible rfl)
          ((try simp only [Act.put]); (try simp only [List.setIfInBounds_toArray]); (try simp only [List.set_cons_succ]); (try simp only [List.set_cons_zero]))
          refine takeL (i := 7) rfl (by kernel_rfl) (by kernel_rfl) (by kernel_rfl) (fun _ _ _ _ h => h) hHeld ?_ (Or.inl ⟨by rfl, ?_⟩) ?_
          rotate_left
          · intro W hW
            (try dsimp only at hW)
            first | (go_simp; done) | (go_simp; with_reducible rfl)
          ((try simp only [Act.put]); (try simp only [List.setIfInBounds_toArray]); (try simp only [List.set_cons_succ]); (try simp only [List.set_cons_zero]))
          refine takeL (i := 8) rfl (by kernel_rfl) (by kernel_rfl) (by kernel_rfl) (fun _ _ _ _ h => h) hHeld ?_ (Or.inl ⟨by rfl, ?_⟩) ?_
          rotate_left
          · intro W hW
            (try dsimp only at hW)
            first | (go_simp; done) | (go_simp; with_reducible rfl)
          ((try simp only [Act.put]); (try simp only [List.setIfInBounds_toArray]); (try simp only [List.set_cons_succ]); (try simp only [List.set_cons_zero]))
          refine takeL (i := 9) rfl (by kernel_rfl) (by kernel_rfl) (by kernel_rfl) (fun _ _ _ _ h => h) hHeld ?_ (Or.inl ⟨by rfl, ?_⟩) ?_
          rotate_left
          · intro W hW
            (try dsimp only at hW)
            first | (go_simp; done) | (go_simp; with_reducible rfl)
          ((try simp only [Act.put]); (try simp only [List.setIfInBounds_toArray]); (try simp only [List.set_cons_succ]); (try simp only [List.set_cons_zero]))
          refine takeL (i := 10) rfl (by kernel_rfl) (by kernel_rfl) (by kernel_rfl) (fun _ _ _ _ h => h) hHeld ?_ (Or.inl ⟨by rfl, ?_⟩) ?_
          rotate_left
          · intro W hW
            (try dsimp only at hW)
            first | (go_simp; done) | (go_simp; with_reducible rfl)
          ((try simp only [Act.put]); (try simp only [List.setIfInBounds_toArray]); (try simp only [List.set_cons_succ]); (try simp only [List.set_cons_zero]))
          refine takeL (i := 11) rfl (by kernel_rfl) (by kernel_rfl) (by kernel_rfl) (fun _ _ _ _ h => h) hHeld ?_ (Or.inl ⟨by rfl, ?_⟩) ?_
          rotate_left
          · intro W hW
            (try dsimp only at hW)
            first | (go_simp; done) | (go_simp; with_reducible rfl)
          ((try simp only [Act.put]); (try simp only [List.setIfInBounds_toArray]); (try simp only [List.set_cons_succ]); (try simp only [List.set_cons_zero]))
          refine takeL (i := 12) rfl (by kernel_rfl) (by kernel_rfl) (by kernel_rfl) (fun _ _ _ _ h => h) hHeld ?_ (Or.inl ⟨by rfl, ?_⟩) ?_
          rotate_left
          · intro W hW
            (try dsimp only at hW)
            first | (go_simp; done) | (go_simp; with_reducible rfl)
          ((try simp only [Act.put]); (try simp only [List.setIfInBounds_toArray]); (try simp only [List.set_cons_succ]); (try simp only [List.set_cons_zero]))
          refine takeL (i := 13) rfl (by kernel_rfl) (by kernel_rfl) (by kernel_rfl) (fun _ _ _ _ h => h) hHeld ?_ (Or.inl ⟨by rfl, ?_⟩) ?_
          rotate_left
          · intro W hW
            (try dsimp only at hW)
            first | (go_simp; done) | (go_simp; with_reducible rfl)
          ((try simp only [Act.put]); (try simp only [List.setIfInBounds_toArray]); (try simp only [List.set_cons_succ]); (try simp only [List.set_cons_zero]))
          refine callL (i := 14) rfl (by kernel_rfl) (fun K hK => ?_)
          rw [if_pos (by rfl)]
          go_simp
          refine (hall.out _ H).mono ?_
          rintro e w8 ⟨rfl, H8⟩
          clear H hHeld
          have H := H8
          clear H8
          refine hK.out _ _ ?_ (fun hHeld => ?_)
          · have h := H.tail
            exact ⟨h.cell (o := 0) (.here _ _) rfl, h.cell (o := 1) (.here _ _) rfl, h.cell (o := 2) (.here _ _) rfl, h.cell (o := 3) (.here _ _) rfl, h.cell (o := 4) (.here _ _) rfl⟩
          clear hK K
          ((try simp only [Act.put]); (try simp only [List.setIfInBounds_toArray]); (try simp only [List.set_cons_succ]); (try simp only [List.set_cons_zero]))
          refine takeL (i := 15) rfl (by kernel_rfl) (by kernel_rfl) (by kernel_rfl) (fun _ _ _ _ h => h) hHeld ?_ (Or.inl ⟨by rfl, ?_⟩) ?_
          rotate_left
          · intro W hW
            (try dsimp only at hW)
            first | (go_simp; done) | (go_simp; with_reducible rfl)
          ((try simp only [Act.put]); (try simp only [List.setIfInBounds_toArray]); (try simp only [List.set_cons_succ]); (try simp only [List.set_cons_zero]))
          refine takeL (i := 16) rfl (by kernel_rfl) (by kernel_rfl) (by kernel_rfl) (fun _ _ _ _ h => h) hHeld ?_ (Or.inl ⟨by rfl, ?_⟩) ?_
          rotate_left
          · intro W hW
            (try dsimp only at hW)
            first | (go_simp; done) | (go_simp; with_reducible rfl)
          ((try simp only [Act.put]); (try simp only [List.setIfInBounds_toArray]); (try simp only [List.set_cons_succ]); (try simp only [List.set_cons_zero]))
          refine wpAnyH_done (by kernel_rfl) ?_ _
          
          have hfin2 := Lib.hid (hfin.out _ H)
          clear hfin H hHeld hall
          go_wp2_with fail
          go_roundw
          case rel => exact ⟨k + 1, by omega, by go_num, hfin2.out⟩
          case measure => (simp [intOf]; try omega)
        · obtain rfl : k = len := by omega
          obtain ⟨s, NN, hT, hC, hsn, hsr⟩ := hR.out
          have N2 := NN.alloc [.int .i64 (-1), .int .i64 (-1)] 42
          have hW := Lib.hid (ways_c N2)
          have hsr' := Lib.hid hsr
          clear NN hT hC N2 hR hsn hsr
          unfold ptrV at *
          go_wp2_with fail
          generalize wr.heap.size = lb at *
          refine hW.out.mono ?_
          rintro e w4 ⟨wa, wc, rfl, NN⟩
          obtain ⟨K, hK⟩ : ∃ K, heldK s.n s.F = K := ⟨_, rfl⟩
          have hlex : Hid (∀ i (hi : i + 1 < K.length), lexK (K[i]'(by omega)) (K[i + 1]'hi)) := Lib.hid (by subst hK; exact fun i hi => heldK_lex _ _ hi)
          have hmem : Hid (∀ k ∈ K, (0 ≤ k.1 ∧ k.1 < s.n ∧ 0 ≤ k.2 ∧ k.2 < s.n ∧ k.1 ≠ k.2) ∧ 1 ≤ (s.F k).length ∧ (s.F k).length ≤ s.room) := Lib.hid (by
            subst hK
            intro k hk
            have hne : s.F k ≠ [] := by
              have := (List.mem_filter.1 hk).2
              intro e; rw [e] at this; simp at this
            exact ⟨NN.key hne, List.length_pos_iff.2 hne, NN.lenF k⟩)
          have hall : Hid (sumTo K s.F K.length = allF s.n s.F) := Lib.hid (by subst hK; unfold sumTo allF; rw [List.take_length])
          have hall2 := allF_le NN
          have hst : Hid (∀ i (hi : i < K.length), sumTo K s.F (i + 1) = sumTo K s.F i + (s.F (K[i]'hi)).length) := Lib.hid fun i hi => sumTo_succ _ hi
          have hsz : Hid (∀ i, i ≤ K.length → sumTo K s.F i ≤ 1048576) := Lib.hid fun i hi => by
            have h : ∀ d, i + d = K.length → sumTo K s.F i ≤ sumTo K s.F K.length := by
              intro d
              induction d generalizing i with
              | zero => intro e; rw [show i = K.length by omega]; exact Nat.le_refl _
              | succ d ih => intro e; have := ih (i + 1) (by omega) (by omega); have := hst.out i (by omega); omega
            have := h (K.length - i) (by omega)
            rw [hall.out] at this
            omega
          rw [hK] at NN ⊢
          have hKn : K.length ≤ 4096 := by
            have h1 := heldK_len s.n s.F
            have h2 := NN.sizes.2.1
            have h3 : s.n * s.n ≤ 64 * 64 := Nat.mul_le_mul h2 h2
            rw [hK] at h1
            omega
          have hN := Lib.hid NN
          clear NN hW hK
          obtain ⟨M, hM⟩ : ∃ M, K.length = M := ⟨_, rfl⟩
          have hM' := Lib.hid hM
          rw [hM] at hN hKn hall ⊢
          clear hM
          go_wp2_with fail
          go_loopw [74, 12] (fun i sm V => ∃ (j : Nat) (l1 l2 : Int), j ≤ M ∧ i = .int .i64 j ∧ sm = .int .i64 (sumTo K s.F j : Nat) ∧ Hid ((l1, l2) = lastK K j ∧ NAt p s [.own 42 2 (.slice wa M wc) M (kyC K), .blk lb [.int .i64 l1, .int .i64 l2] 42, .old w no] V)) (fun i _ _ => M - (intOf i).toNat)
          case atStart => exact ⟨0, -1, -1, by omega, rfl, by simp [sumTo], Lib.hid ⟨rfl, hN.out⟩⟩
          case round =>
            clear hN
            obtain ⟨j, l1, l2, hj, rfl, rfl, hR⟩ := hrel
            by_cases hjM : j < M
            · have hjK : j < K.length := by rw [hM'.out]; exact hjM
              have hown : OwnK wr 0 42 2 (.slice wa M wc) M (kyC K) := hR.out.2.tail.ownOf (.here _ _)
              obtain ⟨g, rfl, w0, w1'⟩ : ∃ g, wa = some ⟨g, 0, none⟩ ∧ wr.cell? ⟨g, j * 2, none⟩ = some (.int .i64 (K[j]'hjK).1) ∧ wr.cell? ⟨g, j * 2 + 1, none⟩ = some (.int .i64 (K[j]'hjK).2) := by
                rcases hown.form with ⟨_, e, _⟩ | ⟨g, cap', e, _, _, _, _, _, hc, _⟩
                · omega
                · cases e
                  refine ⟨g, rfl, ?_, ?_⟩
                  · rw [hc (j * 2) (by omega), (kyC_at K hjK).1]
                  · rw [hc (j * 2 + 1) (by omega), (kyC_at K hjK).2]
              obtain ⟨hkey, hm1, hm2⟩ := hmem.out _ (List.getElem_mem hjK)
              obtain ⟨hx1, hx2⟩ := lastK_lex hlex.out hjK hkey.1
              have hst' := hst.out j hjK
              have hb1 := hsz.out j (by omega)
              have hb2 := hsz.out (j + 1) (by omega)
              have hls := lastK_succ hjK
              rw [← hR.out.1] at hx1 hx2
              dsimp only at hx1 hx2
              have hlen : Hid (∀ V, NAt p s [.blk wr.heap.size [.int .i64 (K[j]'hjK).1, .int .i64 (K[j]'hjK).2] 42, .own 42 2 (.slice (some ⟨g, 0, none⟩) M wc) M (kyC K), .blk lb [.int .i64 l1, .int .i64 l2] 42, .old w no] V → _) := Lib.hid fun V h => len_c h (K[j]'hjK).1 (K[j]'hjK).2
              have hN2 := Lib.hid (hR.out.2.alloc [.int .i64 (K[j]'hjK).1, .int .i64 (K[j]'hjK).2] 42)
              have hf2 : Hid (s.F ((K[j]'hjK).1, (K[j]'hjK).2) = s.F (K[j]'hjK)) := Lib.hid rfl
              rw [hf2.out] at hlen
              clear hf2
              obtain ⟨m, hm⟩ : ∃ m, (s.F (K[j]'hjK)).length = m := ⟨_, rfl⟩
              rw [hm] at hm1 hm2 hst' hlen
              have hls' := Lib.hid hls
              generalize K[j]'hjK = kk at *
              obtain ⟨k1, k2⟩ := kk
              dsimp only at *
              obtain ⟨q1, q2, q3, q4, q5⟩ := hkey
              have hne : (k1 == k2) = false := by simpa using q5
              rw [hsr'.out] at hm2
              obtain ⟨s1, hs1⟩ : ∃ s1, sumTo K s.F j = s1 := ⟨_, rfl⟩
              obtain ⟨s2, hs2⟩ : ∃ s2, sumTo K s.F (j + 1) = s2 := ⟨_, rfl⟩
              rw [hs1] at hst' hb1
              rw [hs2] at hst' hb2
              have hs2' := Lib.hid hs2
              have hst2 := Lib.hid hst'
              have hb3 : s1 + m ≤ 1048576 := by omega
              rw [hs1]
              clear hR hown hs1 hs2 hst' hm hls hjK hlex hmem hst hsz q5 hb2
              have hN2' := hN2
              clear hN2
              go_wp2_with fail
              generalize wr.alloc (.cells [Value.int .i64 k1, .int .i64 k2].toArray 42) = w5 at *
              generalize wr.heap.size = kb at *
              have hl2 := Lib.hid (hlen.out _ hN2'.out)
              clear hlen hN2' w0 w1'
              unfold ptrV at *
              refine hl2.out.mono ?_
              rintro e w6 ⟨rfl, NN⟩
              have k0 := NN.tail.cell (b := kb) (o := 0) (.here _ _) rfl
              have k1' := NN.tail.cell (b := kb) (o := 1) (.here _ _) rfl
              have y0 := NN.tail.cell (b := lb) (o := 0) (by first | exact .here _ _ | exact .there (.here _ _) | exact .there (.there (.here _ _)) | exact .there (.there (.there (.here _ _))) | exact .there (.there (.there (.there (.here _ _)))) | exact .there (.there (.there (.there (.there (.here _ _))))) | exact .there (.there (.there (.there (.there (.there (.here _ _)))))) | exact .there (.there (.there (.there (.there (.there (.there (.here _ _))))))) | exact .there (.there (.there (.there (.there (.there (.there (.there (.here _ _)))))))) | exact .there (.there (.there (.there (.there (.there (.there (.there (.there (.here _ _))))))))) | exact .there (.there (.there (.there (.there (.there (.there (.there (.there (.there (.here _ _)))))))))) | exact .there (.there (.there (.there (.there (.there (.there (.there (.there (.there (.there (.here _ _))))))))))) | exact .there (.there (.there (.there (.there (.there (.there (.there (.there (.there (.there (.there (.here _ _)))))))))))) | exact .there (.there (.there (.there (.there (.there (.there (.there (.there (.there (.there (.there (.there (.here _ _)))))))))))))) rfl
              have y1 := NN.tail.cell (b := lb) (o := 1) (by first | exact .here _ _ | exact .there (.here _ _) | exact .there (.there (.here _ _)) | exact .there (.there (.there (.here _ _))) | exact .there (.there (.there (.there (.here _ _)))) | exact .there (.there (.there (.there (.there (.here _ _))))) | exact .there (.there (.there (.there (.there (.there (.here _ _)))))) | exact .there (.there (.there (.there (.there (.there (.there (.here _ _))))))) | exact .there (.there (.there (.there (.there (.there (.there (.there (.here _ _)))))))) | exact .there (.there (.there (.there (.there (.there (.there (.there (.there (.here _ _))))))))) | exact .there (.there (.there (.there (.there (.there (.there (.there (.there (.there (.here _ _)))))))))) | exact .there (.there (.there (.there (.there (.there (.there (.there (.there (.there (.there (.here _ _))))))))))) | exact .there (.there (.there (.there (.there (.there (.there (.there (.there (.there (.there (.there (.here _ _)))))))))))) | exact .there (.there (.there (.there (.there (.there (.there (.there (.there (.there (.there (.there (.there (.here _ _)))))))))))))) rfl
              have fy := fun o => NN.tail.free (b := lb) (by first | exact .here _ _ | exact .there (.here _ _) | exact .there (.there (.here _ _)) | exact .there (.there (.there (.here _ _))) | exact .there (.there (.there (.there (.here _ _)))) | exact .there (.there (.there (.there (.there (.here _ _))))) | exact .there (.there (.there (.there (.there (.there (.here _ _)))))) | exact .there (.there (.there (.there (.there (.there (.there (.here _ _))))))) | exact .there (.there (.there (.there (.there (.there (.there (.there (.here _ _)))))))) | exact .there (.there (.there (.there (.there (.there (.there (.there (.there (.here _ _))))))))) | exact .there (.there (.there (.there (.there (.there (.there (.there (.there (.there (.here _ _)))))))))) | exact .there (.there (.there (.there (.there (.there (.there (.there (.there (.there (.there (.here _ _))))))))))) | exact .there (.there (.there (.there (.there (.there (.there (.there (.there (.there (.there (.there (.here _ _)))))))))))) | exact .there (.there (.there (.there (.there (.there (.there (.there (.there (.there (.there (.there (.there (.here _ _)))))))))))))) o
              have hN3 := Lib.hid (((NN.re (.step (by first | exact .here _ _ | exact .there (.here _ _) | exact .there (.there (.here _ _)) | exact .there (.there (.there (.here _ _))) | exact .there (.there (.there (.there (.here _ _)))) | exact .there (.there (.there (.there (.there (.here _ _))))) | exact .there (.there (.there (.there (.there (.there (.here _ _)))))) | exact .there (.there (.there (.there (.there (.there (.there (.here _ _))))))) | exact .there (.there (.there (.there (.there (.there (.there (.there (.here _ _)))))))) | exact .there (.there (.there (.there (.there (.there (.there (.there (.there (.here _ _))))))))) | exact .there (.there (.there (.there (.there (.there (.there (.there (.there (.there (.here _ _)))))))))) | exact .there (.there (.there (.there (.there (.there (.there (.there (.there (.there (.there (.here _ _))))))))))) | exact .there (.there (.there (.there (.there (.there (.there (.there (.there (.there (.there (.there (.here _ _)))))))))))) | exact .there (.there (.there (.there (.there (.there (.there (.there (.there (.there (.there (.there (.there (.here _ _)))))))))))))) (.same _)) : NAt p s (.blk lb [.int .i64 l1, .int .i64 l2] 42 :: _) w6).setCell 0 (.int .i64 k1)).setCell 1 (.int .i64 k2))
              clear hl2 NN
              have hfin : Hid (Value.int .i64 ((s1 : Int) + (m : Int)) = Value.int .i64 (sumTo K s.F (j + 1) : Nat)) := Lib.hid (by rw [hs2'.out, hst2.out]; simp)
              have hrel2 : Hid (Hid ((k1, k2) = lastK K (j + 1) ∧ NAt p s [.own 42 2 (.slice (some ⟨g, 0, none⟩) M wc) M (kyC K), .blk lb [.int .i64 k1, .int .i64 k2] 42, .old w no] ((w6.setCell ⟨lb, 0, none⟩ (.int .i64 k1)).setCell ⟨lb, 1, none⟩ (.int .i64 k2)))) :=
                Lib.hid (Lib.hid ⟨hls'.out.symm, hN3.out.re (.step (.there (.there (.here _ _))) (.step (.here _ _) (.drop (.same _))))⟩)
              clear hs2' hst2 hls' hN3
              by_cases he : k1 = l1
              · have heb : (k1 == l1) = true := by simpa using he
                have h2 := hx2 he
                clear hx2 he
                go_wp2_with fail
                go_roundw
                case rel => exact ⟨j + 1, k1, k2, by omega, by go_num, by rw [← hfin.out], hrel2.out⟩
                case measure => (simp [intOf]; try omega)
              · have heb : (k1 == l1) = false := by simpa using he
                clear hx2 he
                go_wp2_with fail
                go_roundw
                case rel => exact ⟨j + 1, k1, k2, by omega, by go_num, by rw [← hfin.out], hrel2.out⟩
                case measure => (simp [intOf]; try omega)
            · obtain rfl : j = M := by omega
              have hall3 := Lib.hid (all_c hR.out.2)
              rw [hall.out]
              obtain ⟨al, hal⟩ : ∃ al, allF s.n s.F = al := ⟨_, rfl⟩
              rw [hal] at hall3 ⊢
              have hab : ((al : Int) == (al : Int)) = true := by simp
              clear hR hal hall
              unfold ptrV at *
              go_wp2_with fail
              refine hall3.out.mono ?_
              rintro e w6 ⟨rfl, NN⟩
              have hfin := Lib.hid (NN.tail.kp (.there (.there (.here _ _))))
              clear NN hall3
              go_wp2_with fail
              go_ret
              exact ⟨rfl, hfin.out⟩
    · clear hH
      have hnew := Lib.hid (new_no n room (by omega) w1)
      go_wp2_with fail
      refine hnew.out.mono ?_
      rintro e w3 ⟨rfl, rfl⟩
      go_wp2_with fail
      go_ret
      exact ⟨rfl, hk1.out⟩
  · clear hr
    go_wp2_with fail
    go_ret
    exact ⟨rfl, hk1.out⟩
end Go.Proofs.Ytnkahibddhchlaa
