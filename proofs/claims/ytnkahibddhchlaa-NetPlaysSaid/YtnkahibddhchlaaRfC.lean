/- The reference's New, Send, At. -/
import Derived.Test.YtnkahibddhchlaaRfB
import Derived.Test.YtnkahibddhchlaaPlayW
namespace Go.Proofs.Ytnkahibddhchlaa
open Go.RowKit
set_option linter.unusedVariables false

theorem rnew_c (n room : Nat) (h1 : 1 ≤ n) (h2 : n ≤ 64) (h3 : 1 ≤ room) (h4 : room ≤ 256) {w : World} {L : List Pc} (H : SL w L) :
    Calls Try.prog 22 #[.int .i64 n, .int .i64 room] w fun e w' => ∃ y, e = .returned (.tuple #[ptrV y, .int .i64 0]) ∧ RAt y ⟨n, room, t0, []⟩ L w' := by
  have hH := Lib.hid H
  clear H
  go_enter Try.func22, Try.ntmps22
  go_wp2_with fail
  go_ret2
  refine ⟨w.heap.size, rfl, .slice none 0 0, [], ?_, rfl⟩
  exact ((hH.out.pure (q := rgS (.slice none 0 0) []) (OwnK.nil _ _ _ _) fun b h => by cases h).alloc [.int .i64 n, .int .i64 room, .slice none 0 0, .int .i64 0, .int .i64 0, .int .i64 0, .int .i64 0, .int .i64 0, .int .i64 0] 83)
theorem rnew_no (n room : Int) (h : n < 1 ∨ 64 < n ∨ room < 1 ∨ 256 < room) (w : World) :
    Calls Try.prog 22 #[.int .i64 n, .int .i64 room] w fun e w' => e = .returned (.tuple #[.pointer none, .int .i64 170]) ∧ w = w' := by
  go_enter Try.func22, Try.ntmps22
  by_cases h1 : n < 1
  · go_wp2_with fail
    go_ret2
    exact ⟨rfl, rfl⟩
  · by_cases h2 : 64 < n
    · go_wp2_with fail
      go_ret2
      exact ⟨rfl, rfl⟩
    · by_cases h3 : room < 1
      · go_wp2_with fail
        go_ret2
        exact ⟨rfl, rfl⟩
      · have h4 : 256 < room := by omega
        clear h
        go_wp2_with fail
        go_ret2
        exact ⟨rfl, rfl⟩

def RSt.okB (s : RSt) (a b : Int) : Prop := (0 ≤ a ∧ a < s.n) ∧ (0 ≤ b ∧ b < s.n) ∧ a ≠ b
instance (s : RSt) (a b : Int) : Decidable (s.okB a b) := by unfold RSt.okB; infer_instance
def RSt.send (s : RSt) (a b : Int) (bs : List Int) : Int × RSt :=
  if s.okB a b ∧ bs.length ≤ 1024 then (0, ({ s with t := { s.t with sent := s.t.sent + 1 } } : RSt).come (a, b) bs) else (170, s)

/-- Where the one that is asked for lies. -/
def AtIs (l : List (Ky × List Int)) (k : Ky) (at' r : Int) : Prop :=
  (r = -1 ∧ ¬ (0 ≤ at' ∧ at' < (filt l k).length)) ∨ ∃ i : Nat, r = i ∧ ∃ hi : i < l.length, (l[i]'hi).1 = k ∧ 0 ≤ at' ∧ (filt (l.take i) k).length = at'.toNat

section
variable {y : Nat} {s : RSt} {L : List Pc} {w : World}
set_option maxHeartbeats 4000000 in
theorem rsend_c (H : RAt y s L w) (ht : Tok 900000000 s.t) (hB : s.l.length ≤ 2000000) (k1 k2 : Int) (sa : Option Addr) (sc : Nat) (bs : List Int) (hbl : bs.length ≤ 1100) (hr : ∀ V, SL V L → RdB V sa bs ∧ (sa = none → sc = 0)) :
    Calls Try.prog 39 #[ptrV y, .int .i64 k1, .int .i64 k2, .slice sa bs.length sc] w fun e w' => e = .returned (.int .i64 (s.send k1 k2 bs).1) ∧ RAt y (s.send k1 k2 bs).2 L w' := by
  obtain ⟨a0, c0, R⟩ := H.rd
  have cn := R.n
  by_cases hok : s.okB k1 k2 ∧ bs.length ≤ 1024
  · have e : s.send k1 k2 bs = (0, ({ s with t := { s.t with sent := s.t.sent + 1 } } : RSt).come (k1, k2) bs) := if_pos hok
    rw [e]
    obtain ⟨⟨⟨o1, o2⟩, ⟨o3, o4⟩, o5⟩, o6⟩ := hok
    have ht2 : Tok 1000000000 { s.t with sent := s.t.sent + 1 } := by
      obtain ⟨h1, h2, h3, h4, h5, h6⟩ := ht
      constructor <;> dsimp only <;> omega
    have hc := Lib.hid (fun V (h : RAt y { s with t := { s.t with sent := s.t.sent + 1 } } L V) => rcome_c h ht2 hB k1 k2 sa sc bs hbl hr)
    obtain ⟨n0, n1⟩ := ht.sent
    obtain ⟨sl, gs, HS, hgs⟩ := H
    have c3 := HS.cell (b := y) (o := 3) (.here _ _) rfl
    have f3 := HS.free (b := y) (.here _ _) 3
    have hS2 := Lib.hid (show RAt y { s with t := { s.t with sent := s.t.sent + 1 } } L (w.setCell ⟨y, 3, none⟩ (.int .i64 (s.t.sent + 1))) from ⟨sl, gs, (show SL w (rgB y s.n s.room sl s.t :: _) from HS).setCell 3 (.int .i64 (s.t.sent + 1)), hgs⟩)
    obtain ⟨bl, hbl'⟩ : ∃ bl, bs.length = bl := ⟨_, rfl⟩
    rw [hbl'] at o6 hc ⊢
    have o7 : (k1 == k2) = false := by simpa using o5
    clear R HS hgs hr hbl hbl' e ht ht2 hB o5
    unfold ptrV at *
    go_enter Try.func39, Try.ntmps39
    go_wp2_with fail
    refine (hc.out _ hS2.out).mono ?_
    rintro e w' ⟨⟨v, rfl⟩, h⟩
    have hfin := Lib.hid h
    clear hc hS2 h
    go_wp2_with fail
    go_ret
    exact ⟨rfl, hfin.out⟩
  · have e : s.send k1 k2 bs = (170, s) := if_neg hok
    rw [e]
    have hfin := Lib.hid H
    unfold RSt.okB at hok
    obtain ⟨bl, hbl'⟩ : ∃ bl, bs.length = bl := ⟨_, rfl⟩
    obtain ⟨n, hn⟩ : ∃ n, s.n = n := ⟨_, rfl⟩
    rw [hbl', hn] at hok
    rw [hn] at cn
    rw [hbl'] at hbl ⊢
    clear R e H hr hbl' ht hB hn
    unfold ptrV at *
    dsimp only
    go_enter Try.func39, Try.ntmps39
    by_cases o1 : k1 < 0
    · clear hok
      go_wp2_with fail
      go_ret
      exact ⟨rfl, hfin.out⟩
    by_cases o2 : (n : Int) ≤ k1
    · clear hok
      go_wp2_with fail
      go_ret
      exact ⟨rfl, hfin.out⟩
    by_cases o3 : k2 < 0
    · clear hok
      go_wp2_with fail
      go_ret
      exact ⟨rfl, hfin.out⟩
    by_cases o4 : (n : Int) ≤ k2
    · clear hok
      go_wp2_with fail
      go_ret
      exact ⟨rfl, hfin.out⟩
    by_cases o5 : k1 = k2
    · have o6 : (k1 == k2) = true := by simpa using o5
      clear hok o5
      go_wp2_with fail
      go_ret
      exact ⟨rfl, hfin.out⟩
    · have o6 : (k1 == k2) = false := by simpa using o5
      have o7 : 1024 < bl := by omega
      clear hok o5
      go_wp2_with fail
      go_ret
      exact ⟨rfl, hfin.out⟩

theorem rat_w {a : Option Addr} {c : Nat} (R : RRd w y s a c) (hB : s.l.length ≤ 2000000) (k1 k2 at' : Int) :
    Calls Try.prog 45 #[ptrV y, .int .i64 k1, .int .i64 k2, .int .i64 at'] w fun e w' => ∃ r, e = .returned (.int .i64 r) ∧ AtIs s.l (k1, k2) at' r ∧ w = w' := by
  have hR := Lib.hid R
  have hsl := R.sl
  obtain ⟨ln, hln⟩ : ∃ ln, s.l.length = ln := ⟨_, rfl⟩
  have hln' := Lib.hid hln
  rw [hln] at hsl hB
  clear R hln
  unfold ptrV
  go_enter Try.func45, Try.ntmps45
  go_wp2_with fail
  go_loop [9, 10] (fun n i => ∃ j : Nat, j ≤ ln ∧ i = .int .i64 j ∧ n = .int .i64 ((filt (s.l.take j) (k1, k2)).length : Nat) ∧ Hid (¬ (0 ≤ at' ∧ at' < (filt (s.l.take j) (k1, k2)).length))) (fun _ i => ln - (intOf i).toNat)
  case atStart => exact ⟨0, by omega, rfl, rfl, Lib.hid (by simp [filt])⟩
  case round =>
    obtain ⟨j, hj, rfl, rfl, hno⟩ := hrel
    by_cases hjl : j < ln
    · have hjl' : j < s.l.length := by rw [hln'.out]; exact hjl
      obtain ⟨g, v, rfl, e1, e2, e3, -⟩ := hR.out.at' j hjl'
      have hst := Lib.hid (filt_take s.l (k1, k2) hjl')
      have hle := filt_le (s.l.take j) (k1, k2)
      rw [List.length_take] at hle
      have hle2 : (filt (s.l.take j) (k1, k2)).length ≤ 2000000 := by omega
      have hgo : Hid ((s.l[j]'hjl').1 = (k1, k2) → ((filt (s.l.take j) (k1, k2)).length : Int) = at' → AtIs s.l (k1, k2) at' j) := Lib.hid fun h1 h2 => .inr ⟨j, rfl, hjl', h1, by omega, by omega⟩
      clear hle e3
      generalize (s.l[j]'hjl') = x at *
      obtain ⟨⟨x1, x2⟩, xb⟩ := x
      dsimp only at *
      obtain ⟨m, hm⟩ : ∃ m, (filt (s.l.take j) (k1, k2)).length = m := ⟨_, rfl⟩
      have hm' := Lib.hid hm
      rw [hm] at hle2 hno hgo
      rw [hm]
      clear hm hjl'
      by_cases h1 : x1 = k1
      · have hb1 : (x1 != k1) = false := by simpa using h1
        by_cases h2 : x2 = k2
        · have hb2 : (x2 != k2) = false := by simpa using h2
          by_cases h3 : (m : Int) = at'
          · have hb3 : ((m : Int) == at') = true := by simpa using h3
            have hfin := Lib.hid (hgo.out (by rw [h1, h2]) h3)
            clear h1 h2 h3 hst hm' hgo hno
            go_wp2_with fail
            go_ret
            exact ⟨_, rfl, hfin.out, rfl⟩
          · have hb3 : ((m : Int) == at') = false := by simpa using h3
            have hfin : Hid ((filt (s.l.take (j + 1)) (k1, k2)).length = m + 1) := Lib.hid (by rw [hst.out, if_pos (by rw [h1, h2]), List.length_append, hm'.out]; rfl)
            have hno2 : Hid (¬ (0 ≤ at' ∧ at' < ((m + 1 : Nat) : Int))) := Lib.hid (by have := hno.out; omega)
            clear h1 h2 hst hm' hgo hno h3
            go_wp2_with fail
            go_round
            case rel => exact ⟨j + 1, by omega, by go_num, by rw [hfin.out]; go_num, by rw [hfin.out]; exact hno2⟩
            case measure => (simp [intOf]; try omega)
        · have hb2 : (x2 != k2) = true := by simpa using h2
          have hfin : Hid ((filt (s.l.take (j + 1)) (k1, k2)).length = m) := Lib.hid (by rw [hst.out, if_neg (fun e => h2 (Prod.mk.inj e).2), List.append_nil, hm'.out])
          clear h1 h2 hst hm' hgo
          go_wp2_with fail
          go_round
          case rel => exact ⟨j + 1, by omega, by go_num, by rw [hfin.out], by rw [hfin.out]; exact hno⟩
          case measure => (simp [intOf]; try omega)
      · have hb1 : (x1 != k1) = true := by simpa using h1
        have hfin : Hid ((filt (s.l.take (j + 1)) (k1, k2)).length = m) := Lib.hid (by rw [hst.out, if_neg (fun e => h1 (Prod.mk.inj e).1), List.append_nil, hm'.out])
        clear h1 hst hm' hgo
        go_wp2_with fail
        go_round
        case rel => exact ⟨j + 1, by omega, by go_num, by rw [hfin.out], by rw [hfin.out]; exact hno⟩
        case measure => (simp [intOf]; try omega)
    · obtain rfl : j = ln := by omega
      have hfin : Hid (filt (s.l.take j) (k1, k2) = filt s.l (k1, k2)) := Lib.hid (by rw [List.take_of_length_le (by rw [hln'.out]; exact Nat.le_refl _)])
      rw [hfin.out] at hno ⊢
      go_wp2_with fail
      go_ret
      exact ⟨-1, rfl, .inl ⟨rfl, hno.out⟩, rfl⟩
end
end Go.Proofs.Ytnkahibddhchlaa
/- The reference's gone, Deliver, Drop, Double. -/
namespace Go.Proofs.Ytnkahibddhchlaa
open Go.RowKit
set_option linter.unusedVariables false

theorem map_pull {α β : Type} (f : α → β) : ∀ (l : List α) (j : Nat) (hj : j < l.length), (l.map f).Perm (f (l[j]'hj) :: (l.eraseIdx j).map f)
  | x :: l, 0, _ => .refl _
  | x :: l, j + 1, hj => ((map_pull f l j (by simpa using hj)).cons _).trans (.swap _ _ _)
theorem rgC_erase (gs : List RG) (i : Nat) : (rgC gs).take (i * 3) ++ (rgC gs).drop ((i + 1) * 3) = rgC (gs.eraseIdx i) := by
  induction gs generalizing i with
  | nil => simp [rgC]
  | cons x gs ih =>
    have e : rgC (x :: gs) = Value.int .i64 x.k.1 :: .int .i64 x.k.2 :: slV x.v :: rgC gs := rfl
    cases i with
    | zero => rw [e]; rfl
    | succ i =>
      rw [e, show (i + 1) * 3 = i * 3 + 1 + 1 + 1 by omega, show (i + 1 + 1) * 3 = (i + 1) * 3 + 1 + 1 + 1 by omega]
      simp only [List.take_succ_cons, List.drop_succ_cons, List.cons_append, List.eraseIdx_cons_succ]
      rw [ih i]
      rfl
theorem own_take {w : World} {e : TypeId} {g n c : Nat} {xs : List Value} (h : OwnK w 0 e 3 (.slice (some ⟨g, 0, none⟩) n c) n xs) {m : Nat} (hm : m ≤ n * 3) : Rd w (some ⟨g, 0, none⟩) (xs.take m).length (fun i => (xs.take m).getD i undef) := by
  rcases h.form with ⟨h1, _⟩ | ⟨g', cap', h1, _, _, _, _, hl, hc, _⟩
  · cases h1
  · cases h1
    intro i hi
    rw [List.length_take] at hi
    refine ⟨g, 0, rfl, ?_⟩
    rw [Nat.zero_add, hc i (by omega)]
    simp [List.getD_eq_getElem?_getD, show i < m by omega]
theorem own_drop {w : World} {e : TypeId} {g n c : Nat} {xs : List Value} (h : OwnK w 0 e 3 (.slice (some ⟨g, 0, none⟩) n c) n xs) {m o : Nat} (ho : o = m ∨ n * 3 ≤ m) : Rd w (some ⟨g, o, none⟩) (xs.drop m).length (fun i => (xs.drop m).getD i undef) := by
  rcases h.form with ⟨h1, _⟩ | ⟨g', cap', h1, _, _, _, _, hl, hc, _⟩
  · cases h1
  · cases h1
    intro i hi
    rw [List.length_drop] at hi
    refine ⟨g, o, rfl, ?_⟩
    rw [hc (o + i) (by omega)]
    rcases ho with rfl | ho
    · simp [List.getD_eq_getElem?_getD, List.getElem?_drop]
    · omega
theorem rgC_one (gs : List RG) : ∀ u ∈ rgC gs, u.oneCell' = true := by
  intro u hu
  unfold rgC at hu
  obtain ⟨g, _, hg⟩ := List.mem_flatMap.1 hu
  simp only [List.mem_cons, List.not_mem_nil, or_false] at hg
  rcases hg with rfl | rfl | rfl <;> rfl

section
variable {y : Nat} {n room : Nat} {t : Tf} {gs : List RG} {sl : Value} {L : List Pc} {w : World}
set_option maxHeartbeats 4000000 in
theorem rgone_c (H : SL w (rnP y n room sl t gs ++ L)) {i : Nat} (hi : i < gs.length) (hB : gs.length ≤ 2000000) :
    Calls Try.prog 46 #[ptrV y, .int .i64 (i : Nat)] w fun e w' => (∃ v, e = .returned v) ∧ ∃ sl', SL w' (rnP y n room sl' t (gs.eraseIdx i) ++ (rgP (gs[i]'hi) :: L)) := by
  obtain ⟨a, c, rfl, hcap, hcm, hnil, hat⟩ := rg_cells H (.there (.here _ _))
  obtain ⟨g, rfl, -⟩ := hat i hi
  have hlen := rgC_length gs
  have hone := Lib.hid (rgC_one gs)
  have herase := Lib.hid (rgC_erase gs i)
  have hjoin : Hid (∀ V sl', SL V (rgB y n room sl' t :: .own 91 3 sl' (gs.eraseIdx i).length (rgC (gs.eraseIdx i)) :: (gs.map rgP ++ L)) → SL V (rnP y n room sl' t (gs.eraseIdx i) ++ (rgP (gs[i]'hi) :: L))) := Lib.hid fun V sl' h => by
    refine h.perm ?_
    unfold rnP rgS
    refine (((map_pull rgP gs i hi).append_right L).cons _).cons _ |>.trans ?_
    exact ((List.perm_middle.symm).cons _).cons _
  rw [List.length_eraseIdx_of_lt hi] at hjoin
  obtain ⟨ln, hln⟩ : ∃ ln, gs.length = ln := ⟨_, rfl⟩
  have hH : Hid (SL w (.own 91 3 (.slice none 0 0) 0 [] :: .own 91 3 (.slice (some ⟨g, 0, none⟩) ln c) ln (rgC gs) :: rgB y n room (.slice (some ⟨g, 0, none⟩) ln c) t :: (gs.map rgP ++ L))) := Lib.hid (by
    have H' : SL w (rgB y n room (.slice (some ⟨g, 0, none⟩) ln c) t :: .own 91 3 (.slice (some ⟨g, 0, none⟩) ln c) ln (rgC gs) :: (gs.map rgP ++ L)) := by
      unfold rnP rgS at H
      rw [hln] at H
      exact H
    exact (H'.re (.step (.there (.here _ _)) (.same _))).pure (q := .own 91 3 (.slice none 0 0) 0 []) (OwnK.nil _ _ _ _) fun b h => by cases h)
  rw [hln] at hi hB hcap hlen hjoin
  obtain ⟨e, he⟩ : ∃ e, i + 1 = e := ⟨_, rfl⟩
  have hei : (i : Int) + 1 = (e : Int) := by omega
  rw [he] at herase
  have ht1 : Hid (((rgC gs).take (i * 3)).length = i * 3) := Lib.hid (by rw [List.length_take, hlen]; omega)
  have ht2 : Hid (((rgC gs).drop (e * 3)).length = (ln - e) * 3) := Lib.hid (by rw [List.length_drop, hlen, Nat.sub_mul])
  have hr1 : Hid (∀ V L', SL V (.own 91 3 (.slice (some ⟨g, 0, none⟩) ln c) ln (rgC gs) :: L') → Rd V (some ⟨g, 0, none⟩) ((rgC gs).take (i * 3)).length (fun j => ((rgC gs).take (i * 3)).getD j undef)) := Lib.hid fun V L' h => own_take (show OwnK V 0 _ 3 _ ln (rgC gs) from h.head) (by omega)
  have hr2 : Hid (∀ V L' o, (o = e * 3 ∨ ln = e) → SL V (.own 91 3 (.slice (some ⟨g, 0, none⟩) ln c) ln (rgC gs) :: L') → Rd V (some ⟨g, o, none⟩) ((rgC gs).drop (e * 3)).length (fun j => ((rgC gs).drop (e * 3)).getD j undef)) := Lib.hid fun V L' o ho h => own_drop (show OwnK V 0 _ 3 _ ln (rgC gs) from h.head) (by omega)
  have ho1 : Hid (∀ u ∈ (rgC gs).take (i * 3), u.oneCell' = true) := Lib.hid fun u hu => hone.out u (List.mem_of_mem_take hu)
  have ho2 : Hid (∀ u ∈ (rgC gs).drop (e * 3), u.oneCell' = true) := Lib.hid fun u hu => hone.out u (List.mem_of_mem_drop hu)
  have z0 := hH.out.cell (b := y) (o := 2) (.there (.there (.here _ _))) rfl
  clear H hone hlen hat hln hnil hcm
  generalize gs.map rgP ++ L = M at *
  have hil : i ≤ c := by omega
  have hel : e ≤ ln := by omega
  have hec : e ≤ c := by omega
  have he' := Lib.hid he
  clear he
  by_cases hc1 : c = e
  · have hln1 := Lib.hid (show ln = e by omega)
    unfold ptrV at *
    go_enter Try.func46, Try.ntmps46
    go_wp2_with (
      at_builtin
      first
      | (refine sl_app hH.out rfl _ _ _ rfl elemG _ rfl (.here _ _) ((rgC gs).take (i * 3)) rfl ht1.out (hr1.out _ _ hH.out.tail) ho1.out (by simp only [maxLen]; omega) (by omega) (fun h => by cases h) ?_
         intro v' w3 H3 hnil
         have H4 := Lib.hid H3
         clear hnil H3 z0 hH
         have z0 := H4.out.cell (b := y) (o := 2) (.there (.there (.here _ _))) rfl)
      | (refine sl_app H4.out rfl _ _ _ rfl elemG _ rfl (.here _ _) ((rgC gs).drop (e * 3)) rfl ht2.out (hr2.out _ _ _ (.inr hln1.out) H4.out.tail) ho2.out (by simp only [maxLen]; omega) (by omega) (fun h => by cases h) ?_
         intro v2 w4 H3 hnil
         obtain ⟨a2, c2, rfl, -⟩ := OwnK.slice H3.head
         generalize hz : 0 + i + (ln - e) = zl at *
         have hz2 := Lib.hid hz
         clear hz
         have H5 := Lib.hid H3
         clear hnil H3 z0 H4
         have f0 := H5.out.free (b := y) (.there (.there (.here _ _))) 2
         have z0 := H5.out.cell (b := y) (o := 2) (.there (.there (.here _ _))) rfl))
    have H6 := (H5.out.re (.step (.there (.there (.here _ _))) (.step (.here _ _) (.drop (.same _)))) : SL w4 (rgB y n room (.slice (some ⟨g, 0, none⟩) ln c) t :: _)).setCell 2 (.slice a2 zl c2)
    have hl2 : zl = ln - 1 := by have := he'.out; have := hz2.out; omega
    rw [List.nil_append, herase.out, hl2] at H6
    have H7 := Lib.hid (hjoin.out _ _ H6)
    rw [hl2]
    exact bodyPost_end (results_none rfl _ _ _) rfl ⟨⟨_, rfl⟩, _, H7.out⟩
  · have hc2 : ¬ c = e := hc1
    unfold ptrV at *
    go_enter Try.func46, Try.ntmps46
    go_wp2_with (
      at_builtin
      first
      | (refine sl_app hH.out rfl _ _ _ rfl elemG _ rfl (.here _ _) ((rgC gs).take (i * 3)) rfl ht1.out (hr1.out _ _ hH.out.tail) ho1.out (by simp only [maxLen]; omega) (by omega) (fun h => by cases h) ?_
         intro v' w3 H3 hnil
         have H4 := Lib.hid H3
         clear hnil H3 z0 hH
         have z0 := H4.out.cell (b := y) (o := 2) (.there (.there (.here _ _))) rfl)
      | (refine sl_app H4.out rfl _ _ _ rfl elemG _ rfl (.here _ _) ((rgC gs).drop (e * 3)) rfl ht2.out (hr2.out _ _ _ (.inl (by omega)) H4.out.tail) ho2.out (by simp only [maxLen]; omega) (by omega) (fun h => by cases h) ?_
         intro v2 w4 H3 hnil
         obtain ⟨a2, c2, rfl, -⟩ := OwnK.slice H3.head
         generalize hz : 0 + i + (ln - e) = zl at *
         have hz2 := Lib.hid hz
         clear hz
         have H5 := Lib.hid H3
         clear hnil H3 z0 H4
         have f0 := H5.out.free (b := y) (.there (.there (.here _ _))) 2
         have z0 := H5.out.cell (b := y) (o := 2) (.there (.there (.here _ _))) rfl))
    have H6 := (H5.out.re (.step (.there (.there (.here _ _))) (.step (.here _ _) (.drop (.same _)))) : SL w4 (rgB y n room (.slice (some ⟨g, 0, none⟩) ln c) t :: _)).setCell 2 (.slice a2 zl c2)
    have hl2 : zl = ln - 1 := by have := he'.out; have := hz2.out; omega
    rw [List.nil_append, herase.out, hl2] at H6
    have H7 := Lib.hid (hjoin.out _ _ H6)
    rw [hl2]
    exact bodyPost_end (results_none rfl _ _ _) rfl ⟨⟨_, rfl⟩, _, H7.out⟩
end
end Go.Proofs.Ytnkahibddhchlaa
/- The reference, told by what its ways hold. -/
namespace Go.Proofs.Ytnkahibddhchlaa
open Go.RowKit
set_option linter.unusedVariables false

theorem filt_append (l m : List (Ky × List Int)) (k : Ky) : filt (l ++ m) k = filt l k ++ filt m k := by simp [filt]
theorem filt_cons (x : Ky × List Int) (l : List (Ky × List Int)) (k : Ky) : filt (x :: l) k = (if x.1 = k then [x.2] else []) ++ filt l k := by
  unfold filt
  by_cases h : x.1 = k <;> simp [h]
theorem list_parts {α : Type} (l : List α) {i : Nat} (hi : i < l.length) : l = l.take i ++ l[i]'hi :: l.drop (i + 1) := by
  rw [← List.drop_eq_getElem_cons hi, List.take_append_drop]
theorem filt_at {l : List (Ky × List Int)} {i : Nat} (hi : i < l.length) {k : Ky} (hk : (l[i]'hi).1 = k) {m : Nat} (hm : (filt (l.take i) k).length = m) :
    m < (filt l k).length ∧ (filt l k).getD m [] = (l[i]'hi).2 ∧ filt (l.eraseIdx i) k = (filt l k).eraseIdx m ∧ ∀ k', k' ≠ k → filt (l.eraseIdx i) k' = filt l k' := by
  have e : filt l k = filt (l.take i) k ++ (l[i]'hi).2 :: filt (l.drop (i + 1)) k := by
    conv => lhs; rw [list_parts l hi]
    rw [filt_append, filt_cons, if_pos hk]
    rfl
  have e2 : l.eraseIdx i = l.take i ++ l.drop (i + 1) := List.eraseIdx_eq_take_drop_succ l i
  refine ⟨?_, ?_, ?_, fun k' hk' => ?_⟩
  · rw [e, List.length_append, hm, List.length_cons]; omega
  · rw [e, List.getD_eq_getElem?_getD, List.getElem?_append_right (by omega), hm, Nat.sub_self]
    rfl
  · rw [e, e2, filt_append, List.eraseIdx_append_of_length_le (by omega), hm, Nat.sub_self]
    rfl
  · rw [e2, filt_append]
    conv => rhs; rw [list_parts l hi]
    rw [filt_append, filt_cons, if_neg (by rw [hk]; exact fun h => hk' h.symm)]
    rfl

def RF (y : Nat) (s : NSt) (L : List Pc) (w : World) : Prop := ∃ r : RSt, RAt y r L w ∧ r.n = s.n ∧ r.room = s.room ∧ r.t = s.t ∧ (∀ k, filt r.l k = s.F k) ∧ ∀ x ∈ r.l, (0 ≤ x.1.1 ∧ x.1.1 < (s.n : Int)) ∧ (0 ≤ x.1.2 ∧ x.1.2 < (s.n : Int))

theorem sum_filt {K : List Ky} (hd : K.Nodup) (l : List (Ky × List Int)) (hl : ∀ x ∈ l, x.1 ∈ K) : (K.map fun k => (filt l k).length).sum = l.length := by
  induction l with
  | nil =>
    have : ∀ K : List Ky, (K.map fun k => (filt [] k).length).sum = 0 := by
      intro K
      induction K with
      | nil => rfl
      | cons k K ih => rw [List.map_cons, List.sum_cons, ih]; rfl
    exact this K
  | cons x l ih =>
    have h1 : ∀ K : List Ky, K.Nodup → (K.map fun k => (filt (x :: l) k).length).sum = (K.map fun k => (filt l k).length).sum + (if x.1 ∈ K then 1 else 0) := by
      intro K hK
      induction K with
      | nil => simp
      | cons k K ih2 =>
        obtain ⟨g1, g2⟩ := List.nodup_cons.1 hK
        rw [List.map_cons, List.sum_cons, List.map_cons, List.sum_cons, ih2 g2, filt_cons]
        by_cases e : x.1 = k
        · subst e
          rw [if_pos rfl, if_neg g1, if_pos (by simp), List.length_append, List.length_singleton]
          omega
        · rw [if_neg e, List.nil_append]
          by_cases e2 : x.1 ∈ K
          · rw [if_pos e2, if_pos (by simp [e2])]; omega
          · rw [if_neg e2, if_neg (by simp [e, e2])]; omega
    rw [h1 K hd, ih (fun y hy => hl y (by simp [hy])), if_pos (hl x (by simp)), List.length_cons]
theorem RF.len {r : RSt} {s : NSt} (hF : ∀ k, filt r.l k = s.F k) (hk : ∀ x ∈ r.l, (0 ≤ x.1.1 ∧ x.1.1 < (s.n : Int)) ∧ (0 ≤ x.1.2 ∧ x.1.2 < (s.n : Int))) : r.l.length = allF s.n s.F := by
  rw [allF_eq, ← sum_filt (allK_nodup s.n) r.l fun x hx => mem_allK (hk x hx).1 (hk x hx).2]
  congr 1
  apply List.map_congr_left
  intro k _
  rw [hF]

theorem atis_yes {l : List (Ky × List Int)} {k : Ky} {j r : Int} (h : AtIs l k j r) (hj : 0 ≤ j ∧ j < (filt l k).length) : ∃ i : Nat, r = i ∧ ∃ hi : i < l.length, (l[i]'hi).1 = k ∧ (filt (l.take i) k).length = j.toNat := by
  rcases h with ⟨_, h⟩ | ⟨i, h1, hi, h2, _, h3⟩
  · exact absurd hj h
  · exact ⟨i, h1, hi, h2, h3⟩
theorem atis_no {l : List (Ky × List Int)} {k : Ky} {j r : Int} (h : AtIs l k j r) (hj : ¬ (0 ≤ j ∧ j < (filt l k).length)) : r = -1 := by
  rcases h with ⟨h, _⟩ | ⟨i, h1, hi, h2, h4, h3⟩
  · exact h
  · have := (filt_at hi h2 h3).1
    exact absurd ⟨h4, by omega⟩ hj

section
variable {y : Nat} {s : NSt} {L : List Pc} {w : World}
/-- One that is gone. -/
theorem RF.gone {r : RSt} {k : Ky} {j : Int} (hF : ∀ k, filt r.l k = s.F k) (hk : ∀ x ∈ r.l, (0 ≤ x.1.1 ∧ x.1.1 < (s.n : Int)) ∧ (0 ≤ x.1.2 ∧ x.1.2 < (s.n : Int))) {i : Nat} (hi : i < r.l.length) (h1 : (r.l[i]'hi).1 = k) (h2 : (filt (r.l.take i) k).length = j.toNat) :
    (∀ k', filt (r.l.eraseIdx i) k' = upd s.F k ((s.F k).eraseIdx j.toNat) k') ∧ (r.l[i]'hi).2 = (s.F k).getD j.toNat [] ∧ ∀ x ∈ r.l.eraseIdx i, (0 ≤ x.1.1 ∧ x.1.1 < (s.n : Int)) ∧ (0 ≤ x.1.2 ∧ x.1.2 < (s.n : Int)) := by
  obtain ⟨e1, e2, e3, e4⟩ := filt_at hi h1 h2
  refine ⟨fun k' => ?_, by rw [← hF, e2], fun x hx => hk x (List.mem_of_mem_eraseIdx hx)⟩
  by_cases e : k' = k
  · subst e
    rw [upd_self, e3, hF]
  · rw [upd_other _ _ e, e4 _ e, hF]

theorem rf_at (H : RF y s L w) (hA : allF s.n s.F ≤ 1048576) (a b j : Int) : Calls Try.prog 45 #[ptrV y, .int .i64 a, .int .i64 b, .int .i64 j] w fun e w' => ∃ r, e = .returned (.int .i64 r) ∧ w = w' ∧ (r < 0 ↔ s.has a b j = false) := by
  obtain ⟨r, HR, hn, hroom, ht, hF, hk⟩ := H
  obtain ⟨a0, c0, R⟩ := HR.rd
  refine (rat_w R (by rw [RF.len hF hk]; omega) a b j).mono ?_
  rintro e w' ⟨v, rfl, h, rfl⟩
  refine ⟨v, rfl, rfl, ?_⟩
  unfold NSt.has
  rw [← hF, decide_eq_false_iff_not]
  rcases h with ⟨h1, h2⟩ | ⟨i, h1, hi, h2, h4, h3⟩
  · exact ⟨fun _ => h2, fun _ => by omega⟩
  · have := (filt_at hi h2 h3).1
    exact ⟨fun h => by omega, fun h => absurd ⟨h4, by omega⟩ h⟩

set_option maxHeartbeats 4000000 in
theorem rf_deliver_yes (H : RF y s L w) (ht0 : Tok 900000000 s.t) (hA : allF s.n s.F ≤ 1048576) {a b j : Int} (hh : s.has a b j = true) :
    Calls Try.prog 27 #[ptrV y, .int .i64 a, .int .i64 b, .int .i64 j] w fun e w' => ∃ v, e = .returned (.tuple #[slV v, .int .i64 0]) ∧ RF y { s.gone a b j with t := { s.t with delivered := s.t.delivered + 1 } } (grP ⟨v, s.the a b j⟩ :: L) w' := by
  obtain ⟨r, HR, hn, hroom, ht, hF, hk⟩ := H
  obtain ⟨a0, c0, R⟩ := HR.rd
  have hB : r.l.length ≤ 2000000 := by rw [RF.len hF hk]; omega
  have hat := Lib.hid (rat_w R hB a b j)
  have hj := of_decide_eq_true hh
  rw [← hF] at hj
  have hgo : Hid (∀ v, AtIs r.l (a, b) j v → ∃ i : Nat, v = i ∧ ∃ hi : i < r.l.length, (∀ k', filt (r.l.eraseIdx i) k' = upd s.F (a, b) ((s.F (a, b)).eraseIdx j.toNat) k') ∧ (r.l[i]'hi).2 = (s.F (a, b)).getD j.toNat [] ∧ ∀ x ∈ r.l.eraseIdx i, (0 ≤ x.1.1 ∧ x.1.1 < (s.n : Int)) ∧ (0 ≤ x.1.2 ∧ x.1.2 < (s.n : Int))) := Lib.hid fun v hv => by
    obtain ⟨i, e1, hi, e2, e3⟩ := atis_yes hv hj
    exact ⟨i, e1, hi, RF.gone hF hk hi e2 e3⟩
  obtain ⟨q0, q1⟩ := ht0.delivered
  rw [← ht] at q0 q1
  obtain ⟨rn, rroom, rt, rl⟩ := r
  dsimp only at *
  have hfin : Hid (∀ V i sl' gs', (∀ k', filt (rl.eraseIdx i) k' = upd s.F (a, b) ((s.F (a, b)).eraseIdx j.toNat) k') → (∀ x ∈ rl.eraseIdx i, (0 ≤ x.1.1 ∧ x.1.1 < (s.n : Int)) ∧ (0 ≤ x.1.2 ∧ x.1.2 < (s.n : Int))) → ∀ L', SL V (rnP y rn rroom sl' { rt with delivered := rt.delivered + 1 } gs' ++ L') → gs'.map RG.m = rl.eraseIdx i →
      RF y { s.gone a b j with t := { s.t with delivered := s.t.delivered + 1 } } L' V) := Lib.hid fun V i sl' gs' h1 h2 L' h3 h4 =>
    ⟨⟨rn, rroom, { rt with delivered := rt.delivered + 1 }, rl.eraseIdx i⟩, ⟨sl', gs', h3, h4⟩, hn, hroom, by dsimp only; rw [ht], h1, h2⟩
  obtain ⟨sl, gs, HS, hgs⟩ := HR
  dsimp only at HS hgs
  have hgl : gs.length = rl.length := by rw [← hgs]; simp
  have hat' := R.at'
  have hsl := R.sl
  dsimp only at hat' hsl
  have hHS := Lib.hid HS
  have hRat := Lib.hid hat'
  have hslE : sl = .slice a0 rl.length c0 := by
    have := HS.cell (b := y) (o := 2) (.here _ _) rfl
    rw [hsl] at this
    exact (Option.some.inj this).symm
  have hslE' := Lib.hid hslE
  have hcellV : Hid (∀ i (hi : i < gs.length), ∃ g, a0 = some ⟨g, 0, none⟩ ∧ w.cell? ⟨g, i * 3 + 2, none⟩ = some (slV (gs[i]'hi).v)) := Lib.hid fun i hi => by
    obtain ⟨a1, c1, e1, -, -, -, h⟩ := rg_cells HS (.there (.here _ _))
    obtain ⟨g, e2, -, -, e3⟩ := h i hi
    rw [hslE] at e1
    simp only [Value.slice.injEq] at e1
    obtain ⟨rfl, -, -⟩ := e1
    exact ⟨g, e2, e3⟩
  have hm' : Hid (∀ i (hi : i < gs.length) (hi2 : i < rl.length), rl[i]'hi2 = (gs[i]'hi).m) := Lib.hid fun i hi hi2 => by simp [← hgs]
  have hme : Hid (∀ i, (gs.eraseIdx i).map RG.m = rl.eraseIdx i) := Lib.hid fun i => by rw [← hgs, eraseIdx_map']
  obtain ⟨ln, hln⟩ : ∃ ln, rl.length = ln := ⟨_, rfl⟩
  rw [hln] at hsl hgl hB
  have hln' := Lib.hid hln
  have hgl' := Lib.hid hgl
  clear HS hat' R hgs hh hj hn hroom ht hF hk hslE hln hgl ht0
  unfold ptrV at *
  go_enter Try.func27, Try.ntmps27
  go_wp2_with fail
  refine hat.out.mono ?_
  rintro e w2 ⟨v, rfl, hv, rfl⟩
  obtain ⟨i, rfl, hi, g1, g2, g3⟩ := hgo.out v hv
  clear hat hgo hv
  have hi2 : i < ln := by rw [← hln'.out]; exact hi
  have hig : i < gs.length := by rw [hgl'.out]; exact hi2
  obtain ⟨g, rfl, hcv⟩ := hcellV.out i hig
  have hgone := Lib.hid (rgone_c hHS.out hig (by rw [hgl'.out]; exact hB))
  have hmi := hm'.out i hig hi
  have hg2 : Hid ((gs[i]'hig).bs = s.the a b j) := Lib.hid (by unfold NSt.the; rw [← g2, hmi]; rfl)
  have hg1 := Lib.hid g1
  have hg3 := Lib.hid g3
  have hmei := Lib.hid (hme.out i)
  clear hcellV hHS hRat hm' hme g1 g2 g3 hmi hslE'
  unfold rgP at hgone
  rw [hg2.out] at hgone
  generalize (gs[i]'hig).v = v at *
  obtain ⟨va, vn, vc⟩ := v
  generalize gs.eraseIdx i = gs' at *
  clear hg2 hig hi
  unfold slV at *
  dsimp only at *
  unfold ptrV at *
  go_wp2_with fail
  refine hgone.out.mono ?_
  rintro e w3 ⟨⟨v0, rfl⟩, sl', H3⟩
  have c5 := H3.cell (b := y) (o := 5) (.here _ _) rfl
  have f5 := H3.free (b := y) (.here _ _) 5
  have H4 := Lib.hid (hfin.out (w3.setCell ⟨y, 5, none⟩ (.int .i64 (rt.delivered + 1))) i sl' gs' hg1.out hg3.out _ ((show SL w3 (rgB y rn rroom sl' rt :: _) from H3).setCell 5 (.int .i64 (rt.delivered + 1))) hmei.out)
  clear hgone H3 hfin hg1 hg3 hmei hsl hcv
  go_wp2_with fail
  go_ret2
  exact ⟨(va, vn, vc), rfl, H4.out⟩
end
end Go.Proofs.Ytnkahibddhchlaa
/- The reference, told by what its ways hold: Send, Drop, Double; where there is none. -/
namespace Go.Proofs.Ytnkahibddhchlaa
open Go.RowKit
set_option linter.unusedVariables false

section
variable {y : Nat} {s : NSt} {L : List Pc} {w : World}
theorem rf_deliver_no (H : RF y s L w) (hA : allF s.n s.F ≤ 1048576) {a b j : Int} (hh : s.has a b j = false) :
    Calls Try.prog 27 #[ptrV y, .int .i64 a, .int .i64 b, .int .i64 j] w fun e w' => e = .returned (.tuple #[.slice none 0 0, .int .i64 170]) ∧ w = w' := by
  have hat := Lib.hid (rf_at H hA a b j)
  clear H hA
  unfold ptrV at *
  go_enter Try.func27, Try.ntmps27
  go_wp2_with fail
  refine hat.out.mono ?_
  rintro e w2 ⟨v, rfl, rfl, hv⟩
  have hv2 := hv.2 hh
  clear hat hv hh
  go_wp2_with fail
  go_ret2
  exact ⟨rfl, rfl⟩
theorem rf_drop_no (H : RF y s L w) (hA : allF s.n s.F ≤ 1048576) {a b j : Int} (hh : s.has a b j = false) :
    Calls Try.prog 41 #[ptrV y, .int .i64 a, .int .i64 b, .int .i64 j] w fun e w' => e = .returned (.int .i64 170) ∧ w = w' := by
  have hat := Lib.hid (rf_at H hA a b j)
  clear H hA
  unfold ptrV at *
  go_enter Try.func41, Try.ntmps41
  go_wp2_with fail
  refine hat.out.mono ?_
  rintro e w2 ⟨v, rfl, rfl, hv⟩
  have hv2 := hv.2 hh
  clear hat hv hh
  go_wp2_with fail
  go_ret
  exact ⟨rfl, rfl⟩
theorem rf_double_no (H : RF y s L w) (hA : allF s.n s.F ≤ 1048576) {a b j : Int} (hh : s.has a b j = false) :
    Calls Try.prog 42 #[ptrV y, .int .i64 a, .int .i64 b, .int .i64 j] w fun e w' => e = .returned (.int .i64 170) ∧ w = w' := by
  have hat := Lib.hid (rf_at H hA a b j)
  clear H hA
  unfold ptrV at *
  go_enter Try.func42, Try.ntmps42
  go_wp2_with fail
  refine hat.out.mono ?_
  rintro e w2 ⟨v, rfl, rfl, hv⟩
  have hv2 := hv.2 hh
  clear hat hv hh
  go_wp2_with fail
  go_ret
  exact ⟨rfl, rfl⟩
theorem rf_flip_no (H : RF y s L w) (hA : allF s.n s.F ≤ 1048576) {a b j : Int} (bit : Int) (hh : s.has a b j = false) :
    Calls Try.prog 43 #[ptrV y, .int .i64 a, .int .i64 b, .int .i64 j, .int .i64 bit] w fun e w' => e = .returned (.int .i64 170) ∧ w = w' := by
  have hat := Lib.hid (rf_at H hA a b j)
  clear H hA
  unfold ptrV at *
  go_enter Try.func43, Try.ntmps43
  go_wp2_with fail
  refine hat.out.mono ?_
  rintro e w2 ⟨v, rfl, rfl, hv⟩
  have hv2 := hv.2 hh
  clear hat hv hh
  go_wp2_with fail
  go_ret
  exact ⟨rfl, rfl⟩

/-- One that comes. -/
theorem rf_come {r : RSt} {k : Ky} (bs : List Int) (hroom : r.room = s.room) (ht : r.t = s.t) (hn : r.n = s.n) (hF : ∀ k, filt r.l k = s.F k) (hk : ∀ x ∈ r.l, (0 ≤ x.1.1 ∧ x.1.1 < (s.n : Int)) ∧ (0 ≤ x.1.2 ∧ x.1.2 < (s.n : Int))) (h1 : 0 ≤ k.1 ∧ k.1 < (s.n : Int)) (h2 : 0 ≤ k.2 ∧ k.2 < (s.n : Int))
    (H : RAt y (r.come k bs) L w) : RF y (s.come k bs) L w := by
  refine ⟨_, H, ?_⟩
  unfold RSt.come NSt.come comeT comeF
  rw [hF, hroom]
  by_cases h : (s.F k).length < s.room
  · rw [if_pos h, if_pos h, if_pos h]
    refine ⟨hn, rfl, ht, fun k' => ?_, fun x hx => ?_⟩
    · dsimp only
      rw [filt_snoc, hF]
      unfold upd
      by_cases e : k' = k
      · subst e; rw [if_pos rfl, if_pos rfl]
      · rw [if_neg e, if_neg (fun h => e h.symm), List.append_nil]
    · rcases List.mem_append.1 hx with hx | hx
      · exact hk x hx
      · rw [List.mem_singleton] at hx
        subst hx
        exact ⟨h1, h2⟩
  · rw [if_neg h, if_neg h, if_neg h]
    exact ⟨hn, rfl, by dsimp only; rw [ht], hF, hk⟩

theorem rf_send (H : RF y s L w) (ht0 : Tok 900000000 s.t) (hA : allF s.n s.F ≤ 1048576) (a b : Int) (sa : Option Addr) (sc : Nat) (bs : List Int) (hbl : bs.length ≤ 1100) (hr : ∀ V, SL V L → RdB V sa bs ∧ (sa = none → sc = 0)) :
    Calls Try.prog 39 #[ptrV y, .int .i64 a, .int .i64 b, .slice sa bs.length sc] w fun e w' => e = .returned (.int .i64 (s.send a b bs).1) ∧ RF y (s.send a b bs).2 L w' := by
  obtain ⟨r, HR, hn, hroom, ht, hF, hk⟩ := H
  refine (rsend_c HR (by rw [ht]; exact ht0) (by rw [RF.len hF hk]; omega) a b sa sc bs hbl hr).mono ?_
  rintro e w' ⟨rfl, h⟩
  unfold RSt.send at h ⊢
  unfold NSt.send
  have e : (r.okB a b ∧ bs.length ≤ 1024) ↔ (s.okB a b = true ∧ bs.length ≤ 1024) := by
    unfold RSt.okB NSt.okB
    rw [hn]
    simp [and_assoc]
  by_cases hc : s.okB a b = true ∧ bs.length ≤ 1024
  · rw [if_pos hc]
    rw [if_pos (e.2 hc)] at h ⊢
    have h1 := (e.2 hc).1
    unfold RSt.okB at h1
    rw [hn] at h1
    refine ⟨rfl, ?_⟩
    exact rf_come (s := { s with t := { s.t with sent := s.t.sent + 1 } }) (r := { r with t := { r.t with sent := r.t.sent + 1 } }) bs hroom (by dsimp only; rw [ht]) hn hF hk h1.1 h1.2.1 h
  · rw [if_neg hc]
    rw [if_neg (fun h => hc (e.1 h))] at h ⊢
    exact ⟨rfl, r, h, hn, hroom, ht, hF, hk⟩

set_option maxHeartbeats 4000000 in
theorem rf_drop_yes (H : RF y s L w) (ht0 : Tok 900000000 s.t) (hA : allF s.n s.F ≤ 1048576) {a b j : Int} (hh : s.has a b j = true) :
    Calls Try.prog 41 #[ptrV y, .int .i64 a, .int .i64 b, .int .i64 j] w fun e w' => e = .returned (.int .i64 0) ∧ RF y { s.gone a b j with t := { s.t with dropped := s.t.dropped + 1 } } L w' := by
  obtain ⟨r, HR, hn, hroom, ht, hF, hk⟩ := H
  obtain ⟨a0, c0, R⟩ := HR.rd
  have hB : r.l.length ≤ 2000000 := by rw [RF.len hF hk]; omega
  have hat := Lib.hid (rat_w R hB a b j)
  have hj := of_decide_eq_true hh
  rw [← hF] at hj
  have hgo : Hid (∀ v, AtIs r.l (a, b) j v → ∃ i : Nat, v = i ∧ ∃ hi : i < r.l.length, (∀ k', filt (r.l.eraseIdx i) k' = upd s.F (a, b) ((s.F (a, b)).eraseIdx j.toNat) k') ∧ (r.l[i]'hi).2 = (s.F (a, b)).getD j.toNat [] ∧ ∀ x ∈ r.l.eraseIdx i, (0 ≤ x.1.1 ∧ x.1.1 < (s.n : Int)) ∧ (0 ≤ x.1.2 ∧ x.1.2 < (s.n : Int))) := Lib.hid fun v hv => by
    obtain ⟨i, e1, hi, e2, e3⟩ := atis_yes hv hj
    exact ⟨i, e1, hi, RF.gone hF hk hi e2 e3⟩
  obtain ⟨q0, q1⟩ := ht0.dropped
  rw [← ht] at q0 q1
  obtain ⟨rn, rroom, rt, rl⟩ := r
  dsimp only at *
  have hfin : Hid (∀ V i sl' gs', (∀ k', filt (rl.eraseIdx i) k' = upd s.F (a, b) ((s.F (a, b)).eraseIdx j.toNat) k') → (∀ x ∈ rl.eraseIdx i, (0 ≤ x.1.1 ∧ x.1.1 < (s.n : Int)) ∧ (0 ≤ x.1.2 ∧ x.1.2 < (s.n : Int))) → ∀ L', SL V (rnP y rn rroom sl' { rt with dropped := rt.dropped + 1 } gs' ++ L') → gs'.map RG.m = rl.eraseIdx i →
      RF y { s.gone a b j with t := { s.t with dropped := s.t.dropped + 1 } } L' V) := Lib.hid fun V i sl' gs' h1 h2 L' h3 h4 =>
    ⟨⟨rn, rroom, { rt with dropped := rt.dropped + 1 }, rl.eraseIdx i⟩, ⟨sl', gs', h3, h4⟩, hn, hroom, by dsimp only; rw [ht], h1, h2⟩
  obtain ⟨sl, gs, HS, hgs⟩ := HR
  dsimp only at HS hgs
  have hgl : gs.length = rl.length := by rw [← hgs]; simp
  have hHS := Lib.hid HS
  have hme : Hid (∀ i, (gs.eraseIdx i).map RG.m = rl.eraseIdx i) := Lib.hid fun i => by rw [← hgs, eraseIdx_map']
  have hgl' := Lib.hid hgl
  clear HS R hgs hh hj hn hroom ht hF hk hgl ht0
  unfold ptrV at *
  go_enter Try.func41, Try.ntmps41
  go_wp2_with fail
  refine hat.out.mono ?_
  rintro e w2 ⟨v, rfl, hv, rfl⟩
  obtain ⟨i, rfl, hi, g1, g2, g3⟩ := hgo.out v hv
  clear hat hgo hv
  have hig : i < gs.length := by rw [hgl'.out]; exact hi
  have hgone := Lib.hid (rgone_c hHS.out hig (by rw [hgl'.out]; exact hB))
  have hg1 := Lib.hid g1
  have hg3 := Lib.hid g3
  have hmei := Lib.hid (hme.out i)
  clear hHS hme g1 g2 g3 hB
  generalize gs.eraseIdx i = gs' at *
  generalize rgP (gs[i]'hig) = pp at *
  clear hig hi
  unfold ptrV at *
  go_wp2_with fail
  refine hgone.out.mono ?_
  rintro e w3 ⟨⟨v0, rfl⟩, sl', H3⟩
  have c5 := H3.cell (b := y) (o := 6) (.here _ _) rfl
  have f5 := H3.free (b := y) (.here _ _) 6
  have H4 := Lib.hid (hfin.out (w3.setCell ⟨y, 6, none⟩ (.int .i64 (rt.dropped + 1))) i sl' gs' hg1.out hg3.out L (((show SL w3 (rgB y rn rroom sl' rt :: _) from H3).setCell 6 (.int .i64 (rt.dropped + 1))).re (re_app (rnP y rn rroom sl' { rt with dropped := rt.dropped + 1 } gs') (.drop (.same _)))) hmei.out)
  clear hgone H3 hfin hg1 hg3 hmei
  go_wp2_with fail
  go_ret
  exact ⟨rfl, H4.out⟩
end
end Go.Proofs.Ytnkahibddhchlaa
/- The reference, told by what its ways hold: Double, Flip. -/
namespace Go.Proofs.Ytnkahibddhchlaa
open Go.RowKit
set_option linter.unusedVariables false

theorem pull_mem {p : Pc} : ∀ {L : List Pc}, p ∈ L → ∃ L', Pull L p L'
  | x :: L, h => by
    rcases List.mem_cons.1 h with rfl | h
    · exact ⟨L, .here _ _⟩
    · obtain ⟨L', h'⟩ := pull_mem h
      exact ⟨_, .there h'⟩
theorem rn_gr {V : World} {y : Nat} {n room : Int} {sl : Value} {t : Tf} {gs : List RG} {L : List Pc} (H : SL V (rnP y n room sl t gs ++ L)) {i : Nat} (hi : i < gs.length) :
    ∃ va vc, (gs[i]'hi).v = (va, (gs[i]'hi).bs.length, vc) ∧ RdB V va (gs[i]'hi).bs ∧ (va = none → vc = 0) := by
  have : rgP (gs[i]'hi) ∈ rnP y n room sl t gs ++ L := by
    unfold rnP
    simp only [List.cons_append, List.mem_cons, List.mem_append, List.mem_map]
    exact .inr (.inr (.inl ⟨_, List.getElem_mem hi, rfl⟩))
  obtain ⟨L', hp⟩ := pull_mem this
  obtain ⟨va, vc, e1, e2, e3, -⟩ := gr_slice (g := ⟨(gs[i]'hi).v, (gs[i]'hi).bs⟩) H hp
  exact ⟨va, vc, e1, e3, e2⟩

section
variable {y : Nat} {s : NSt} {L : List Pc} {w : World}
set_option maxHeartbeats 4000000 in
theorem rf_double_yes (H : RF y s L w) (ht0 : Tok 900000000 s.t) (hA : allF s.n s.F ≤ 1048576) {a b j : Int} (hh : s.has a b j = true) (hb : (s.the a b j).length ≤ 1100) (hab : (0 ≤ a ∧ a < (s.n : Int)) ∧ (0 ≤ b ∧ b < (s.n : Int))) :
    Calls Try.prog 42 #[ptrV y, .int .i64 a, .int .i64 b, .int .i64 j] w fun e w' => e = .returned (.int .i64 0) ∧ RF y (s.double a b j) L w' := by
  obtain ⟨r, HR, hn, hroom, ht, hF, hk⟩ := H
  obtain ⟨a0, c0, R⟩ := HR.rd
  have hB : r.l.length ≤ 2000000 := by rw [RF.len hF hk]; omega
  have hat := Lib.hid (rat_w R hB a b j)
  have hj := of_decide_eq_true hh
  rw [← hF] at hj
  have hgo : Hid (∀ v, AtIs r.l (a, b) j v → ∃ i : Nat, v = i ∧ ∃ hi : i < r.l.length, (r.l[i]'hi).2 = s.the a b j) := Lib.hid fun v hv => by
    obtain ⟨i, e1, hi, e2, e3⟩ := atis_yes hv hj
    exact ⟨i, e1, hi, (RF.gone hF hk hi e2 e3).2.1⟩
  have ht1 : Tok 1000000000 { s.t with doubled := s.t.doubled + 1 } := by
    obtain ⟨h1, h2, h3, h4, h5, h6⟩ := ht0
    constructor <;> dsimp only <;> omega
  obtain ⟨q0, q1⟩ := ht0.doubled
  rw [← ht] at q0 q1 ht1
  obtain ⟨rn, rroom, rt, rl⟩ := r
  dsimp only at *
  have hfin : Hid (∀ V bs, bs = s.the a b j → RAt y ((⟨rn, rroom, { rt with doubled := rt.doubled + 1 }, rl⟩ : RSt).come (a, b) bs) L V → RF y (s.double a b j) L V) := Lib.hid fun V bs e h => by
    subst e
    exact rf_come (s := { s with t := { s.t with doubled := s.t.doubled + 1 } }) (r := ⟨rn, rroom, { rt with doubled := rt.doubled + 1 }, rl⟩) (s.the a b j) hroom (by dsimp only; rw [ht]) hn hF hk hab.1 hab.2 h
  obtain ⟨sl, gs, HS, hgs⟩ := HR
  dsimp only at HS hgs
  have hgl : gs.length = rl.length := by rw [← hgs]; simp
  obtain ⟨a1, c1, rfl, -, -, -, hcl⟩ := rg_cells HS (.there (.here _ _))
  have hcl' := Lib.hid hcl
  have hm' : Hid (∀ i (hi : i < gs.length) (hi2 : i < rl.length), (rl[i]'hi2).2 = (gs[i]'hi).bs) := Lib.hid fun i hi hi2 => by simp [← hgs, RG.m]
  have hcome := Lib.hid (fun V sa sc bs hbl (h : SL V (rnP y rn rroom (.slice a1 gs.length c1) { rt with doubled := rt.doubled + 1 } gs ++ L)) hr => rcome_s (s := ⟨rn, rroom, { rt with doubled := rt.doubled + 1 }, rl⟩) h hgs ht1 hB a b sa sc bs hbl hr)
  have c2 := HS.cell (b := y) (o := 2) (.here _ _) rfl
  have c4 := HS.cell (b := y) (o := 4) (.here _ _) rfl
  have f4 := HS.free (b := y) (.here _ _) 4
  have hHS := Lib.hid HS
  obtain ⟨ln, hln⟩ : ∃ ln, gs.length = ln := ⟨_, rfl⟩
  rw [hln] at hgl c2 hcome hHS
  have hln' := Lib.hid hln
  have hgl' := Lib.hid hgl
  clear HS R hgs hh hj hn hroom ht hF hk hln hgl ht0 hcl ht1 hA
  unfold ptrV at *
  go_enter Try.func42, Try.ntmps42
  go_wp2_with fail
  refine hat.out.mono ?_
  rintro e w2 ⟨v, rfl, hv, rfl⟩
  obtain ⟨i, rfl, hi, g1⟩ := hgo.out v hv
  clear hat hgo hv
  have hi2 : i < ln := by rw [hgl'.out]; exact hi
  have hig : i < gs.length := by rw [hln'.out]; exact hi2
  obtain ⟨g, rfl, -, -, hcv⟩ := hcl'.out i hig
  have hg : Hid ((gs[i]'hig).bs = s.the a b j) := Lib.hid (by rw [← hm'.out i hig hi]; exact g1)
  have hgr := Lib.hid (fun V (h : SL V (rnP y rn rroom (.slice (some ⟨g, 0, none⟩) ln c1) { rt with doubled := rt.doubled + 1 } gs ++ L)) => rn_gr h hig)
  have H2 := (show SL w (rgB y rn rroom (.slice (some ⟨g, 0, none⟩) ln c1) rt :: _) from hHS.out).setCell 4 (.int .i64 (rt.doubled + 1))
  obtain ⟨va, vc, hv0, -, -⟩ := hgr.out _ H2
  have hgr2 : Hid (∀ V, SL V (rnP y rn rroom (.slice (some ⟨g, 0, none⟩) ln c1) { rt with doubled := rt.doubled + 1 } gs ++ L) → RdB V va (gs[i]'hig).bs ∧ (va = none → vc = 0)) := Lib.hid fun V h => by
    obtain ⟨va', vc', e, h1, h2⟩ := hgr.out V h
    rw [hv0] at e
    cases e
    exact ⟨h1, h2⟩
  have hc2 := Lib.hid (hcome.out _ va vc (gs[i]'hig).bs (by rw [hg.out]; exact hb) H2 hgr2.out)
  have hfin2 := Lib.hid (fun V => hfin.out V _ hg.out)
  rw [hv0] at hcv
  clear hcl' hHS hm' hcome hgr H2 hgr2 g1 hg hv0 hfin hB hb hab
  generalize (gs[i]'hig).bs = bs at *
  clear hig hi
  unfold slV at *
  dsimp only at *
  generalize bs.length = bl at *
  go_wp2_with fail
  refine hc2.out.mono ?_
  rintro e w3 ⟨⟨v0, rfl⟩, h3⟩
  have hfin3 := Lib.hid (hfin2.out _ h3)
  clear hc2 h3 hfin2
  go_wp2_with fail
  go_ret
  exact ⟨rfl, hfin3.out⟩
end
end Go.Proofs.Ytnkahibddhchlaa
/- The reference, told by what its ways hold: Flip. -/
namespace Go.Proofs.Ytnkahibddhchlaa
open Go.RowKit
set_option linter.unusedVariables false

theorem own_storeK {w : World} {L : List Pc} {e : TypeId} {k g n c : Nat} {xs : List Value} (H : SL w (.own e k (.slice (some ⟨g, 0, none⟩) n c) n xs :: L)) (i : Nat) (u : Value) :
    SL (w.setCell ⟨g, i, none⟩ u) (.own e k (.slice (some ⟨g, 0, none⟩) n c) n (xs.set i u) :: L) := by
  have h : OwnK w 0 e k (.slice (some ⟨g, 0, none⟩) n c) n xs := H.head
  refine H.upd (Kp.setCell (S := (Pc.own e k (.slice (some ⟨g, 0, none⟩) n c) n xs).foot) (Kp.refl _ w) (p := ⟨g, i, none⟩) (.inl (show some g = some g from rfl)) u) ?_ fun x hx => .inl hx
  obtain ⟨hl, h⟩ := h
  rcases h with ⟨h, _⟩ | ⟨g', cap', cur, hv, hb, hg, hn, hm, hs, ht⟩
  · cases h
  · cases hv
    refine ⟨by simpa using hl, .inr ⟨g, c, cur.setIfInBounds i u, rfl, hb, blk_setCell hg i u, hn, hm, by simpa using hs, ?_⟩⟩
    rw [Array.toList_setIfInBounds, List.take_set, ht]
theorem rgC_set (gs : List RG) (i : Nat) (hi : i < gs.length) (v : SlT) (bs : List Int) : (rgC gs).set (i * 3 + 2) (slV v) = rgC (gs.set i ⟨(gs[i]'hi).k, v, bs⟩) := by
  induction gs generalizing i with
  | nil => simp at hi
  | cons x gs ih =>
    have e : rgC (x :: gs) = Value.int .i64 x.k.1 :: .int .i64 x.k.2 :: slV x.v :: rgC gs := rfl
    cases i with
    | zero => rfl
    | succ i =>
      rw [e, show (i + 1) * 3 + 2 = (i * 3 + 2) + 1 + 1 + 1 by omega]
      simp only [List.set_cons_succ, List.getElem_cons_succ]
      rw [ih i (by simpa using hi)]
      rfl
theorem set_pull {α β : Type} (f : α → β) (l : List α) (j : Nat) (hj : j < l.length) (x : α) : ((l.set j x).map f).Perm (f x :: (l.eraseIdx j).map f) := by
  have h := map_pull f (l.set j x) j (by simpa using hj)
  rw [List.getElem_set_self, List.eraseIdx_set_eq] at h
  exact h
theorem filt_set {l : List (Ky × List Int)} {i : Nat} (hi : i < l.length) {k : Ky} (hk : (l[i]'hi).1 = k) {m : Nat} (hm : (filt (l.take i) k).length = m) (nb : List Int) :
    ∀ k', filt (l.set i (k, nb)) k' = if k' = k then (filt l k).set m nb else filt l k' := by
  intro k'
  have e2 : l.set i (k, nb) = l.take i ++ (k, nb) :: l.drop (i + 1) := by rw [List.set_eq_take_append_cons_drop, if_pos hi]
  by_cases e : k' = k
  · subst e
    rw [if_pos rfl, e2, filt_append, filt_cons, if_pos rfl]
    conv => rhs; rw [list_parts l hi]
    rw [filt_append, filt_cons, if_pos hk, List.set_append_right _ _ (by omega), hm, Nat.sub_self]
    rfl
  · rw [if_neg e, e2, filt_append, filt_cons, if_neg (fun h => e h.symm)]
    conv => rhs; rw [list_parts l hi]
    rw [filt_append, filt_cons, if_neg (by rw [hk]; exact fun h => e h.symm)]

section
variable {y : Nat} {s : NSt} {L : List Pc} {w : World}
theorem rf_flip_bad (H : RF y s L w) (hA : allF s.n s.F ≤ 1048576) {a b j bit : Int} (hh : s.has a b j = true) (hbit : ¬ (0 ≤ bit ∧ bit / 8 < (s.the a b j).length)) (hb : (s.the a b j).length ≤ 1100) :
    Calls Try.prog 43 #[ptrV y, .int .i64 a, .int .i64 b, .int .i64 j, .int .i64 bit] w fun e w' => e = .returned (.int .i64 170) ∧ w = w' := by
  obtain ⟨r, HR, hn, hroom, ht, hF, hk⟩ := H
  obtain ⟨a0, c0, R⟩ := HR.rd
  have hB : r.l.length ≤ 2000000 := by rw [RF.len hF hk]; omega
  have hat := Lib.hid (rat_w R hB a b j)
  have hj := of_decide_eq_true hh
  rw [← hF] at hj
  have hgo : Hid (∀ v, AtIs r.l (a, b) j v → ∃ i : Nat, v = i ∧ ∃ hi : i < r.l.length, (r.l[i]'hi).2 = s.the a b j) := Lib.hid fun v hv => by
    obtain ⟨i, e1, hi, e2, e3⟩ := atis_yes hv hj
    exact ⟨i, e1, hi, (RF.gone hF hk hi e2 e3).2.1⟩
  have hR := Lib.hid R
  have hsl := R.sl
  obtain ⟨bl, hbl⟩ : ∃ bl, (s.the a b j).length = bl := ⟨_, rfl⟩
  rw [hbl] at hbit hb
  have hbl' := Lib.hid hbl
  obtain ⟨ln, hln⟩ : ∃ ln, r.l.length = ln := ⟨_, rfl⟩
  rw [hln] at hsl hB
  have hln' := Lib.hid hln
  clear HR R hn hroom ht hF hk hj hh hA hbl hln
  unfold ptrV at *
  go_enter Try.func43, Try.ntmps43
  go_wp2_with fail
  refine hat.out.mono ?_
  rintro e w2 ⟨v, rfl, hv, rfl⟩
  obtain ⟨i, rfl, hi, g1⟩ := hgo.out v hv
  clear hat hgo hv
  have hi2 : i < ln := by rw [← hln'.out]; exact hi
  obtain ⟨g, v, rfl, -, -, hcv, va, vc, rfl, -, -⟩ := hR.out.at' i hi
  rw [g1, hbl'.out] at hcv
  clear hR g1 hi
  unfold slV at *
  dsimp only at *
  by_cases h0 : bit < 0
  · clear hbit
    go_wp2_with fail
    go_ret
    exact ⟨rfl, rfl⟩
  · have h1 : 8 * (bl : Int) ≤ bit := by omega
    clear hbit
    go_wp2_with fail
    go_ret
    exact ⟨rfl, rfl⟩

def two8 (m : Nat) : Int := 2 ^ m
theorem two8_succ (m : Nat) : two8 (m + 1) = 2 * two8 m := by unfold two8; rw [Int.pow_succ, Int.mul_comm]
theorem two8_small : ∀ m, m ≤ 6 → 0 ≤ two8 m ∧ two8 m ≤ 64 := by decide
theorem two8_small7 : ∀ m, m ≤ 7 → IntKind.u8.wrap (two8 m) = two8 m := by decide

def own1 (w : World) (g n c : Nat) (bs : List Int) (o : Nat) : Prop := w.cell? ⟨g, o, none⟩ = some (.int .u8 (bs.getD o 0)) ∧ w.frozen? ⟨g, o, none⟩ = false

set_option maxHeartbeats 4000000 in
theorem rf_flip_yes (H : RF y s L w) (ht0 : Tok 900000000 s.t) (hA : allF s.n s.F ≤ 1048576) {a b j bit : Int} (hh : s.has a b j = true) (hbit : 0 ≤ bit ∧ bit / 8 < (s.the a b j).length) (hb : (s.the a b j).length ≤ 1100) :
    Calls Try.prog 43 #[ptrV y, .int .i64 a, .int .i64 b, .int .i64 j, .int .i64 bit] w fun e w' => e = .returned (.int .i64 0) ∧ RF y (s.flip a b j bit) L w' := by
  obtain ⟨r, HR, hn, hroom, ht, hF, hk⟩ := H
  obtain ⟨a0, c0, R⟩ := HR.rd
  have hB : r.l.length ≤ 2000000 := by rw [RF.len hF hk]; omega
  have hat := Lib.hid (rat_w R hB a b j)
  have hj := of_decide_eq_true hh
  rw [← hF] at hj
  obtain ⟨q0, q1⟩ := ht0.flipped
  rw [← ht] at q0 q1
  obtain ⟨rn, rroom, rt, rl⟩ := r
  dsimp only at *
  have hgo : Hid (∀ v, AtIs rl (a, b) j v → ∃ i : Nat, v = i ∧ ∃ hi : i < rl.length, (rl[i]'hi).2 = s.the a b j ∧ ∀ V, RAt y ⟨rn, rroom, { rt with flipped := rt.flipped + 1 }, rl.set i ((rl[i]'hi).1, flipB (s.the a b j) bit)⟩ L V → RF y (s.flip a b j bit) L V) := Lib.hid fun v hv => by
    obtain ⟨i, e1, hi, e2, e3⟩ := atis_yes hv hj
    have hg := RF.gone (r := ⟨rn, rroom, rt, rl⟩) hF hk hi e2 e3
    refine ⟨i, e1, hi, hg.2.1, fun V hV => ⟨_, hV, hn, hroom, by unfold NSt.flip; dsimp only; rw [ht], fun k => ?_, fun x hx => ?_⟩⟩
    · dsimp only
      rw [e2, filt_set hi e2 e3]
      unfold NSt.flip upd
      dsimp only
      split
      · rw [hF]
      · rw [hF]
    · rcases List.mem_or_eq_of_mem_set hx with h | rfl
      · exact hk x h
      · have h9 := hk _ (List.getElem_mem hi)
        exact h9
  obtain ⟨sl, gs, HS, hgs⟩ := HR
  dsimp only at HS hgs
  have hgl : gs.length = rl.length := by rw [← hgs]; simp
  obtain ⟨a1, c1, rfl, -, -, -, hcl⟩ := rg_cells HS (.there (.here _ _))
  have hcl' := Lib.hid hcl
  have hm' : Hid (∀ i (hi : i < gs.length) (hi2 : i < rl.length), rl[i]'hi2 = ((gs[i]'hi).k, (gs[i]'hi).bs)) := Lib.hid fun i hi hi2 => by simp [← hgs, RG.m]
  have hset : Hid (∀ i k v nb, (gs.set i ⟨k, v, nb⟩).map RG.m = rl.set i (k, nb)) := Lib.hid fun i k v nb => by rw [List.map_set, hgs]; rfl
  have c2 := HS.cell (b := y) (o := 2) (.here _ _) rfl
  have hHS := Lib.hid HS
  obtain ⟨ln, hln⟩ : ∃ ln, gs.length = ln := ⟨_, rfl⟩
  rw [hln] at hgl c2 hHS
  have hln' := Lib.hid hln
  have hgl' := Lib.hid hgl
  obtain ⟨o, ho⟩ : ∃ o : Nat, bit / 8 = o := ⟨(bit / 8).toNat, by omega⟩
  obtain ⟨rr, hrr⟩ : ∃ rr : Nat, bit % 8 = rr := ⟨(bit % 8).toNat, by omega⟩
  have hq1 : bit.tdiv 8 = (o : Int) := by rw [Int.tdiv_eq_ediv_of_nonneg hbit.1]; exact ho
  have hq2 : bit.tmod 8 = (rr : Int) := by rw [Int.tmod_eq_emod_of_nonneg hbit.1]; exact hrr
  have hr7 : rr ≤ 7 := by omega
  obtain ⟨bl, hbl⟩ : ∃ bl, (s.the a b j).length = bl := ⟨_, rfl⟩
  rw [hbl] at hbit hb
  have h0 := hbit.1
  have h1 : bit < 8 * (bl : Int) := by omega
  have hob : o < bl := by omega
  have hbl' := Lib.hid hbl
  have hflip : Hid (∀ bs, bs = s.the a b j → (bv bs).set o (.int .u8 (bits .xor .u8 (bs.getD o 0) (two8 rr))) = bv (flipB (s.the a b j) bit)) := Lib.hid fun bs e => by
    subst e
    unfold flipB turn bv
    rw [ho, hrr, Int.toNat_natCast, Int.toNat_natCast, List.map_set, show IntKind.u8.wrap (2 ^ rr) = two8 rr from two8_small7 rr hr7]
  have htw := Lib.hid (fun V L' (bs : List Int) sa sc (h : SL V L') (hl : bs.length ≤ 1000000) (hr : RdB V sa bs) (hn : sa = none → sc = 0) => twin_c bs sa sc V h hl hr hn)
  clear HS R hgs hh hj hn hroom ht hF hk hln hgl ht0 hcl hA hbl hbit ho hrr
  unfold ptrV at *
  go_enter Try.func43, Try.ntmps43
  go_wp2_with fail
  refine hat.out.mono ?_
  rintro e w2 ⟨v, rfl, hv, rfl⟩
  obtain ⟨i, rfl, hi, g1, hfin⟩ := hgo.out v hv
  clear hat hgo hv
  have hi2 : i < ln := by rw [hgl'.out]; exact hi
  have hig : i < gs.length := by rw [hln'.out]; exact hi2
  obtain ⟨g, rfl, -, -, hcv⟩ := hcl'.out i hig
  obtain ⟨va, vc, hv0, hrd, hvn⟩ := rn_gr hHS.out hig
  have hmi := hm'.out i hig hi
  have hg : (gs[i]'hig).bs = s.the a b j := by rw [hmi] at g1; exact g1
  have htw2 := Lib.hid (htw.out _ _ (gs[i]'hig).bs va vc hHS.out (by rw [hg, hbl'.out]; omega) hrd hvn)
  have hbl2 : Hid ((gs[i]'hig).bs.length = bl) := Lib.hid (by rw [hg, hbl'.out])
  rw [hv0, hbl2.out] at hcv
  rw [hbl2.out] at htw2
  have hg' := Lib.hid hg
  have hfl := Lib.hid (hflip.out _ hg)
  have hjoin : Hid (∀ V v, SL V (rgB y rn rroom (.slice (some ⟨g, 0, none⟩) ln c1) { rt with flipped := rt.flipped + 1 } :: .own 91 3 (.slice (some ⟨g, 0, none⟩) ln c1) ln ((rgC gs).set (i * 3 + 2) (slV v)) :: .own 5 1 (slV v) bl (bv (flipB (s.the a b j) bit)) :: (gs.map rgP ++ L)) → RF y (s.flip a b j bit) L V) := Lib.hid fun V v h => by
    refine hfin V ⟨.slice (some ⟨g, 0, none⟩) ln c1, gs.set i ⟨(gs[i]'hig).k, v, flipB (s.the a b j) bit⟩, ?_, by dsimp only; rw [hset.out, hmi]⟩
    unfold rnP rgS
    dsimp only
    rw [List.length_set, hln'.out, ← rgC_set gs i hig]
    have p0 := (map_pull rgP gs i hig).append_right L
    have p1 := ((p0.cons (Pc.own 5 1 (slV v) bl (bv (flipB (s.the a b j) bit)))).trans (.swap _ _ _))
    have h2 := h.perm ((p1.cons _).cons _)
    have h3 := h2.re (.step (.here _ _) (.step (.here _ _) (.drop (.same _))))
    have e : (Pc.own 5 1 (slV v) bl (bv (flipB (s.the a b j) bit))) = rgP ⟨(gs[i]'hig).k, v, flipB (s.the a b j) bit⟩ := by
      unfold rgP grP
      rw [flipB_length, hbl'.out]
    rw [e] at h3
    have p := (set_pull rgP gs i hig ⟨(gs[i]'hig).k, v, flipB (s.the a b j) bit⟩).symm.append_right L
    exact h3.perm ((p.cons _).cons _)
  clear hcl' hm' hset hmi hg g1 hfin hv0 hrd hvn htw
  generalize (gs[i]'hig).bs = bs at *
  clear hig hi
  unfold slV at *
  dsimp only at *
  go_wp2_with fail
  refine htw2.out.mono ?_
  rintro e w3 ⟨a', c', rfl, H3⟩
  obtain ⟨gb, rfl⟩ : ∃ gb, a' = some ⟨gb, 0, none⟩ := by
    have h : OwnK w3 0 5 1 (.slice a' bl c') bl (bv bs) := H3.head
    rcases h.form with ⟨e, _⟩ | ⟨gb, cap, e, _⟩
    · cases e; omega
    · cases e; exact ⟨gb, rfl⟩
  have hH3 := Lib.hid H3
  clear htw2 H3 hHS c2 hcv
  go_wp2_with fail
  go_loop [13, 14] (fun wv i => ∃ m : Nat, m ≤ rr ∧ i = .int .i64 m ∧ wv = .int .u8 (two8 m)) (fun _ i => rr - (intOf i).toNat)
  case atStart => exact ⟨0, by omega, rfl, rfl⟩
  case round =>
    obtain ⟨m, hm, rfl, rfl⟩ := hrel
    by_cases hmr : m < rr
    · obtain ⟨z0, z1⟩ := two8_small m (by omega)
      have hz := Lib.hid (two8_succ m)
      obtain ⟨z, hz0⟩ : ∃ z, two8 m = z := ⟨_, rfl⟩
      rw [hz0] at z0 z1 hz ⊢
      clear hz0
      go_wp2_with fail
      go_round
      case rel => exact ⟨m + 1, by omega, by go_num, by rw [hz.out]⟩
      case measure => (simp [intOf]; try omega)
    · obtain rfl : m = rr := by omega
      have hw1 : own1 w3 gb bl c' bs o := by
        have h := own_cell (show OwnK w3 0 5 1 (.slice (some ⟨gb, 0, none⟩) bl c') bl (bv bs) from hH3.out.head) hob
        refine ⟨?_, h.2⟩
        rw [h.1]
        have : o < bs.length := by rw [hbl2.out]; exact hob
        simp [bv, List.getD_eq_getElem?_getD, this]
      obtain ⟨cb, fb⟩ := hw1
      obtain ⟨z, hz⟩ : ∃ z, two8 m = z := ⟨_, rfl⟩
      rw [hz] at hfl ⊢
      clear hz
      generalize bs.getD o 0 = zb at *
      have H4 := own_storeK hH3.out o (.int .u8 (bits .xor .u8 zb z))
      rw [hfl.out] at H4
      have hH4 := Lib.hid (show SL _ (.own 5 1 (.slice (some ⟨gb, 0, none⟩) bl c') bl (bv (flipB (s.the a b j) bit)) :: rgB y rn rroom (.slice (some ⟨g, 0, none⟩) ln c1) rt :: rgS (.slice (some ⟨g, 0, none⟩) ln c1) gs :: (gs.map rgP ++ L)) from H4)
      clear H4 hH3 hfl
      go_upto_region 11 with (fail)
      generalize w3.setCell ⟨gb, o, none⟩ (.int .u8 (bits .xor .u8 zb z)) = w4 at *
      clear cb fb
      unfold rgS at hH4
      rw [hln'.out] at hH4
      have c2 := hH4.out.cell (b := y) (o := 2) (.there (.here _ _)) rfl
      have hS : OwnK w4 0 91 3 (.slice (some ⟨g, 0, none⟩) ln c1) ln (rgC gs) := (hH4.out.re (L' := [.own 91 3 (.slice (some ⟨g, 0, none⟩) ln c1) ln (rgC gs)]) (.step (.there (.there (.here _ _))) (.done _))).head
      obtain ⟨u, cg, fg⟩ : ∃ u, w4.cell? ⟨g, i * 3 + 2, none⟩ = some u ∧ w4.frozen? ⟨g, i * 3 + 2, none⟩ = false := by
        rcases hS.form with ⟨e, _⟩ | ⟨g', cap, e, _, _, _, _, _, hc, hf⟩
        · cases e
        · cases e
          exact ⟨_, hc (i * 3 + 2) (by omega), hf _⟩
      have hH5 := Lib.hid (own_storeK (hH4.out.re (.step (.there (.there (.here _ _))) (.same _))) (i * 3 + 2) (.slice (some ⟨gb, 0, none⟩) bl c'))
      clear hS hH4
      go_upto_region 12 with (fail)
      generalize w4.setCell ⟨g, i * 3 + 2, none⟩ (.slice (some ⟨gb, 0, none⟩) bl c') = w5 at *
      clear c2 cg fg
      have c8 := hH5.out.cell (b := y) (o := 8) (.there (.there (.here _ _))) rfl
      have f8 := hH5.out.free (b := y) (.there (.there (.here _ _))) 8
      have H6 := (show SL w5 (rgB y rn rroom (.slice (some ⟨g, 0, none⟩) ln c1) rt :: _) from hH5.out.re (.step (.there (.there (.here _ _))) (.same _))).setCell 8 (.int .i64 (rt.flipped + 1))
      have hfin := Lib.hid (hjoin.out _ (some ⟨gb, 0, none⟩, bl, c') H6)
      clear hjoin H6 hH5
      go_wp2_with fail
      go_ret
      exact ⟨rfl, hfin.out⟩
end
end Go.Proofs.Ytnkahibddhchlaa
/- The reference, told by what its ways hold: Clear. -/
namespace Go.Proofs.Ytnkahibddhchlaa
open Go.RowKit
set_option linter.unusedVariables false

def keepD (dst : Int) (gs : List RG) : List RG := gs.filter fun g => !decide (g.k.2 = dst)
theorem re_keep (dst : Int) (L : List Pc) : ∀ gs : List RG, Re (gs.map rgP ++ L) ((keepD dst gs).map rgP ++ L)
  | [] => .same _
  | g :: gs => by
    unfold keepD
    rw [List.filter_cons]
    split
    · exact .step (.here _ _) (re_keep dst L gs)
    · exact .drop (re_keep dst L gs)
theorem keep_take (dst : Int) (gs : List RG) {j : Nat} (hj : j < gs.length) : keepD dst (gs.take (j + 1)) = keepD dst (gs.take j) ++ (if (gs[j]'hj).k.2 = dst then [] else [gs[j]'hj]) := by
  unfold keepD
  rw [List.take_succ_eq_append_getElem hj, List.filter_append]
  congr 1
  by_cases h : (gs[j]'hj).k.2 = dst <;> simp [h]
theorem filt_keep (l : List (Ky × List Int)) (dst : Int) (k : Ky) : filt (l.filter fun x => !decide (x.1.2 = dst)) k = if k.2 = dst then [] else filt l k := by
  induction l with
  | nil => simp [filt]
  | cons x l ih =>
    rw [List.filter_cons, filt_cons]
    by_cases h : x.1.2 = dst
    · rw [if_neg (by simp [h]), ih]
      by_cases e : x.1 = k
      · subst e
        rw [if_pos h, if_pos h]
      · rw [if_neg e, List.nil_append]
    · rw [if_pos (by simp [h]), filt_cons, ih]
      by_cases e : x.1 = k
      · subst e
        rw [if_neg h, if_neg h]
      · rw [if_neg e]
        rfl
theorem keep_m (dst : Int) (gs : List RG) : (keepD dst gs).map RG.m = (gs.map RG.m).filter fun x => !decide (x.1.2 = dst) := by
  unfold keepD
  rw [List.filter_map]
  rfl
theorem keep_le (dst : Int) (gs : List RG) : (keepD dst gs).length ≤ gs.length := List.length_filter_le _ _

section
variable {y : Nat} {s : NSt} {L : List Pc} {w : World}
theorem rf_clear_no (H : RF y s L w) {dst : Int} (hd : ¬ (0 ≤ dst ∧ dst < s.n)) :
    Calls Try.prog 44 #[ptrV y, .int .i64 dst] w fun e w' => e = .returned (.tuple #[.int .i64 0, .int .i64 170]) ∧ w = w' := by
  obtain ⟨r, HR, hn, -⟩ := H
  obtain ⟨a0, c0, R⟩ := HR.rd
  have cn := R.n
  rw [hn] at cn
  clear HR R hn
  unfold ptrV at *
  go_enter Try.func44, Try.ntmps44
  by_cases h0 : dst < 0
  · clear hd
    go_wp2_with fail
    go_ret2
    exact ⟨rfl, rfl⟩
  · have h1 : (s.n : Int) ≤ dst := by omega
    clear hd
    generalize s.n = n at *
    go_wp2_with fail
    go_ret2
    exact ⟨rfl, rfl⟩

set_option maxHeartbeats 4000000 in
theorem rf_clear_yes (H : RF y s L w) (ht0 : Tok 900000000 s.t) (hA : allF s.n s.F ≤ 1048576) {dst : Int} (hd : 0 ≤ dst ∧ dst < s.n) :
    Calls Try.prog 44 #[ptrV y, .int .i64 dst] w fun e w' => e = .returned (.tuple #[.int .i64 (cntTo (heldK s.n s.F) s.F dst (heldK s.n s.F).length : Nat), .int .i64 0]) ∧ RF y (s.clear dst) L w' := by
  obtain ⟨r, HR, hn, hroom, ht, hF, hk⟩ := H
  have hlen1 := RF.len hF hk
  have hB : r.l.length ≤ 2000000 := by rw [hlen1]; omega
  have hF2 : ∀ k, filt (r.l.filter fun x => !decide (x.1.2 = dst)) k = clrF s.F dst k := fun k => by rw [filt_keep, hF]; rfl
  have hk2 : ∀ x ∈ (r.l.filter fun x => !decide (x.1.2 = dst)), (0 ≤ x.1.1 ∧ x.1.1 < (s.n : Int)) ∧ (0 ≤ x.1.2 ∧ x.1.2 < (s.n : Int)) := fun x hx => hk x (List.mem_filter.1 hx).1
  have hlen2 := RF.len (s := { s with F := clrF s.F dst }) (r := ⟨r.n, r.room, r.t, r.l.filter fun x => !decide (x.1.2 = dst)⟩) hF2 hk2
  have hcnt := allF_clr s.n s.F dst
  dsimp only at hlen2
  obtain ⟨q0, q1⟩ := ht0.dropped
  rw [← ht] at q0 q1
  obtain ⟨rn, rroom, rt, rl⟩ := r
  dsimp only at *
  obtain ⟨ct, hct⟩ : ∃ ct, cntTo (heldK s.n s.F) s.F dst (heldK s.n s.F).length = ct := ⟨_, rfl⟩
  have hfin : Hid (∀ V sl' gs', SL V (rnP y rn rroom sl' { rt with dropped := rt.dropped + (ct : Int) } gs' ++ L) → gs'.map RG.m = (rl.filter fun x => !decide (x.1.2 = dst)) → RF y (s.clear dst) L V) := Lib.hid fun V sl' gs' h1 h2 =>
    ⟨⟨rn, rroom, { rt with dropped := rt.dropped + (ct : Int) }, _⟩, ⟨sl', gs', h1, h2⟩, hn, hroom, by unfold NSt.clear; dsimp only; rw [ht, hct], hF2, hk2⟩
  rw [hct]
  obtain ⟨sl, gs, HS, hgs⟩ := HR
  dsimp only at HS hgs
  have hgl : gs.length = rl.length := by rw [← hgs]; simp
  have hkm := keep_m dst gs
  rw [hgs] at hkm
  have hkl : (keepD dst gs).length + ct = gs.length := by
    have := congrArg List.length hkm
    rw [List.length_map, hlen2] at this
    omega
  obtain ⟨a1, c1, rfl, -, -, -, hcl⟩ := rg_cells HS (.there (.here _ _))
  have hone := Lib.hid (rgC_one gs)
  obtain ⟨ln, hln⟩ : ∃ ln, gs.length = ln := ⟨_, rfl⟩
  have hln' := Lib.hid hln
  have hkl' := Lib.hid hkl
  have hcl' : Hid (∀ V L', SL V (.own 91 3 (.slice a1 ln c1) ln (rgC gs) :: L') → ∀ i (hi : i < gs.length), ∃ g, a1 = some ⟨g, 0, none⟩ ∧ V.cell? ⟨g, i * 3, none⟩ = some (.int .i64 (gs[i]'hi).k.1) ∧ V.cell? ⟨g, i * 3 + 1, none⟩ = some (.int .i64 (gs[i]'hi).k.2) ∧ V.cell? ⟨g, i * 3 + 2, none⟩ = some (slV (gs[i]'hi).v)) := Lib.hid fun V L' h i hi => by
    obtain ⟨a2, c2, e, -, -, -, h2⟩ := rg_cells (sl := .slice a1 ln c1) (gs := gs) (show SL V (rgS (.slice a1 ln c1) gs :: L') from by unfold rgS; rw [hln]; exact h) (.here _ _)
    simp only [Value.slice.injEq] at e
    obtain ⟨rfl, -, -⟩ := e
    exact h2 i hi
  have hrek := Lib.hid (re_keep dst L gs)
  have hkm' := Lib.hid hkm
  have hH : Hid (SL w (.own 91 3 (.slice none 0 0) 0 (rgC (keepD dst (gs.take 0))) :: .own 91 3 (.slice a1 ln c1) ln (rgC gs) :: rgB y rn rroom (.slice a1 ln c1) rt :: (gs.map rgP ++ L))) := Lib.hid (by
    unfold rnP rgS at HS
    rw [hln] at HS
    exact (HS.re (L' := .own 91 3 (.slice a1 ln c1) ln (rgC gs) :: rgB y rn rroom (.slice a1 ln c1) rt :: (gs.map rgP ++ L)) (.step (.there (.here _ _)) (.same _))).pure (q := .own 91 3 (.slice none 0 0) 0 []) (OwnK.nil _ _ _ _) fun b h => by cases h)
  rw [hln] at hgl
  have hB2 : ln ≤ 2000000 := by omega
  have hct2 : ct ≤ 2000000 := by omega
  have cn := hH.out.cell (b := y) (o := 0) (.there (.there (.here _ _))) rfl
  rw [hn] at cn
  generalize s.n = sn at *
  obtain ⟨d0, d1⟩ := hd
  clear HS hgs hn hroom ht hF hk hln hgl ht0 hcl hA hlen1 hlen2 hF2 hk2 hcnt hct hkm hkl hB
  generalize gs.map rgP ++ L = M at *
  unfold ptrV at *
  go_enter Try.func44, Try.ntmps44
  go_wp2_with fail
  clear cn
  go_loopw [6, 7] (fun lv i V => ∃ (j m : Nat) (a2 : Option Addr) (c2 : Nat), j ≤ ln ∧ m ≤ j ∧ i = .int .i64 j ∧ lv = .slice a2 m c2 ∧ Hid (m = (keepD dst (gs.take j)).length ∧ SL V (.own 91 3 (.slice a2 m c2) m (rgC (keepD dst (gs.take j))) :: .own 91 3 (.slice a1 ln c1) ln (rgC gs) :: rgB y rn rroom (.slice a1 ln c1) rt :: M))) (fun _ i _ => ln - (intOf i).toNat)
  case atStart => exact ⟨0, 0, none, 0, by omega, by omega, rfl, rfl, Lib.hid ⟨rfl, hH.out⟩⟩
  case round =>
    clear hH
    obtain ⟨j, m, a2, c2, hj, hmj, rfl, rfl, hR⟩ := hrel
    have z2 := hR.out.2.cell (b := y) (o := 2) (.there (.there (.here _ _))) rfl
    by_cases hjl : j < ln
    · have hjg : j < gs.length := by rw [hln'.out]; exact hjl
      obtain ⟨g, rfl, e1, e2, e3⟩ := hcl'.out _ _ hR.out.2.tail j hjg
      have hkt := Lib.hid (keep_take dst gs hjg)
      generalize hx : (gs[j]'hjg) = x at *
      obtain ⟨⟨x1, x2⟩, ⟨va, vn, vc⟩, xb⟩ := x
      have hxc : Hid (rgC [(⟨(x1, x2), (va, vn, vc), xb⟩ : RG)] = [.int .i64 x1, .int .i64 x2, .slice va vn vc]) := Lib.hid rfl
      unfold slV at *
      dsimp only at *
      clear hx hjg
      by_cases hxd : x2 = dst
      · have hb : (x2 != dst) = false := by simpa using hxd
        have hR2 := Lib.hid (show m = (keepD dst (gs.take (j + 1))).length ∧ SL wr (.own 91 3 (.slice a2 m c2) m (rgC (keepD dst (gs.take (j + 1)))) :: .own 91 3 (.slice (some ⟨g, 0, none⟩) ln c1) ln (rgC gs) :: rgB y rn rroom (.slice (some ⟨g, 0, none⟩) ln c1) rt :: M) from by
          rw [hkt.out, if_pos hxd, List.append_nil]
          exact hR.out)
        clear hR hkt hxd hxc
        go_wp2_with fail
        go_roundw
        case rel => exact ⟨j + 1, m, a2, c2, by omega, by omega, by go_num, rfl, hR2⟩
        case measure => (simp [intOf]; try omega)
      · have hb : (x2 != dst) = true := by simpa using hxd
        have hkt2 : Hid (keepD dst (gs.take (j + 1)) = keepD dst (gs.take j) ++ [⟨(x1, x2), (va, vn, vc), xb⟩]) := Lib.hid (by rw [hkt.out, if_neg hxd])
        clear hkt hxd
        go_wp2_with (
          at_builtin
          refine sl_app (hR.out.2.alloc [.int .i64 x1, .int .i64 x2, .slice va vn vc] 91) rfl _ _ _ rfl elemG _ rfl (.there (.here _ _)) [.int .i64 x1, .int .i64 x2, .slice va vn vc] rfl rfl (rd_newK _ _ _) (by simp [Value.oneCell']) (by simp only [maxLen]; omega) (by omega) (fun h => by cases h) ?_
          intro v' w3 H3 hnil
          obtain ⟨a3, c3, rfl, -⟩ := OwnK.slice H3.head
          have hR2 := Lib.hid (show m + 1 = (keepD dst (gs.take (j + 1))).length ∧ SL w3 (.own 91 3 (.slice a3 (m + 1) c3) (m + 1) (rgC (keepD dst (gs.take (j + 1)))) :: .own 91 3 (.slice (some ⟨g, 0, none⟩) ln c1) ln (rgC gs) :: rgB y rn rroom (.slice (some ⟨g, 0, none⟩) ln c1) rt :: M) from by
            rw [hkt2.out, rgC_append, hxc.out, List.length_append, List.length_singleton, ← hR.out.1]
            exact ⟨rfl, H3.re (.step (.here _ _) (.drop (.same _)))⟩)
          clear hnil H3 hR z2 e1 e2 e3 hkt2 hxc)
        go_roundw
        case rel => exact ⟨j + 1, m + 1, a3, c3, by omega, by omega, by go_num, rfl, hR2⟩
        case measure => (simp [intOf]; try omega)
    · obtain rfl : j = ln := by omega
      have htk : gs.take j = gs := List.take_of_length_le (by rw [hln'.out]; exact Nat.le_refl _)
      obtain ⟨hm, HS⟩ := hR.out
      rw [htk] at hm HS
      have hk3 := hkl'.out
      rw [← hm, hln'.out] at hk3
      have hsub : (j : Int) - (m : Int) = (ct : Int) := by omega
      have c6 := HS.cell (b := y) (o := 6) (.there (.there (.here _ _))) rfl
      have f2 := HS.free (b := y) (.there (.there (.here _ _))) 2
      have f6 := HS.free (b := y) (.there (.there (.here _ _))) 6
      have HS2 := ((HS.re (.step (.there (.there (.here _ _))) (.step (.here _ _) (.drop (.same _)))) : SL wr (rgB y rn rroom (.slice a1 j c1) rt :: .own 91 3 (.slice a2 m c2) m (rgC (keepD dst gs)) :: M)).setCell 2 (.slice a2 m c2)).setCell 6 (.int .i64 (rt.dropped + (ct : Int)))
      rw [hm] at HS2
      have HS3 := Lib.hid (hfin.out _ _ (keepD dst gs) (HS2.re (.step (.here _ _) (.step (.here _ _) hrek.out))) hkm'.out)
      rw [← hm] at HS3
      clear HS HS2 hR hm hkm' hfin hrek hcl' hkl' hone htk hk3
      go_wp2_with fail
      go_ret2
      exact ⟨rfl, HS3.out⟩
end
end Go.Proofs.Ytnkahibddhchlaa
/- The reference, told by what its ways hold: Ways. -/
namespace Go.Proofs.Ytnkahibddhchlaa
open Go.RowKit
set_option linter.unusedVariables false

theorem pull_mid (p : Pc) (L : List Pc) : ∀ N : List Pc, Pull (N ++ p :: L) p (N ++ L)
  | [] => .here _ _
  | x :: N => .there (pull_mid p L N)
def hT (n : Nat) (F : Ky → List (List Int)) (t : Nat) : List Ky := ((allK n).take t).filter fun k => !(F k).isEmpty
theorem hT_succ (n : Nat) (F : Ky → List (List Int)) {i j : Nat} (hi : i < n) (hj : j < n) : hT n F (i * n + j + 1) = hT n F (i * n + j) ++ (if (F ((i : Int), (j : Int))).length = 0 then [] else [((i : Int), (j : Int))]) := by
  obtain ⟨h, e⟩ := allK_at hi hj
  unfold hT
  rw [List.take_succ_eq_append_getElem h, List.filter_append, e]
  congr 1
  by_cases h0 : (F ((i : Int), (j : Int))) = []
  · simp [h0]
  · rw [if_neg (by simpa using h0)]
    simp [h0]
theorem hT_le (n : Nat) (F : Ky → List (List Int)) (t : Nat) (hn : n ≤ 64) : (hT n F t).length ≤ 4096 := by
  unfold hT
  have h1 := List.length_filter_le (fun k => !(F k).isEmpty) ((allK n).take t)
  have h2 : ((allK n).take t).length ≤ (allK n).length := by rw [List.length_take]; omega
  have h3 : (allK n).length = n * n := by simp [allK]
  have h4 : n * n ≤ 64 * 64 := Nat.mul_le_mul hn hn
  omega
theorem hT_all (n : Nat) (F : Ky → List (List Int)) : hT n F (n * n) = heldK n F := by
  unfold hT heldK
  rw [List.take_of_length_le (by simp [allK])]

section
variable {y : Nat} {s : NSt} {L L' : List Pc} {w w' : World}
theorem RF.map (H : RF y s L w) (h : ∀ N, SL w (N ++ L) → SL w' (N ++ L')) : RF y s L' w' := by
  obtain ⟨r, ⟨sl, gs, HS, hgs⟩, rest⟩ := H
  exact ⟨r, ⟨sl, gs, h _ HS, hgs⟩, rest⟩
theorem RF.tail (H : RF y s L w) : SL w L := by
  obtain ⟨r, ⟨sl, gs, HS, hgs⟩, rest⟩ := H
  exact HS.re (re_right _ _)
theorem RF.n (H : RF y s L w) : w.cell? ⟨y, 0, none⟩ = some (.int .i64 s.n) := by
  obtain ⟨r, HR, hn, -⟩ := H
  obtain ⟨a0, c0, R⟩ := HR.rd
  rw [← hn]
  exact R.n
theorem rf_len (H : RF y s L w) (hA : allF s.n s.F ≤ 1048576) (a b : Int) :
    Calls Try.prog 26 #[ptrV y, .int .i64 a, .int .i64 b] w fun e w' => e = .returned (.int .i64 ((s.F (a, b)).length : Nat)) ∧ w = w' := by
  obtain ⟨r, HR, hn, hroom, ht, hF, hk⟩ := H
  obtain ⟨a0, c0, R⟩ := HR.rd
  rw [← hF]
  exact rlen_w R (by rw [RF.len hF hk]; omega) a b

set_option maxHeartbeats 4000000 in
theorem rf_ways (H : RF y s L w) (hA : allF s.n s.F ≤ 1048576) (hn : s.n ≤ 64) :
    Calls Try.prog 25 #[ptrV y] w fun e w' => ∃ a c, e = .returned (.slice a (heldK s.n s.F).length c) ∧ RF y s (.own 42 2 (.slice a (heldK s.n s.F).length c) (heldK s.n s.F).length (kyC (heldK s.n s.F)) :: L) w' := by
  have hH : Hid (RF y s (.own 42 2 (.slice none 0 0) 0 (kyC (hT s.n s.F 0)) :: L) w) := Lib.hid (H.map fun N h => (h.pure (q := .own 42 2 (.slice none 0 0) 0 []) (OwnK.nil _ _ _ _) fun b h => by cases h).perm List.perm_middle.symm)
  have hlen := Lib.hid (fun V L (h : RF y s L V) a b => rf_len h hA a b)
  have hrn := Lib.hid (fun V L (h : RF y s L V) => h.n)
  have hsu := Lib.hid (fun i j hi hj => hT_succ s.n s.F (i := i) (j := j) hi hj)
  have hle := Lib.hid (fun t => hT_le s.n s.F t hn)
  have hall := Lib.hid (hT_all s.n s.F)
  have hFl := Lib.hid (fun k => (show ∃ q, (s.F k).length = q from ⟨_, rfl⟩))
  rw [← hall.out]
  clear H hA hall
  have hn0 : 0 ≤ s.n := Nat.zero_le _
  obtain ⟨n, hnn⟩ : ∃ n, s.n = n := ⟨_, rfl⟩
  rw [hnn] at hH hrn hsu hle hn ⊢
  clear hnn hn0
  unfold ptrV at *
  go_enter Try.func25, Try.ntmps25
  go_wp2_with fail
  go_loopw [3, 4] (fun lv i V => ∃ (i0 m : Nat) (a c : _), i0 ≤ n ∧ i = .int .i64 i0 ∧ lv = .slice a m c ∧ Hid (m = (hT n s.F (i0 * n)).length ∧ RF y s (.own 42 2 (.slice a m c) m (kyC (hT n s.F (i0 * n))) :: L) V)) (fun _ i _ => n - (intOf i).toNat)
  case atStart => exact ⟨0, 0, none, 0, by omega, rfl, rfl, Lib.hid ⟨by simp [hT], by rw [Nat.zero_mul]; exact hH.out⟩⟩
  case round =>
    clear hH
    obtain ⟨i0, m, a, c, hi0, rfl, rfl, hR⟩ := hrel
    have cn := hrn.out _ _ hR.out.2
    by_cases hin : i0 < n
    · go_wp2_with fail
      go_loopw [3, 5] (fun lv j V => ∃ (j0 m : Nat) (a c : _), j0 ≤ n ∧ j = .int .i64 j0 ∧ lv = .slice a m c ∧ Hid (m = (hT n s.F (i0 * n + j0)).length ∧ RF y s (.own 42 2 (.slice a m c) m (kyC (hT n s.F (i0 * n + j0))) :: L) V)) (fun _ j _ => n - (intOf j).toNat)
      case atStart => exact ⟨0, m, a, c, by omega, rfl, rfl, hR⟩
      case round =>
        clear hR cn
        obtain ⟨j0, m, a, c, hj0, rfl, rfl, hR⟩ := hrel
        have cn := hrn.out _ _ hR.out.2
        by_cases hjn : j0 < n
        · have hl := Lib.hid (hlen.out _ _ hR.out.2 i0 j0)
          have hs := Lib.hid (hsu.out i0 j0 hin hjn)
          have hml : m ≤ 4096 := by rw [hR.out.1]; exact hle.out _
          obtain ⟨q, hq⟩ := hFl.out ((i0 : Int), (j0 : Int))
          rw [hq] at hl hs
          clear hq
          go_wp2_with fail
          refine hl.out.mono ?_
          rintro e w5 ⟨rfl, rfl⟩
          clear hl
          by_cases hq0 : q = 0
          · subst hq0
            have hR2 : Hid (m = (hT n s.F (i0 * n + (j0 + 1))).length ∧ RF y s (.own 42 2 (.slice a m c) m (kyC (hT n s.F (i0 * n + (j0 + 1)))) :: L) wr) := Lib.hid (by
              rw [← Nat.add_assoc, hs.out, if_pos rfl, List.append_nil]
              exact hR.out)
            clear hR hs cn
            go_wp2_with fail
            go_roundw
            case rel => exact ⟨j0 + 1, m, a, c, by omega, by go_num, rfl, hR2⟩
            case measure => (simp [intOf]; try omega)
          · have hqp : 0 < q := by omega
            obtain ⟨r, ⟨sl, gs, HS, hgs⟩, rest⟩ := hR.out.2
            go_wp2_with (
              at_builtin
              refine sl_app (HS.alloc [.int .i64 i0, .int .i64 j0] 42) rfl _ _ _ rfl elemW _ rfl (.there (pull_mid _ _ _)) [.int .i64 i0, .int .i64 j0] rfl rfl (rd_newK _ _ _) (by simp [Value.oneCell']) (by simp only [maxLen]; omega) (by omega) (fun h => by cases h) ?_
              intro v' w3 H3 hnil
              obtain ⟨a3, c3, rfl, -⟩ := OwnK.slice H3.head
              have hR2 : Hid (m + 1 = (hT n s.F (i0 * n + (j0 + 1))).length ∧ RF y s (.own 42 2 (.slice a3 (m + 1) c3) (m + 1) (kyC (hT n s.F (i0 * n + (j0 + 1)))) :: L) w3) := Lib.hid (by
                rw [← Nat.add_assoc, hs.out, if_neg hq0, kyC_append, List.length_append, List.length_singleton, ← hR.out.1]
                exact ⟨rfl, r, ⟨sl, gs, (H3.re (.step (.here _ _) (.drop (.same _)))).perm List.perm_middle.symm, hgs⟩, rest⟩)
              clear hnil H3 hR hs cn HS rest)
            go_roundw
            case rel => exact ⟨j0 + 1, m + 1, a3, c3, by omega, by go_num, rfl, hR2⟩
            case measure => (simp [intOf]; try omega)
        · obtain rfl : j0 = n := by omega
          have hR2 : Hid (m = (hT j0 s.F ((i0 + 1) * j0)).length ∧ RF y s (.own 42 2 (.slice a m c) m (kyC (hT j0 s.F ((i0 + 1) * j0))) :: L) wr) := Lib.hid (by rw [Nat.succ_mul]; exact hR.out)
          clear hR
          go_wp2_with fail
          go_roundw
          case rel => exact ⟨i0 + 1, m, a, c, by omega, by go_num, rfl, hR2⟩
          case measure => (simp [intOf]; try omega)
    · obtain rfl : i0 = n := by omega
      have hm := Lib.hid hR.out.1
      have hfin : Hid (RF y s (.own 42 2 (.slice a (hT i0 s.F (i0 * i0)).length c) (hT i0 s.F (i0 * i0)).length (kyC (hT i0 s.F (i0 * i0))) :: L) wr) := Lib.hid (by rw [← hR.out.1]; exact hR.out.2)
      clear hR
      go_wp2_with fail
      go_ret
      exact ⟨a, c, (by rw [← hm.out]; rfl), hfin.out⟩
end
end Go.Proofs.Ytnkahibddhchlaa
/- The net and the reference at once; bytes. -/
namespace Go.Proofs.Ytnkahibddhchlaa
open Go.RowKit
set_option linter.unusedVariables false

/-- The pieces N are the reference's, in the state s. -/
def RfIs (y : Nat) (s : NSt) (N : List Pc) : Prop := ∃ (r : RSt) (sl : Value) (gs : List RG), N = rnP y r.n r.room sl r.t gs ∧ gs.map RG.m = r.l ∧ r.n = s.n ∧ r.room = s.room ∧ r.t = s.t ∧ (∀ k, filt r.l k = s.F k) ∧ ∀ x ∈ r.l, (0 ≤ x.1.1 ∧ x.1.1 < (s.n : Int)) ∧ (0 ≤ x.1.2 ∧ x.1.2 < (s.n : Int))
section
variable {p y : Nat} {s s2 : NSt} {L N : List Pc} {w w' : World}
theorem RfIs.at (h : RfIs y s N) (H : SL w (N ++ L)) : RF y s L w := by
  obtain ⟨r, sl, gs, rfl, e, rest⟩ := h
  exact ⟨r, ⟨sl, gs, H, e⟩, rest⟩
theorem RF.is (H : RF y s L w) : ∃ N, RfIs y s N ∧ SL w (N ++ L) := by
  obtain ⟨r, ⟨sl, gs, HS, hgs⟩, rest⟩ := H
  exact ⟨_, ⟨r, sl, gs, rfl, hgs, rest⟩, HS⟩
def Bth (p : Nat) (s : NSt) (y : Nat) (s2 : NSt) (L : List Pc) (V : World) : Prop := ∃ N, RfIs y s2 N ∧ NAt p s (N ++ L) V
theorem Bth.rf (H : Bth p s y s2 L w) : ∃ N, NetIs p s N ∧ RF y s2 (N ++ L) w := by
  obtain ⟨N, h, H⟩ := H
  obtain ⟨N', h', H'⟩ := H.is
  exact ⟨N', h', h.at (SL.swap H')⟩
theorem Bth.of (h : NetIs p s N) (H : RF y s2 (N ++ L) w) : Bth p s y s2 L w := by
  obtain ⟨N', h', H'⟩ := H.is
  exact ⟨N', h', h.at (SL.swap H')⟩
theorem Bth.tail (H : Bth p s y s2 L w) : SL w L := by
  obtain ⟨N, h, H⟩ := H
  exact H.tail.re (re_right _ _)
theorem Bth.map {L' : List Pc} (H : Bth p s y s2 L w) (h : ∀ N, SL w (N ++ L) → SL w' (N ++ L')) : Bth p s y s2 L' w' := by
  obtain ⟨N, hN, H⟩ := H
  exact ⟨N, hN, H.map fun M hM => by rw [← List.append_assoc] at hM ⊢; exact h _ hM⟩
theorem Bth.re {L' : List Pc} (H : Bth p s y s2 L w) (r : Re L L') : Bth p s y s2 L' w := H.map fun N h => h.re (re_app N r)
theorem Bth.drew (H : Bth p s y s2 L w) : Bth p s y s2 L w.drew := H.map fun N h => h.drew
theorem Bth.drewN (H : Bth p s y s2 L w) (n : Nat) : Bth p s y s2 L (w.drewN n) := H.map fun N h => h.drewN n
theorem Bth.alloc (H : Bth p s y s2 L w) (cs : List Value) (t : TypeId) : Bth p s y s2 (.blk w.heap.size cs t :: L) (w.alloc (.cells cs.toArray t)) := H.map fun N h => (h.alloc cs t).perm List.perm_middle.symm
theorem swap_mid (X N L : List Pc) : (X ++ (N ++ L)).Perm (N ++ (X ++ L)) := List.perm_append_comm_assoc X N L
/-- A call of the net. -/
theorem Bth.lift1 {α : Type} {P : α → Ending → Prop} {S : α → NSt} {X : α → List Pc} {f : FuncId} {args : Array Value} (H : Bth p s y s2 L w) (h : ∀ L', NAt p s L' w → Calls Try.prog f args w fun e w' => ∃ x, P x e ∧ NAt p (S x) (X x ++ L') w') :
    Calls Try.prog f args w fun e w' => ∃ x, P x e ∧ Bth p (S x) y s2 (X x ++ L) w' := by
  obtain ⟨N, hN, H⟩ := H
  refine (h _ H).mono ?_
  rintro e w' ⟨x, h1, h2⟩
  exact ⟨x, h1, N, hN, h2.map fun M hM => hM.perm ((swap_mid _ _ _).append_left M)⟩
/-- A call of the reference. -/
theorem Bth.lift2 {α : Type} {P : α → Ending → Prop} {S : α → NSt} {X : α → List Pc} {f : FuncId} {args : Array Value} (H : Bth p s y s2 L w) (h : ∀ L', RF y s2 L' w → Calls Try.prog f args w fun e w' => ∃ x, P x e ∧ RF y (S x) (X x ++ L') w') :
    Calls Try.prog f args w fun e w' => ∃ x, P x e ∧ Bth p s y (S x) (X x ++ L) w' := by
  obtain ⟨N, hN, H⟩ := H.rf
  refine (h _ H).mono ?_
  rintro e w' ⟨x, h1, h2⟩
  exact ⟨x, h1, Bth.of hN (h2.map fun M hM => hM.perm ((swap_mid _ _ _).append_left M))⟩
theorem Bth.all (H : Bth p s y s2 L w) : allF s.n s.F ≤ 1048576 := by
  obtain ⟨N, hN, H⟩ := H
  exact allF_le H
theorem Bth.n64 (H : Bth p s y s2 L w) : s.n ≤ 64 := by
  obtain ⟨N, hN, H⟩ := H
  exact H.sizes.2.1
theorem NAt.byte (H : NAt p s L w) (k : Ky) : ∀ b ∈ s.F k, b.length ≤ 1100 := by
  obtain ⟨m, xs, -, ok, hF⟩ := H
  rw [← hF]
  rcases look_cases xs k with h' | ⟨i, hi, h'⟩
  · rw [(look_none h').1]; simp
  · rw [(look_at ok hi h').1]
    intro b hb
    obtain ⟨g, hg, rfl⟩ := List.mem_map.1 hb
    exact ok.byte _ (List.getElem_mem hi) g hg
theorem NAt.the_le (H : NAt p s L w) (a b j : Int) : (s.the a b j).length ≤ 1100 := by
  unfold NSt.the
  rw [List.getD_eq_getElem?_getD]
  cases h : (s.F (a, b))[j.toNat]? with
  | none => simp
  | some x => exact H.byte (a, b) x (List.mem_of_getElem? h)

/-- bytes, of one's own and another one's: they are the same. -/
theorem bytes_own {v : SlT} {bs : List Int} (H : SL w (grP ⟨v, bs⟩ :: L)) (hl : bs.length ≤ 1100) (b : Option Addr) (c : Nat) (hr : ∀ V, SL V L → RdB V b bs ∧ (b = none → bs = [])) :
    Calls Try.prog 40 #[slV v, .slice b bs.length c] w fun e w' => e = .returned (.bool true) ∧ SL w' L := by
  obtain ⟨va, vc, hv, hvn, hvr, -⟩ := gr_slice H (.here _ _)
  dsimp only at hv hvr
  subst hv
  have hH := Lib.hid H
  have h1 := gr_str H (.here _ _)
  have h2 := run_str c (hr w H.tail).1 (hr w H.tail).2
  dsimp only [slV] at h1 ⊢
  obtain ⟨n, hn⟩ : ∃ n, bs.length = n := ⟨_, rfl⟩
  have hn' := Lib.hid hn
  rw [hn] at h1 h2 hl ⊢
  generalize strOfNums bs = str at *
  clear hn hr H hvn hvr
  go_enter Try.func40, Try.ntmps40
  go_wp2_with fail
  clear h1 h2
  go_loopw [14] (fun i V => ∃ (j : Nat) (xs : List Int), j ≤ n ∧ i = .int .i64 j ∧ Hid (xs.length = n ∧ SL V (grP ⟨(va, n, vc), xs⟩ :: L))) (fun i _ => n - (intOf i).toNat)
  case atStart => exact ⟨0, bs, by omega, rfl, Lib.hid ⟨hn'.out, by have := hH.out; rw [hn'.out] at this; exact this⟩⟩
  case round =>
    clear hH
    obtain ⟨j, xs, hj, rfl, hR⟩ := hrel
    by_cases hjn : j < n
    · obtain ⟨hx, HS⟩ := hR.out
      obtain ⟨b1, c1, e1, cb, fb, -, -⟩ := gram_form (g := ⟨(va, n, vc), xs⟩) HS.head (o := j) (by rw [hx]; exact hjn)
      dsimp only at e1
      simp only [Prod.mk.injEq] at e1
      obtain ⟨rfl, -, e3⟩ := e1
      subst e3
      generalize hzb : xs.getD j 0 = zb at *
      have hst := Lib.hid (fun z => (show (xs.set j z).length = n ∧ SL (wr.setCell ⟨b1, j, none⟩ (.int .u8 z)) (grP ⟨(some ⟨b1, 0, none⟩, n, vc), xs.set j z⟩ :: L) from ⟨by rw [List.length_set]; exact hx, by
        have h := HS
        rw [← hx] at h
        have h2 := gr_store h j z
        rw [hx] at h2
        exact h2⟩))
      clear hR HS hx hzb
      go_wp2_with fail
      go_roundw
      case rel => exact ⟨j + 1, xs.set j _, by omega, by go_num, Lib.hid (hst.out _)⟩
      case measure => (simp [intOf]; try omega)
    · obtain rfl : j = n := by omega
      have hfin := Lib.hid hR.out.2.tail
      clear hR
      go_wp2_with fail
      go_ret
      exact ⟨rfl, hfin.out⟩
end
end Go.Proofs.Ytnkahibddhchlaa
