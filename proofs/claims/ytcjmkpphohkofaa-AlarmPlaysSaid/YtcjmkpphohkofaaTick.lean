/- Tick. -/
import Derived.Test.YtcjmkpphohkofaaNext
namespace Go.Proofs.Ytcjmkpphohkofaa
open Go.RowKit Go.Shelf
set_option linter.unusedVariables false
attribute [local go_sem] Oper.semAt_some

/-- One alarm's tick. -/
def tk (b : Int) (x : Al) : Al := if 1 < x.left then ⟨x.key, x.wait, x.left - 1, x.rung⟩ else ⟨x.key, min (2 * x.wait) b, min (2 * x.wait) b, x.rung + 1⟩
def ringP (x : Al) : Bool := !decide (1 < x.left)
def ringsK (l : List Al) : List Int := keysK (l.filter ringP)
def tickS (s : Ck) : Ck := { s with l := s.l.map (tk s.b) }
def tkT (b : Int) (l : List Al) (i : Nat) : List Al := (l.take i).map (tk b) ++ l.drop i
theorem tkT_length (b : Int) (l : List Al) (i : Nat) : (tkT b l i).length = l.length := by
  unfold tkT
  rw [List.length_append, List.length_map, ← List.length_append, List.take_append_drop]
theorem tkT_at (b : Int) (l : List Al) {i : Nat} (hi : i < l.length) : ∃ h : i < (tkT b l i).length, (tkT b l i)[i]'h = l[i]'hi := by
  refine ⟨by rw [tkT_length]; exact hi, ?_⟩
  unfold tkT
  rw [List.getElem_append_right (by simp [Nat.min_eq_left (Nat.le_of_lt hi)])]
  simp [Nat.min_eq_left (Nat.le_of_lt hi)]
theorem tkT_succ (b : Int) (l : List Al) {i : Nat} (hi : i < l.length) : (tkT b l i).set i (tk b (l[i]'hi)) = tkT b l (i + 1) := by
  unfold tkT
  have hl : ((l.take i).map (tk b)).length = i := by rw [List.length_map, List.length_take]; omega
  rw [List.take_succ_eq_append_getElem hi, List.map_append, List.append_assoc, List.set_append_right _ _ (by omega), hl, Nat.sub_self, List.drop_eq_getElem_cons hi]
  rfl
theorem rings_take {l : List Al} {i : Nat} (hi : i < l.length) : ringsK (l.take (i + 1)) = ringsK (l.take i) ++ (if 1 < (l[i]'hi).left then [] else [(l[i]'hi).key]) := by
  rw [List.take_succ_eq_append_getElem hi]
  unfold ringsK keysK
  rw [List.filter_append, List.map_append]
  congr 1
  by_cases h : 1 < (l[i]'hi).left
  · simp [ringP, h]
  · simp [ringP, h]
theorem tk_ok {b R : Int} {x : Al} (h : AlOk b R x) : AlOk b (R + 1) (tk b x) := by
  obtain ⟨h1, h2, h3, h4⟩ := h
  unfold tk
  split
  · exact ⟨h1, h2, ⟨by dsimp only; omega, by dsimp only; omega⟩, ⟨h4.1, by dsimp only; omega⟩⟩
  · exact ⟨h1, ⟨by dsimp only; omega, by dsimp only; omega⟩, ⟨by dsimp only; omega, by dsimp only; omega⟩, ⟨by dsimp only; omega, by dsimp only; omega⟩⟩
theorem tk_key (b : Int) (x : Al) : (tk b x).key = x.key := by
  unfold tk
  split
  · rfl
  · rfl
theorem CkOk.tick {R : Int} {s : Ck} (h : CkOk R s) : CkOk (R + 1) (tickS s) := by
  refine ⟨h.a, h.b, by simpa [tickS] using h.len, h.srt.map (tk_key s.b), fun y hy => ?_⟩
  obtain ⟨x, hx, rfl⟩ := List.mem_map.1 hy
  exact tk_ok (h.all x hx)

section
variable {R : Int} {p : Nat} {s : Ck} {L : List Pc} {w : World}
set_option maxHeartbeats 8000000 in
theorem tick_c (H0 : CAt R p s L w) (hR : R ≤ 1000000000) :
    Calls Try.prog 12 #[ptrV p] w fun e w' => ∃ a c, e = .returned (.slice a (ringsK s.l).length c) ∧ CAt (R + 1) p (tickS s) (.own 30 1 (.slice a (ringsK s.l).length c) (ringsK s.l).length (uv (ringsK s.l)) :: L) w' := by
  have hno := Lib.hid (none_c (H0.alloc [ptrV p] 25))
  obtain ⟨sl, H, ok⟩ := H0
  obtain ⟨sa, sc, g, rfl, hsl⟩ := sl_parts (H.re (.step (.there (.here _ _)) (.same _)))
  obtain ⟨a, b, l⟩ := s
  dsimp only at *
  have hok := Lib.hid ok.tick
  have hal := Lib.hid ok.all
  have hb : b ≤ 65536 := ok.b
  have hlen := ok.len
  dsimp only at hlen
  have hall := Lib.hid (fun V L' (h : SL V L') => all_c p V h)
  obtain ⟨n, hn⟩ : ∃ n, l.length = n := ⟨_, rfl⟩
  have hg := Lib.hid (fun B => all_gives B p a b sa sc g n (fun i => tkT b l i) (fun i => by rw [tkT_length]; exact hn) (by omega) (by rw [← hn]; exact hsl))
  have hn' := Lib.hid hn
  have hH := Lib.hid ((show SL w (ckP p (.slice sa n sc) ⟨a, b, l⟩ ++ L) from by rw [hn] at H; exact H).alloc [ptrV p] 25)
  rw [hn] at hlen hsl
  have hmx : Try.prog.follows .mixedOrders = true := by kernel_rfl
  clear H ok hn
  refine calls_of_marks Try.func12 rfl ?_
  simp only [Try.ntmps12, List.size_toArray, List.length_cons, List.length_nil, Nat.reduceAdd, Nat.reduceSub, Array.replicate_succ, Array.replicate_zero, List.push_toArray, List.append_toArray, List.nil_append, List.cons_append]
  unfold ptrV at *
  gi_wp2_with (first | refine wpIn_label ?_ | refine scope_in ?_)
  generalize w.alloc (.cells [Value.pointer (some ⟨p, 0, none⟩)].toArray 25) = w1 at *
  generalize w.heap.size = cb at *
  refine ⟨trivial, rfl, calls_in (hno.out.mono ?_)⟩
  rintro e w' ⟨rfl, rfl⟩
  clear hno
  have k1 := hH.out.cell (b := cb) (o := 0) (.here _ _) rfl
  have hlt := blk_lt (show w1.heap[cb]? = some _ from hH.out.head)
  gi_wp2_with (first | refine wpIn_label ?_ | refine scope_in ?_)
  have H1 := (hH.out.pure (q := .own 30 1 (.slice none 0 0) 0 []) (OwnK.nil _ _ _ _) fun b h => by cases h).alloc [.slice none 0 0] 31
  generalize w1.alloc (.cells [Value.slice none 0 0].toArray 31) = w1' at *
  generalize w1.heap.size = S at *
  refine ⟨trivial, rfl, calls_in ((hall.out _ _ H1).mono ?_)⟩
  rintro e w2 ⟨B, rfl, H2⟩
  have H3 := Lib.hid (it_put (N := ckP p (.slice sa n sc) ⟨a, b, l⟩) (O := [.blk S [.slice none 0 0] 31, .own 30 1 (.slice none 0 0) 0 [], .blk cb [.pointer (some ⟨p, 0, none⟩)] 25]) H2)
  clear H1 H2 hall hH k1 hlt
  gi_wp2_with (first | refine wpIn_label ?_ | refine scope_in ?_)
  refine wp_rangeS rfl egA (hg.out B) (by intro x hx; obtain ⟨k, _, rfl⟩ := List.mem_map.1 hx; rfl)
    (fun i L' => ∃ a c m, (ringsK (l.take i)).length = m ∧ L' = .blk S [.slice a m c] 31 :: .own 30 1 (.slice a m c) m (uv (ringsK (l.take i))) :: .blk cb [.pointer (some ⟨p, 0, none⟩)] 25 :: L) (fun _ _ _ => False)
    (L0 := .blk S [.slice none 0 0] 31 :: .own 30 1 (.slice none 0 0) 0 [] :: .blk cb [.pointer (some ⟨p, 0, none⟩)] 25 :: L) ⟨none, 0, 0, by simp [ringsK, keysK], by simp [ringsK, keysK, uv]⟩ (by rw [show tkT b l 0 = l by simp [tkT]]; exact H3.out) ?_ ?_ ?_
  · rintro i hi V ll _ T ⟨oa, oc, m, hm, rfl⟩ H
    have hi' : i < n := by rw [alX_length] at hi; exact hi
    rw [alX_at]
    have hil : i < l.length := by rw [hn'.out]; exact hi'
    obtain ⟨rfl, hnc⟩ := hsl (by omega)
    have hxok := hal.out _ (List.getElem_mem hil)
    have hm2 : m ≤ 256 := by
      rw [← hm]
      unfold ringsK keysK
      rw [List.length_map]
      have h1 := List.length_filter_le ringP (l.take i)
      rw [List.length_take] at h1
      omega
    have hm' := Lib.hid hm
    have hsucc := Lib.hid (tkT_succ b l hil)
    have hrt := Lib.hid (rings_take hil)
    have hcell : Hid (∀ V (R : List Pc), SL V (.own 59 4 (.slice (some ⟨g, 0, none⟩) n sc) n (alC (tkT b l i)) :: R) → V.cell? ⟨g, i * 4, none⟩ = some (.int .u64 (l[i]'hil).key) ∧ V.cell? ⟨g, i * 4 + 1, none⟩ = some (.int .i64 (l[i]'hil).wait) ∧ V.cell? ⟨g, i * 4 + 2, none⟩ = some (.int .i64 (l[i]'hil).left) ∧ V.cell? ⟨g, i * 4 + 3, none⟩ = some (.int .i64 (l[i]'hil).rung)) := Lib.hid fun V R h => by
      obtain ⟨h1, h2⟩ := tkT_at b l hil
      have h3 : n = (tkT b l i).length := by rw [tkT_length, hn'.out]
      rw [h3] at h
      obtain ⟨g', cap', e, -, h0⟩ := own_al h h1
      cases e
      rw [h2] at h0
      exact h0
    have hsetx : Hid (∀ (y : Al), (alC ((tkT b l i).set i y)).length = n * 4 ∧ ∀ j, j < 4 → ∀ u y2, y.c.set j u = y2.c → (alC ((tkT b l i).set i y)).set (i * 4 + j) u = alC ((tkT b l i).set i y2)) := Lib.hid fun y => by
      refine ⟨by rw [alC_length, List.length_set, tkT_length, hn'.out], fun j hj u y2 h => ?_⟩
      have := alC_set (l := (tkT b l i).set i y) (i := i) (by rw [List.length_set, tkT_length]; exact hil) j hj u y2 (by rw [List.getElem_set_self]; exact h)
      rw [this, List.set_set]
    have hset0 : Hid (alC (tkT b l i) = alC ((tkT b l i).set i (l[i]'hil))) := Lib.hid (by
      obtain ⟨h1, h2⟩ := tkT_at b l hil
      rw [← h2, List.set_getElem_self])
    generalize l[i]'hil = x at *
    obtain ⟨k, wt, lf, rg⟩ := x
    obtain ⟨-, ⟨hw1, hw2⟩, ⟨hl1, hl2⟩, ⟨hr1, hr2⟩⟩ := hxok
    dsimp only at *
    clear H3 hg hm hal
    gi_wp2_with (first | refine wpIn_label ?_ | refine scope_in ?_)
    refine ⟨_, H, ?_⟩
    clear H
    intro V2 T2 H
    obtain ⟨Z, hZ⟩ : ∃ Z, Pc.blk B [ptrV p] 25 :: (L ++ T2) = Z := ⟨_, rfl⟩
    have hlT : (tkT b l i).length = n := by rw [tkT_length, hn'.out]
    have hin : ∀ V (S' U' : Pc) (ys : List Value), SL V (S' :: U' :: .blk cb [.pointer (some ⟨p, 0, none⟩)] 25 :: (L ++ ([.blk B [.pointer (some ⟨p, 0, none⟩)] 25, ckB p a b (.slice (some ⟨g, 0, none⟩) n sc), .own 59 4 (.slice (some ⟨g, 0, none⟩) n sc) n ys] ++ T2))) → SL V (.own 59 4 (.slice (some ⟨g, 0, none⟩) n sc) n ys :: ckB p a b (.slice (some ⟨g, 0, none⟩) n sc) :: .blk cb [.pointer (some ⟨p, 0, none⟩)] 25 :: S' :: U' :: Z) := fun V S' U' ys h => by
      have h1 := h.perm (((List.perm_append_comm_assoc L _ T2).cons _).cons _ |>.cons _)
      rw [← hZ]
      exact h1.re (.step (.there (.there (.there (.there (.there (.here _ _)))))) (.step (.there (.there (.there (.there (.here _ _))))) (.step (.there (.there (.here _ _))) (.step (.here _ _) (.step (.here _ _) (.same _))))))
    have hout : ∀ V (S' U' : Pc) (ys : List Value), SL V (.own 59 4 (.slice (some ⟨g, 0, none⟩) n sc) n ys :: ckB p a b (.slice (some ⟨g, 0, none⟩) n sc) :: .blk cb [.pointer (some ⟨p, 0, none⟩)] 25 :: S' :: U' :: Z) → SL V (S' :: U' :: .blk cb [.pointer (some ⟨p, 0, none⟩)] 25 :: (L ++ ([.blk B [.pointer (some ⟨p, 0, none⟩)] 25, ckB p a b (.slice (some ⟨g, 0, none⟩) n sc), .own 59 4 (.slice (some ⟨g, 0, none⟩) n sc) n ys] ++ T2))) := fun V S' U' ys h => by
      rw [← hZ] at h
      have h1 : SL V (S' :: U' :: .blk cb [.pointer (some ⟨p, 0, none⟩)] 25 :: ([.blk B [.pointer (some ⟨p, 0, none⟩)] 25, ckB p a b (.slice (some ⟨g, 0, none⟩) n sc), .own 59 4 (.slice (some ⟨g, 0, none⟩) n sc) n ys] ++ (L ++ T2))) :=
        h.re (.step (.there (.there (.there (.here _ _)))) (.step (.there (.there (.there (.here _ _)))) (.step (.there (.there (.here _ _))) (.step (.there (.there (.here _ _))) (.step (.there (.here _ _)) (.step (.here _ _) (.same _)))))))
      exact h1.perm (((List.perm_append_comm_assoc _ L T2).cons _).cons _ |>.cons _)
    have hout := Lib.hid hout
    have hall' : Hid (allP B p a b (.slice (some ⟨g, 0, none⟩) n sc) (tkT b l (i + 1)) = [.blk B [.pointer (some ⟨p, 0, none⟩)] 25, ckB p a b (.slice (some ⟨g, 0, none⟩) n sc), .own 59 4 (.slice (some ⟨g, 0, none⟩) n sc) n (alC (tkT b l (i + 1)))]) := Lib.hid (by unfold allP; rw [tkT_length, hn'.out])
    have hcellY : Hid (∀ (y : Al) V (R : List Pc), SL V (.own 59 4 (.slice (some ⟨g, 0, none⟩) n sc) n (alC ((tkT b l i).set i y)) :: R) → V.cell? ⟨g, i * 4, none⟩ = some (.int .u64 y.key) ∧ V.cell? ⟨g, i * 4 + 1, none⟩ = some (.int .i64 y.wait) ∧ V.cell? ⟨g, i * 4 + 2, none⟩ = some (.int .i64 y.left) ∧ V.cell? ⟨g, i * 4 + 3, none⟩ = some (.int .i64 y.rung)) := Lib.hid fun y V R h => by
      have h1 : i < ((tkT b l i).set i y).length := by rw [List.length_set, tkT_length]; exact hil
      have h3 : n = ((tkT b l i).set i y).length := by rw [List.length_set, tkT_length, hn'.out]
      rw [h3] at h
      obtain ⟨g', cap', e, -, h0⟩ := own_al h h1
      cases e
      rw [List.getElem_set_self] at h0
      exact h0
    have H : SL V2 (.own 59 4 (.slice (some ⟨g, 0, none⟩) n sc) n (alC (tkT b l i)) :: ckB p a b (.slice (some ⟨g, 0, none⟩) n sc) :: .blk cb [.pointer (some ⟨p, 0, none⟩)] 25 :: .blk S [.slice oa m oc] 31 :: .own 30 1 (.slice oa m oc) m (uv (ringsK (l.take i))) :: Z) := by
      unfold allP at H
      rw [hlT] at H
      exact hin _ _ _ _ H
    obtain ⟨c0, c1, c2, c3⟩ := hcell.out _ _ H
    have hfr := fun o => own_free H o
    have hH := Lib.hid H
    clear H hcell hin hlT hZ
    by_cases hlf : 1 < lf
    · rw [if_pos hlf, List.append_nil] at hrt
      have hfin : Hid (SL (V2.setCell ⟨g, i * 4 + 2, none⟩ (.int .i64 (lf - 1))) (.own 59 4 (.slice (some ⟨g, 0, none⟩) n sc) n (alC (tkT b l (i + 1))) :: ckB p a b (.slice (some ⟨g, 0, none⟩) n sc) :: .blk cb [.pointer (some ⟨p, 0, none⟩)] 25 :: .blk S [.slice oa m oc] 31 :: .own 30 1 (.slice oa m oc) m (uv (ringsK (l.take i))) :: Z)) := Lib.hid (by
        have h := own_storeK hH.out (i * 4 + 2) (.int .i64 (lf - 1))
        rw [hset0.out, (hsetx.out ⟨k, wt, lf, rg⟩).2 2 (by omega) (.int .i64 (lf - 1)) ⟨k, wt, lf - 1, rg⟩ rfl] at h
        rw [← hsucc.out]
        unfold tk
        rw [if_pos hlf]
        exact h)
      clear hsetx hset0 hsucc hH
      gi_wp2_with (first | refine wpIn_label ?_ | refine scope_in ?_)
      refine ⟨_, ⟨oa, oc, rfl⟩, ?_⟩
      rw [hrt.out, hm'.out]
      have h := hout.out _ _ _ _ hfin.out
      rw [← hall'.out] at h
      exact h
    · obtain rfl : lf = 1 := by omega
      rw [if_neg (by omega)] at hrt
      clear hl1 hl2 hlf
      gi_wp2_with (first | refine wpIn_label ?_ | refine scope_in ?_)
      have h3 := own_storeK hH.out (i * 4 + 2) (.int .i64 0)
      rw [hset0.out, (hsetx.out ⟨k, wt, 1, rg⟩).2 2 (by omega) (.int .i64 0) ⟨k, wt, 0, rg⟩ rfl] at h3
      rw [show i * 4 + 1 + 1 = i * 4 + 2 from rfl]
      generalize V2.setCell ⟨g, i * 4 + 2, none⟩ (.int .i64 0) = V3 at *
      clear c0 c1 c2 c3 hfr hH H
      obtain ⟨c0, c1, c2, c3⟩ := hcellY.out _ _ _ h3
      have hfr := fun o => own_free h3 o
      have k1 := h3.cell (b := cb) (o := 0) (.there (.there (.here _ _))) rfl
      have k2 := h3.cell (b := p) (o := 1) (.there (.here _ _)) rfl
      have hH := Lib.hid h3
      clear h3
      have hmin : Hid (∃ mn, min (2 * wt) b = mn ∧ 1 ≤ mn ∧ mn ≤ b) := Lib.hid ⟨_, rfl, by omega, by omega⟩
      have hwm : IntKind.i64.wrap (2 * wt) = 2 * wt := IntWalk.i64_in _ ⟨by omega, by omega⟩
      obtain ⟨mn, hmn, hmn1, hmn2⟩ := hmin.out
      have hmn' := Lib.hid hmn
      clear hmin c0 c1 c2 c3 hfr k1 k2
      refine region_round (S := (fun W => W.cell? ⟨cb, 0, none⟩ = some (.pointer (some ⟨p, 0, none⟩)) ∧ W.cell? ⟨p, 1, none⟩ = some (.int .i64 b))) (fun act w => ∃ (y5 y6 y7 y8 y9 y10 y11 y12 y13 y14 y15 y16 y17 y18 y19 y20 y21 y22 y23 y24 y25 y26 y27 y28 y29 y30 y31 y32 y33 y34 y35 y36 y37 y38 y39 : Value), act = { tmps := #[.pointer (some ⟨p, 0, none⟩), .pointer (some ⟨cb, 0, none⟩), .slice none 0 0, .pointer (some ⟨S, 0, none⟩), .pointer (some ⟨g, i * 4, none⟩), y5, y6, y7, y8, y9, y10, y11, y12, y13, y14, y15, y16, y17, y18, y19, y20, y21, y22, y23, y24, y25, y26, y27, y28, y29, y30, y31, y32, y33, y34, y35, y36, y37, y38, y39, undef, undef, undef, undef, undef, undef, undef, undef, undef, undef, undef, undef, undef, undef, undef, undef, undef, undef, undef, undef, undef, undef, undef, undef, undef, undef], defers := [] } ∧ SL w (.own 59 4 (.slice (some ⟨g, 0, none⟩) n sc) n (alC ((tkT b l i).set i ⟨k, mn, 0, rg⟩)) :: ckB p a b (.slice (some ⟨g, 0, none⟩) n sc) :: .blk cb [.pointer (some ⟨p, 0, none⟩)] 25 :: .blk S [.slice oa m oc] 31 :: .own 30 1 (.slice oa m oc) m (uv (ringsK (l.take i))) :: Z)) (by kernel_rfl) (by kernel_rfl) ?_ (fun hHeld => ?_) ?_
      · have H := hH.out.drew
        exact ⟨H.cell (b := cb) (o := 0) (by first | exact .here _ _ | exact .there (.here _ _) | exact .there (.there (.here _ _)) | exact .there (.there (.there (.here _ _))) | exact .there (.there (.there (.there (.here _ _)))) | exact .there (.there (.there (.there (.there (.here _ _))))) | exact .there (.there (.there (.there (.there (.there (.here _ _)))))) | exact .there (.there (.there (.there (.there (.there (.there (.here _ _))))))) | exact .there (.there (.there (.there (.there (.there (.there (.there (.here _ _)))))))) | exact .there (.there (.there (.there (.there (.there (.there (.there (.there (.here _ _))))))))) | exact .there (.there (.there (.there (.there (.there (.there (.there (.there (.there (.here _ _)))))))))) | exact .there (.there (.there (.there (.there (.there (.there (.there (.there (.there (.there (.here _ _))))))))))) | exact .there (.there (.there (.there (.there (.there (.there (.there (.there (.there (.there (.there (.here _ _)))))))))))) | exact .there (.there (.there (.there (.there (.there (.there (.there (.there (.there (.there (.there (.there (.here _ _)))))))))))))) rfl, H.cell (b := p) (o := 1) (by first | exact .here _ _ | exact .there (.here _ _) | exact .there (.there (.here _ _)) | exact .there (.there (.there (.here _ _))) | exact .there (.there (.there (.there (.here _ _)))) | exact .there (.there (.there (.there (.there (.here _ _))))) | exact .there (.there (.there (.there (.there (.there (.here _ _)))))) | exact .there (.there (.there (.there (.there (.there (.there (.here _ _))))))) | exact .there (.there (.there (.there (.there (.there (.there (.there (.here _ _)))))))) | exact .there (.there (.there (.there (.there (.there (.there (.there (.there (.here _ _))))))))) | exact .there (.there (.there (.there (.there (.there (.there (.there (.there (.there (.here _ _)))))))))) | exact .there (.there (.there (.there (.there (.there (.there (.there (.there (.there (.there (.here _ _))))))))))) | exact .there (.there (.there (.there (.there (.there (.there (.there (.there (.there (.there (.there (.here _ _)))))))))))) | exact .there (.there (.there (.there (.there (.there (.there (.there (.there (.there (.there (.there (.there (.here _ _)))))))))))))) rfl⟩
      have H := hH.out.drew
      generalize World.drew V3 = V4 at *
      clear hH
      refine takeL (i := 0) rfl (by kernel_rfl) (by kernel_rfl) (by kernel_rfl) (fun _ _ _ _ h => h) hHeld ?_ (Or.inl ⟨by rfl, ?_⟩) ?_
      rotate_left
      · intro W hW
        (try dsimp only at hW)
        first | (go_simp; done) | (go_simp; with_reducible rfl)
      ((try simp only [Act.put]); (try simp only [List.setIfInBounds_toArray]); (try simp only [List.set_cons_succ]); (try simp only [List.set_cons_zero]))
      refine takeL (i := 1) rfl (by kernel_rfl) (by kernel_rfl) (by kernel_rfl) (fun _ _ _ _ h => h) hHeld ?_ (Or.inl ⟨by rfl, ?_⟩) ?_
      rotate_left
      · intro W hW
        (try dsimp only at hW)
        first | (go_simp; done) | (go_simp; with_reducible rfl)
      ((try simp only [Act.put]); (try simp only [List.setIfInBounds_toArray]); (try simp only [List.set_cons_succ]); (try simp only [List.set_cons_zero]))
      refine takeL (i := 2) rfl (by kernel_rfl) (by kernel_rfl) (by kernel_rfl) (fun _ _ _ _ h => h) hHeld ?_ (Or.inl ⟨by rfl, ?_⟩) ?_
      rotate_left
      · intro W hW
        (try dsimp only at hW)
        first | (go_simp; done) | (go_simp; with_reducible rfl)
      ((try simp only [Act.put]); (try simp only [List.setIfInBounds_toArray]); (try simp only [List.set_cons_succ]); (try simp only [List.set_cons_zero]))
      refine takeL (i := 3) rfl (by kernel_rfl) (by kernel_rfl) (by kernel_rfl) (fun _ _ _ _ h => h) hHeld ?_ (Or.inl ⟨by rfl, ?_⟩) ?_
      rotate_left
      · intro W hW
        (try dsimp only at hW)
        first | (go_simp; done) | (go_simp; with_reducible rfl)
      ((try simp only [Act.put]); (try simp only [List.setIfInBounds_toArray]); (try simp only [List.set_cons_succ]); (try simp only [List.set_cons_zero]))
      refine takeL (i := 4) rfl (by kernel_rfl) (by kernel_rfl) (by kernel_rfl) (fun _ _ _ _ h => h) hHeld ?_ (Or.inl ⟨by rfl, ?_⟩) ?_
      rotate_left
      · intro W hW
        (try dsimp only at hW)
        first | (go_simp; done) | (go_simp; with_reducible rfl)
      ((try simp only [Act.put]); (try simp only [List.setIfInBounds_toArray]); (try simp only [List.set_cons_succ]); (try simp only [List.set_cons_zero]))
      refine takeL (i := 7) rfl (by kernel_rfl) (by kernel_rfl) (by kernel_rfl) (fun _ _ _ _ h => h) hHeld ?_ (Or.inl ⟨by rfl, ?_⟩) ?_
      rotate_left
      · intro W hW
        (try dsimp only at hW)
        first | (go_simp; done) | (go_simp; with_reducible rfl)
      ((try simp only [Act.put]); (try simp only [List.setIfInBounds_toArray]); (try simp only [List.set_cons_succ]); (try simp only [List.set_cons_zero]))
      refine takeL (i := 8) rfl (by kernel_rfl) (by kernel_rfl) (by kernel_rfl) (fun _ _ _ _ h => h) hHeld ?_ (Or.inl ⟨by rfl, ?_⟩) ?_
      rotate_left
      · intro W hW
        (try dsimp only at hW)
        first | (go_simp; done) | (go_simp; with_reducible rfl)
      ((try simp only [Act.put]); (try simp only [List.setIfInBounds_toArray]); (try simp only [List.set_cons_succ]); (try simp only [List.set_cons_zero]))
      refine takeL (i := 9) rfl (by kernel_rfl) (by kernel_rfl) (by kernel_rfl) (fun _ _ _ _ h => h) hHeld ?_ (Or.inl ⟨by rfl, ?_⟩) ?_
      rotate_left
      · intro W hW
        (try dsimp only at hW)
        first | (go_simp; done) | (go_simp; with_reducible rfl)
      ((try simp only [Act.put]); (try simp only [List.setIfInBounds_toArray]); (try simp only [List.set_cons_succ]); (try simp only [List.set_cons_zero]))
      refine takeL (i := 10) rfl (by kernel_rfl) (by kernel_rfl) (by kernel_rfl) (fun _ _ _ _ h => h) hHeld ?_ (Or.inl ⟨by rfl, ?_⟩) ?_
      rotate_left
      · intro W hW
        (try dsimp only at hW)
        first | (go_simp; done) | (go_simp; with_reducible rfl)
      ((try simp only [Act.put]); (try simp only [List.setIfInBounds_toArray]); (try simp only [List.set_cons_succ]); (try simp only [List.set_cons_zero]))
      refine callL (i := 5) rfl (by kernel_rfl) (fun K hK => ?_)
      rw [if_pos (by rfl)]
      have c1 := (hcellY.out _ _ _ H).2.1
      go_simp
      clear c1 hHeld
      refine hK.out _ _ ?_ (fun hHeld => ?_)
      · exact ⟨H.cell (b := cb) (o := 0) (by first | exact .here _ _ | exact .there (.here _ _) | exact .there (.there (.here _ _)) | exact .there (.there (.there (.here _ _))) | exact .there (.there (.there (.there (.here _ _)))) | exact .there (.there (.there (.there (.there (.here _ _))))) | exact .there (.there (.there (.there (.there (.there (.here _ _)))))) | exact .there (.there (.there (.there (.there (.there (.there (.here _ _))))))) | exact .there (.there (.there (.there (.there (.there (.there (.there (.here _ _)))))))) | exact .there (.there (.there (.there (.there (.there (.there (.there (.there (.here _ _))))))))) | exact .there (.there (.there (.there (.there (.there (.there (.there (.there (.there (.here _ _)))))))))) | exact .there (.there (.there (.there (.there (.there (.there (.there (.there (.there (.there (.here _ _))))))))))) | exact .there (.there (.there (.there (.there (.there (.there (.there (.there (.there (.there (.there (.here _ _)))))))))))) | exact .there (.there (.there (.there (.there (.there (.there (.there (.there (.there (.there (.there (.there (.here _ _)))))))))))))) rfl, H.cell (b := p) (o := 1) (by first | exact .here _ _ | exact .there (.here _ _) | exact .there (.there (.here _ _)) | exact .there (.there (.there (.here _ _))) | exact .there (.there (.there (.there (.here _ _)))) | exact .there (.there (.there (.there (.there (.here _ _))))) | exact .there (.there (.there (.there (.there (.there (.here _ _)))))) | exact .there (.there (.there (.there (.there (.there (.there (.here _ _))))))) | exact .there (.there (.there (.there (.there (.there (.there (.there (.here _ _)))))))) | exact .there (.there (.there (.there (.there (.there (.there (.there (.there (.here _ _))))))))) | exact .there (.there (.there (.there (.there (.there (.there (.there (.there (.there (.here _ _)))))))))) | exact .there (.there (.there (.there (.there (.there (.there (.there (.there (.there (.there (.here _ _))))))))))) | exact .there (.there (.there (.there (.there (.there (.there (.there (.there (.there (.there (.there (.here _ _)))))))))))) | exact .there (.there (.there (.there (.there (.there (.there (.there (.there (.there (.there (.there (.there (.here _ _)))))))))))))) rfl⟩
      clear hK K
      ((try simp only [Act.put]); (try simp only [List.setIfInBounds_toArray]); (try simp only [List.set_cons_succ]); (try simp only [List.set_cons_zero]))
      refine takeL (i := 6) rfl (by kernel_rfl) (by kernel_rfl) (by kernel_rfl) (fun _ _ _ _ h => h) hHeld ?_ (Or.inl ⟨by rfl, ?_⟩) ?_
      rotate_left
      · intro W hW
        (try dsimp only at hW)
        first | (go_simp; done) | (go_simp; with_reducible rfl)
      ((try simp only [Act.put]); (try simp only [List.setIfInBounds_toArray]); (try simp only [List.set_cons_succ]); (try simp only [List.set_cons_zero]))
      refine callL (i := 11) rfl (by kernel_rfl) (fun K hK => ?_)
      rw [if_pos (by rfl)]
      go_simp
      refine hK.out _ _ ?_ (fun hHeld => ?_)
      · exact ⟨H.cell (b := cb) (o := 0) (by first | exact .here _ _ | exact .there (.here _ _) | exact .there (.there (.here _ _)) | exact .there (.there (.there (.here _ _))) | exact .there (.there (.there (.there (.here _ _)))) | exact .there (.there (.there (.there (.there (.here _ _))))) | exact .there (.there (.there (.there (.there (.there (.here _ _)))))) | exact .there (.there (.there (.there (.there (.there (.there (.here _ _))))))) | exact .there (.there (.there (.there (.there (.there (.there (.there (.here _ _)))))))) | exact .there (.there (.there (.there (.there (.there (.there (.there (.there (.here _ _))))))))) | exact .there (.there (.there (.there (.there (.there (.there (.there (.there (.there (.here _ _)))))))))) | exact .there (.there (.there (.there (.there (.there (.there (.there (.there (.there (.there (.here _ _))))))))))) | exact .there (.there (.there (.there (.there (.there (.there (.there (.there (.there (.there (.there (.here _ _)))))))))))) | exact .there (.there (.there (.there (.there (.there (.there (.there (.there (.there (.there (.there (.there (.here _ _)))))))))))))) rfl, H.cell (b := p) (o := 1) (by first | exact .here _ _ | exact .there (.here _ _) | exact .there (.there (.here _ _)) | exact .there (.there (.there (.here _ _))) | exact .there (.there (.there (.there (.here _ _)))) | exact .there (.there (.there (.there (.there (.here _ _))))) | exact .there (.there (.there (.there (.there (.there (.here _ _)))))) | exact .there (.there (.there (.there (.there (.there (.there (.here _ _))))))) | exact .there (.there (.there (.there (.there (.there (.there (.there (.here _ _)))))))) | exact .there (.there (.there (.there (.there (.there (.there (.there (.there (.here _ _))))))))) | exact .there (.there (.there (.there (.there (.there (.there (.there (.there (.there (.here _ _)))))))))) | exact .there (.there (.there (.there (.there (.there (.there (.there (.there (.there (.there (.here _ _))))))))))) | exact .there (.there (.there (.there (.there (.there (.there (.there (.there (.there (.there (.there (.here _ _)))))))))))) | exact .there (.there (.there (.there (.there (.there (.there (.there (.there (.there (.there (.there (.there (.here _ _)))))))))))))) rfl⟩
      clear hK K
      ((try simp only [Act.put]); (try simp only [List.setIfInBounds_toArray]); (try simp only [List.set_cons_succ]); (try simp only [List.set_cons_zero]))
      refine takeL (i := 12) rfl (by kernel_rfl) (by kernel_rfl) (by kernel_rfl) (fun _ _ _ _ h => h) hHeld ?_ (Or.inl ⟨by rfl, ?_⟩) ?_
      rotate_left
      · intro W hW
        (try dsimp only at hW)
        first | (go_simp; done) | (go_simp; with_reducible rfl)
      ((try simp only [Act.put]); (try simp only [List.setIfInBounds_toArray]); (try simp only [List.set_cons_succ]); (try simp only [List.set_cons_zero]))
      refine takeL (i := 13) rfl (by kernel_rfl) (by kernel_rfl) (by kernel_rfl) (fun _ _ _ _ h => h) hHeld ?_ (Or.inl ⟨by rfl, ?_⟩) ?_
      rotate_left
      · intro W hW
        (try dsimp only at hW)
        first | (go_simp; done) | (go_simp; with_reducible rfl)
      ((try simp only [Act.put]); (try simp only [List.setIfInBounds_toArray]); (try simp only [List.set_cons_succ]); (try simp only [List.set_cons_zero]))
      refine takeL (i := 14) rfl (by kernel_rfl) (by kernel_rfl) (by kernel_rfl) (fun _ _ _ _ h => h) hHeld ?_ (Or.inl ⟨by rfl, ?_⟩) ?_
      rotate_left
      · intro W hW
        (try dsimp only at hW)
        first | (go_simp; done) | (go_simp; with_reducible rfl)
      ((try simp only [Act.put]); (try simp only [List.setIfInBounds_toArray]); (try simp only [List.set_cons_succ]); (try simp only [List.set_cons_zero]))
      refine callL (i := 15) rfl (by kernel_rfl) (fun K hK => ?_)
      rw [if_pos (by rfl)]
      have f1 := own_free H (i * 4 + 1)
      have c1 := (hcellY.out _ _ _ H).2.1
      go_simp
      have H' := own_storeK H (i * 4 + 1) (.int .i64 mn)
      rw [(hsetx.out ⟨k, wt, 0, rg⟩).2 1 (by omega) (.int .i64 mn) ⟨k, mn, 0, rg⟩ rfl] at H'
      clear H hHeld f1 c1
      have H := H'
      clear H'
      refine hK.out _ _ ?_ (fun hHeld => ?_)
      · exact ⟨H.cell (b := cb) (o := 0) (by first | exact .here _ _ | exact .there (.here _ _) | exact .there (.there (.here _ _)) | exact .there (.there (.there (.here _ _))) | exact .there (.there (.there (.there (.here _ _)))) | exact .there (.there (.there (.there (.there (.here _ _))))) | exact .there (.there (.there (.there (.there (.there (.here _ _)))))) | exact .there (.there (.there (.there (.there (.there (.there (.here _ _))))))) | exact .there (.there (.there (.there (.there (.there (.there (.there (.here _ _)))))))) | exact .there (.there (.there (.there (.there (.there (.there (.there (.there (.here _ _))))))))) | exact .there (.there (.there (.there (.there (.there (.there (.there (.there (.there (.here _ _)))))))))) | exact .there (.there (.there (.there (.there (.there (.there (.there (.there (.there (.there (.here _ _))))))))))) | exact .there (.there (.there (.there (.there (.there (.there (.there (.there (.there (.there (.there (.here _ _)))))))))))) | exact .there (.there (.there (.there (.there (.there (.there (.there (.there (.there (.there (.there (.there (.here _ _)))))))))))))) rfl, H.cell (b := p) (o := 1) (by first | exact .here _ _ | exact .there (.here _ _) | exact .there (.there (.here _ _)) | exact .there (.there (.there (.here _ _))) | exact .there (.there (.there (.there (.here _ _)))) | exact .there (.there (.there (.there (.there (.here _ _))))) | exact .there (.there (.there (.there (.there (.there (.here _ _)))))) | exact .there (.there (.there (.there (.there (.there (.there (.here _ _))))))) | exact .there (.there (.there (.there (.there (.there (.there (.there (.here _ _)))))))) | exact .there (.there (.there (.there (.there (.there (.there (.there (.there (.here _ _))))))))) | exact .there (.there (.there (.there (.there (.there (.there (.there (.there (.there (.here _ _)))))))))) | exact .there (.there (.there (.there (.there (.there (.there (.there (.there (.there (.there (.here _ _))))))))))) | exact .there (.there (.there (.there (.there (.there (.there (.there (.there (.there (.there (.there (.here _ _)))))))))))) | exact .there (.there (.there (.there (.there (.there (.there (.there (.there (.there (.there (.there (.there (.here _ _)))))))))))))) rfl⟩
      clear hK K
      ((try simp only [Act.put]); (try simp only [List.setIfInBounds_toArray]); (try simp only [List.set_cons_succ]); (try simp only [List.set_cons_zero]))
      refine wpAnyH_done (by kernel_rfl) ?_ _
      exact ⟨_, _, _, _, _, _, _, _, _, _, _, _, _, _, _, _, _, _, _, _, _, _, _, _, _, _, _, _, _, _, _, _, _, _, _, rfl, H⟩
      rintro act V5 ⟨y5, y6, y7, y8, y9, y10, y11, y12, y13, y14, y15, y16, y17, y18, y19, y20, y21, y22, y23, y24, y25, y26, y27, y28, y29, y30, y31, y32, y33, y34, y35, y36, y37, y38, y39, rfl, H5⟩
      clear hH
      obtain ⟨c0, c1, c2, c3⟩ := hcellY.out _ _ _ H5
      have hfr := fun o => own_free H5 o
      have h6 := own_storeK (own_storeK H5 (i * 4 + 2) (.int .i64 mn)) (i * 4 + 3) (.int .i64 (rg + 1))
      rw [(hsetx.out ⟨k, mn, 0, rg⟩).2 2 (by omega) (.int .i64 mn) ⟨k, mn, mn, rg⟩ rfl, (hsetx.out ⟨k, mn, mn, rg⟩).2 3 (by omega) (.int .i64 (rg + 1)) ⟨k, mn, mn, rg + 1⟩ rfl] at h6
      have hH6 := Lib.hid h6
      clear h6 H5
      gi_wp2_with (first | refine wpIn_label ?_ | refine scope_in ?_)
      have hH := Lib.hid (show SL ((V5.setCell ⟨g, i * 4 + 1 + 1, none⟩ (.int .i64 mn)).setCell ⟨g, i * 4 + 1 + 2, none⟩ (.int .i64 (rg + 1))) _ from hH6.out)
      generalize (V5.setCell ⟨g, i * 4 + 1 + 1, none⟩ (.int .i64 mn)).setCell ⟨g, i * 4 + 1 + 2, none⟩ (.int .i64 (rg + 1)) = V6 at *
      clear hH6 c0 c1 c2 c3 hfr
      have hfin : Hid (∀ V a2 c2, SL V (.own 59 4 (.slice (some ⟨g, 0, none⟩) n sc) n (alC ((tkT b l i).set i ⟨k, mn, mn, rg + 1⟩)) :: ckB p a b (.slice (some ⟨g, 0, none⟩) n sc) :: .blk cb [.pointer (some ⟨p, 0, none⟩)] 25 :: .blk S [.slice a2 (m + 1) c2] 31 :: .own 30 1 (.slice a2 (m + 1) c2) (m + 1) (uv (ringsK (l.take i)) ++ [.int .u64 k]) :: Z) →
          SL V ((.blk S [.slice a2 (ringsK (l.take (i + 1))).length c2] 31 :: .own 30 1 (.slice a2 (ringsK (l.take (i + 1))).length c2) (ringsK (l.take (i + 1))).length (uv (ringsK (l.take (i + 1)))) :: .blk cb [.pointer (some ⟨p, 0, none⟩)] 25 :: L) ++ (allP B p a b (.slice (some ⟨g, 0, none⟩) n sc) (tkT b l (i + 1)) ++ T2))) := Lib.hid fun V a2 c2 h => by
        have e1 : (ringsK (l.take (i + 1))).length = m + 1 := by rw [hrt.out, List.length_append, hm'.out]; rfl
        have e2 : uv (ringsK (l.take (i + 1))) = uv (ringsK (l.take i)) ++ [.int .u64 k] := by rw [hrt.out]; unfold uv; rw [List.map_append]; rfl
        have e3 : (tkT b l i).set i ⟨k, mn, mn, rg + 1⟩ = tkT b l (i + 1) := by
          rw [← hsucc.out]
          unfold tk
          rw [if_neg (by dsimp only; omega), ← hmn'.out]
        rw [e3] at h
        have h2 := hout.out _ _ _ _ h
        rw [e1, e2, hall'.out]
        exact h2
      clear hsetx hset0 hsucc hrt hout hall' hm' hmn'
      generalize uv (ringsK (l.take i)) = us at *
      obtain ⟨Y, hY⟩ : ∃ Y, (tkT b l i).set i ⟨k, mn, mn, rg + 1⟩ = Y := ⟨_, rfl⟩
      have hkey : Hid (∀ V R, SL V (.own 59 4 (.slice (some ⟨g, 0, none⟩) n sc) n (alC Y) :: R) → V.cell? ⟨g, i * 4, none⟩ = some (.int .u64 k)) := Lib.hid fun V R h => by
        rw [← hY] at h
        exact (hcellY.out _ _ _ h).1
      rw [hY] at hH hfin
      clear hcellY hY
      refine region_round (S := (fun W => W.cell? ⟨g, i * 4, none⟩ = some (.int .u64 k))) (fun _ w => ∃ a2 c2, SL w (.own 59 4 (.slice (some ⟨g, 0, none⟩) n sc) n (alC Y) :: ckB p a b (.slice (some ⟨g, 0, none⟩) n sc) :: .blk cb [.pointer (some ⟨p, 0, none⟩)] 25 :: .blk S [.slice a2 (m + 1) c2] 31 :: .own 30 1 (.slice a2 (m + 1) c2) (m + 1) (us ++ [.int .u64 k]) :: Z)) (by kernel_rfl) (by kernel_rfl) ?_ (fun hHeld => ?_) ?_
      · exact hkey.out _ _ hH.out.drew
      have H := hH.out.drew
      generalize World.drew V6 = w5 at *
      clear hH
      refine takeL (i := 1) rfl (by kernel_rfl) (by kernel_rfl) (by kernel_rfl) (fun _ _ _ _ h => h) hHeld ?_ (Or.inl ⟨by rfl, ?_⟩) ?_
      rotate_left
      · intro W hW
        (try dsimp only at hW)
        first | (go_simp; done) | (go_simp; with_reducible rfl)
      ((try simp only [Act.put]); (try simp only [List.setIfInBounds_toArray]); (try simp only [List.set_cons_succ]); (try simp only [List.set_cons_zero]))
      refine takeL (i := 2) rfl (by kernel_rfl) (by kernel_rfl) (by kernel_rfl) (fun _ _ _ _ h => h) hHeld ?_ (Or.inl ⟨by rfl, ?_⟩) ?_
      rotate_left
      · intro W hW
        (try dsimp only at hW)
        first | (go_simp; done) | (go_simp; with_reducible rfl)
      ((try simp only [Act.put]); (try simp only [List.setIfInBounds_toArray]); (try simp only [List.set_cons_succ]); (try simp only [List.set_cons_zero]))
      refine takeL (i := 3) rfl (by kernel_rfl) (by kernel_rfl) (by kernel_rfl) (fun _ _ _ _ h => h) hHeld ?_ (Or.inl ⟨by rfl, ?_⟩) ?_
      rotate_left
      · intro W hW
        (try dsimp only at hW)
        first | (go_simp; done) | (go_simp; with_reducible rfl)
      ((try simp only [Act.put]); (try simp only [List.setIfInBounds_toArray]); (try simp only [List.set_cons_succ]); (try simp only [List.set_cons_zero]))
      refine takeL (i := 4) rfl (by kernel_rfl) (by kernel_rfl) (by kernel_rfl) (fun _ _ _ _ h => h) hHeld ?_ (Or.inl ⟨by rfl, ?_⟩) ?_
      rotate_left
      · intro W hW
        (try dsimp only at hW)
        first | (go_simp; done) | (go_simp; with_reducible rfl)
      ((try simp only [Act.put]); (try simp only [List.setIfInBounds_toArray]); (try simp only [List.set_cons_succ]); (try simp only [List.set_cons_zero]))
      refine callL2 (i := 0) (j := 5) rfl rfl (by kernel_rfl) (fun K hK => ?_) (fun K hK => ?_)
      · rw [if_pos (by rfl)]
        have c0 := H.cell (b := S) (o := 0) (by first | exact .here _ _ | exact .there (.here _ _) | exact .there (.there (.here _ _)) | exact .there (.there (.there (.here _ _))) | exact .there (.there (.there (.there (.here _ _)))) | exact .there (.there (.there (.there (.there (.here _ _))))) | exact .there (.there (.there (.there (.there (.there (.here _ _)))))) | exact .there (.there (.there (.there (.there (.there (.there (.here _ _))))))) | exact .there (.there (.there (.there (.there (.there (.there (.there (.here _ _)))))))) | exact .there (.there (.there (.there (.there (.there (.there (.there (.there (.here _ _))))))))) | exact .there (.there (.there (.there (.there (.there (.there (.there (.there (.there (.here _ _)))))))))) | exact .there (.there (.there (.there (.there (.there (.there (.there (.there (.there (.there (.here _ _))))))))))) | exact .there (.there (.there (.there (.there (.there (.there (.there (.there (.there (.there (.there (.here _ _)))))))))))) | exact .there (.there (.there (.there (.there (.there (.there (.there (.there (.there (.there (.there (.there (.here _ _)))))))))))))) rfl
        go_simp
        clear c0 hHeld
        refine hK.out _ _ ?_ (fun hHeld => ?_)
        · first | exact hkey.out _ _ H | exact hkey.out _ _ (SL.tail H)
        clear hK K
        ((try simp only [Act.put]); (try simp only [List.setIfInBounds_toArray]); (try simp only [List.set_cons_succ]); (try simp only [List.set_cons_zero]))
        refine callL (i := 5) rfl (by kernel_rfl) (fun K hK => ?_)
        rw [if_pos (by rfl)]
        go_simp
        have H' := H.alloc [.int .u64 k] 30
        clear H hHeld
        have H := H'
        clear H'
        generalize w5.alloc (.cells [Value.int .u64 k].toArray 30) = w6 at *
        generalize w5.heap.size = vb at *
        refine hK.out _ _ ?_ (fun hHeld => ?_)
        · first | exact hkey.out _ _ H | exact hkey.out _ _ (SL.tail H)
        clear hK K
        ((try simp only [Act.put]); (try simp only [List.setIfInBounds_toArray]); (try simp only [List.set_cons_succ]); (try simp only [List.set_cons_zero]))
        refine callL (i := 6) rfl (by kernel_rfl) (fun K hK => ?_)
        rw [if_pos (by rfl)]
        have hrd : Rd w6 (some ⟨vb, 0, none⟩) [Value.int .u64 k].length (fun j => [Value.int .u64 k].getD j undef) := fun j hj => ⟨vb, 0, rfl, by
          obtain rfl : j = 0 := by simpa using hj
          exact H.cell (b := vb) (o := 0) (.here _ _) rfl⟩
        obtain ⟨v', w7, hrun, H7, -⟩ := SL.appended (P := Try.prog) (ty := 31) elemU (H.pull (.there (.there (.there (.there (.there (.here _ _))))))) (m := 1) (c := 1) (ys := [.int .u64 k]) rfl hrd (by simp [Value.oneCell']) (by simp only [maxLen]; omega) (by omega) (fun h => by cases h)
        obtain ⟨va, vc, rfl, -⟩ := OwnK.slice H7.head
        refine Lib.wp_append_run _ _ _ _ _ rfl (.slice oa m oc) (.slice (some ⟨vb, 0, none⟩) 1 1) rfl rfl _ _ hrun ?_
        clear H hHeld hrd hrun
        have H := H7.re (.step (.there (.there (.here _ _))) (.step (.there (.there (.here _ _))) (.step (.there (.there (.here _ _))) (.step (.there (.there (.here _ _))) (.step (.here _ _) (.drop (.same _)))))))
        clear H7
        refine hK.out _ _ ?_ (fun hHeld => ?_)
        · first | exact hkey.out _ _ H | exact hkey.out _ _ (SL.tail H)
        clear hK K
        ((try simp only [Act.put]); (try simp only [List.setIfInBounds_toArray]); (try simp only [List.set_cons_succ]); (try simp only [List.set_cons_zero]))
        refine callL (i := 7) rfl (by kernel_rfl) (fun K hK => ?_)
        rw [if_pos (by rfl)]
        have c0 := H.cell (b := S) (o := 0) (.there (.there (.there (.here _ _)))) rfl
        have f0 := H.free (b := S) (.there (.there (.there (.here _ _)))) 0
        go_simp
        have H' := ((H.pull (.there (.there (.there (.here _ _))))).setCell 0 (.slice va (m + 1) vc)).re (.step (.there (.here _ _)) (.step (.there (.here _ _)) (.step (.there (.here _ _)) (.step (.here _ _) (.same _)))))
        clear H hHeld c0 f0
        have H := H'
        clear H'
        refine hK.out _ _ ?_ (fun hHeld => ?_)
        · first | exact hkey.out _ _ H | exact hkey.out _ _ (SL.tail H)
        clear hK K
        ((try simp only [Act.put]); (try simp only [List.setIfInBounds_toArray]); (try simp only [List.set_cons_succ]); (try simp only [List.set_cons_zero]))
        refine wpAnyH_done (by kernel_rfl) ?_ _
        exact ⟨_, _, H⟩
      · rw [if_pos (by rfl)]
        go_simp
        have H' := H.alloc [.int .u64 k] 30
        clear H hHeld
        have H := H'
        clear H'
        generalize w5.alloc (.cells [Value.int .u64 k].toArray 30) = w6 at *
        generalize w5.heap.size = vb at *
        refine hK.out _ _ ?_ (fun hHeld => ?_)
        · first | exact hkey.out _ _ H | exact hkey.out _ _ (SL.tail H)
        clear hK K
        ((try simp only [Act.put]); (try simp only [List.setIfInBounds_toArray]); (try simp only [List.set_cons_succ]); (try simp only [List.set_cons_zero]))
        refine callL (i := 0) rfl (by kernel_rfl) (fun K hK => ?_)
        rw [if_pos (by rfl)]
        have c0 := H.cell (b := S) (o := 0) (by first | exact .here _ _ | exact .there (.here _ _) | exact .there (.there (.here _ _)) | exact .there (.there (.there (.here _ _))) | exact .there (.there (.there (.there (.here _ _)))) | exact .there (.there (.there (.there (.there (.here _ _))))) | exact .there (.there (.there (.there (.there (.there (.here _ _)))))) | exact .there (.there (.there (.there (.there (.there (.there (.here _ _))))))) | exact .there (.there (.there (.there (.there (.there (.there (.there (.here _ _)))))))) | exact .there (.there (.there (.there (.there (.there (.there (.there (.there (.here _ _))))))))) | exact .there (.there (.there (.there (.there (.there (.there (.there (.there (.there (.here _ _)))))))))) | exact .there (.there (.there (.there (.there (.there (.there (.there (.there (.there (.there (.here _ _))))))))))) | exact .there (.there (.there (.there (.there (.there (.there (.there (.there (.there (.there (.there (.here _ _)))))))))))) | exact .there (.there (.there (.there (.there (.there (.there (.there (.there (.there (.there (.there (.there (.here _ _)))))))))))))) rfl
        go_simp
        clear c0 hHeld
        refine hK.out _ _ ?_ (fun hHeld => ?_)
        · first | exact hkey.out _ _ H | exact hkey.out _ _ (SL.tail H)
        clear hK K
        ((try simp only [Act.put]); (try simp only [List.setIfInBounds_toArray]); (try simp only [List.set_cons_succ]); (try simp only [List.set_cons_zero]))
        refine callL (i := 6) rfl (by kernel_rfl) (fun K hK => ?_)
        rw [if_pos (by rfl)]
        have hrd : Rd w6 (some ⟨vb, 0, none⟩) [Value.int .u64 k].length (fun j => [Value.int .u64 k].getD j undef) := fun j hj => ⟨vb, 0, rfl, by
          obtain rfl : j = 0 := by simpa using hj
          exact H.cell (b := vb) (o := 0) (.here _ _) rfl⟩
        obtain ⟨v', w7, hrun, H7, -⟩ := SL.appended (P := Try.prog) (ty := 31) elemU (H.pull (.there (.there (.there (.there (.there (.here _ _))))))) (m := 1) (c := 1) (ys := [.int .u64 k]) rfl hrd (by simp [Value.oneCell']) (by simp only [maxLen]; omega) (by omega) (fun h => by cases h)
        obtain ⟨va, vc, rfl, -⟩ := OwnK.slice H7.head
        refine Lib.wp_append_run _ _ _ _ _ rfl (.slice oa m oc) (.slice (some ⟨vb, 0, none⟩) 1 1) rfl rfl _ _ hrun ?_
        clear H hHeld hrd hrun
        have H := H7.re (.step (.there (.there (.here _ _))) (.step (.there (.there (.here _ _))) (.step (.there (.there (.here _ _))) (.step (.there (.there (.here _ _))) (.step (.here _ _) (.drop (.same _)))))))
        clear H7
        refine hK.out _ _ ?_ (fun hHeld => ?_)
        · first | exact hkey.out _ _ H | exact hkey.out _ _ (SL.tail H)
        clear hK K
        ((try simp only [Act.put]); (try simp only [List.setIfInBounds_toArray]); (try simp only [List.set_cons_succ]); (try simp only [List.set_cons_zero]))
        refine callL (i := 7) rfl (by kernel_rfl) (fun K hK => ?_)
        rw [if_pos (by rfl)]
        have c0 := H.cell (b := S) (o := 0) (.there (.there (.there (.here _ _)))) rfl
        have f0 := H.free (b := S) (.there (.there (.there (.here _ _)))) 0
        go_simp
        have H' := ((H.pull (.there (.there (.there (.here _ _))))).setCell 0 (.slice va (m + 1) vc)).re (.step (.there (.here _ _)) (.step (.there (.here _ _)) (.step (.there (.here _ _)) (.step (.here _ _) (.same _)))))
        clear H hHeld c0 f0
        have H := H'
        clear H'
        refine hK.out _ _ ?_ (fun hHeld => ?_)
        · first | exact hkey.out _ _ H | exact hkey.out _ _ (SL.tail H)
        clear hK K
        ((try simp only [Act.put]); (try simp only [List.setIfInBounds_toArray]); (try simp only [List.set_cons_succ]); (try simp only [List.set_cons_zero]))
        refine wpAnyH_done (by kernel_rfl) ?_ _
        exact ⟨_, _, H⟩
      rintro act w8 ⟨a2, c2, H8⟩
      exact ⟨_, ⟨a2, c2, rfl⟩, hfin.out _ _ _ H8⟩
  · rintro V _ D ⟨oa, oc, m, hm, rfl⟩ H
    rw [alX_length, show l.take n = l from by rw [← hn'.out, List.take_length]] at hm H
    have e : tkT b l n = l.map (tk b) := by unfold tkT; rw [← hn'.out, List.take_length, List.drop_length, List.append_nil]
    rw [e] at H
    have H' := (it_get (D := [.obj D (.deferred (some []))]) (O := [.blk S [.slice oa m oc] 31, .own 30 1 (.slice oa m oc) m (uv (ringsK l)), .blk cb [.pointer (some ⟨p, 0, none⟩)] 25]) (N := ckP p (.slice sa n sc) ⟨a, b, l.map (tk b)⟩) (L := L) H)
    have z := H.cell (b := S) (o := 0) (.there (.here _ _)) rfl
    have H'' := Lib.hid H'
    have hm' := Lib.hid hm
    clear H H3 hg H' hm e
    gi_wp2_with (first | refine wpIn_label ?_ | refine scope_in ?_)
    repeat (first | rw [Exit.noGoto_ret] | gi_step)
    refine leaveS (v := .slice oa m oc) H''.out ?_ ?_
    · intro V h
      simp [results, Try.results12, go_sem]
    · intro V h
      refine ⟨oa, oc, by rw [hm'.out], .slice sa n sc, ?_, hok.out⟩
      rw [hm'.out]
      have h2 : SL V (.own 30 1 (.slice oa m oc) m (uv (ringsK l)) :: (ckP p (.slice sa n sc) (tickS ⟨a, b, l⟩) ++ L)) := (h.tail).re (.step (.here _ _) (.drop (.same _)))
      exact h2.perm List.perm_middle.symm
  · exact fun c i V L D h _ => h.elim
end
end Go.Proofs.Ytcjmkpphohkofaa
