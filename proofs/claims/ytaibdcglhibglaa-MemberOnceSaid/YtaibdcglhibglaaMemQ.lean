/- The walk of Propose, where it begins a new epoch. -/
import Derived.Test.YtaibdcglhibglaaMemP
import Derived.Test.YtaibdcglhibglaaReg
namespace Go.Proofs.Ytaibdcglhibglaa
open Go.RowKit
set_option linter.unusedVariables false

set_option maxHeartbeats 8000000 in
theorem propose_yes {p : Nat} {a : Option Addr} {c0 b : Nat} (x : St) {L : List Pc} {w : World} (H : SL w (MS p a c0 b x L)) (hn : 1 ≤ x.nodes) (hm : x.ms.length ≤ 1000000) (g : Option Addr) (c : Nat) (l : List Int) (hl : l.length ≤ 1000000) (hr : ∀ V, SL V L → RdI V g l) (hcan : x.can l = true) (hgN : 0 ≤ x.gN ∧ x.gN ≤ 4294967295) :
    Calls Try.prog 12 #[.pointer (some ⟨p, 0, none⟩), .slice g l.length c] w fun r w' => ∃ a2 c2 a' c' b', r = .returned (.tuple #[.agg #[.int .u32 (x.gN + 1), .int .i64 x.self, .slice a2 l.length c2], .bool true]) ∧
      SL w' (.own 3 1 (.slice a2 l.length c2) l.length (iv l) :: MS p a' c' b' (x.adopt (x.gN + 1) x.self l) L) := by
  obtain ⟨self, nodes, disp, N, By, ms, gN, gBy, owes, ps, count⟩ := x
  dsimp only at hn hm hgN
  unfold St.can at hcan
  dsimp only at hcan
  have H1 := H.alloc [.int .u32 0, .int .i64 0, .slice none 0 0] 34
  have hnz : (nodes == 0) = false := by simp; omega
  have hno := Lib.hid (fun V L (h : SL V (memB p self nodes disp N By (.slice a ms.length c0) gN gBy owes (.map (some b)) count :: L)) => none_c h)
  rw [hnz] at hno
  have hri := Lib.hid (fun V (h : SL V L) => rising_c l nodes g c V hl (hr V h))
  have hr0 : Hid (risingI l nodes = true → ∃ b o, g = some ⟨b, o, none⟩ ∧ ∀ V, SL V L → V.cell? ⟨b, o, none⟩ = some (.int .i64 (l.getD 0 0))) := Lib.hid (fun h => by
    obtain ⟨b, o, h1, h2⟩ := hr w H.tail.tail.tail 0 (rising_pos h)
    refine ⟨b, o, h1, fun V hk => ?_⟩
    obtain ⟨b', o', h3, h4⟩ := hr V hk 0 (rising_pos h)
    rw [h1] at h3
    cases h3
    exact h4)
  have hpos : Hid (risingI l nodes = true → 0 < l.length) := Lib.hid rising_pos
  have heq := fun V => eql_epoch gN gBy N By V
  have hel := Lib.hid (fun V (h : SL V L) (h2 : SL V [.own 3 1 (.slice a ms.length c0) ms.length (iv ms)]) => equal_c g a l ms c c0 V hl (hr V h) (OwnK.rdI (show OwnK V 0 3 1 _ _ (iv ms) from h2.ownOf (.here _ _))).2.2)
  have hadv : Hid (∀ b' o', g = some ⟨b', o', none⟩ → ∀ V q, SL V (memB p self nodes disp N By (.slice a ms.length c0) gN gBy owes (.map (some b)) count :: q :: .own 3 1 (.slice a ms.length c0) ms.length (iv ms) :: iset b ps :: L) →
      Calls Try.prog 37 #[.pointer (some ⟨p, 0, none⟩), .agg #[.int .u32 (gN + 1), .int .i64 self, .slice g l.length c]] V fun r w' => (∃ v, r = .returned v) ∧ ∃ a' c' b',
        SL w' (q :: MS p a' c' b' (St.adopt ⟨self, nodes, disp, N, By, ms, gN, gBy, owes, ps, count⟩ (gN + 1) self l) L)) := Lib.hid (fun b' o' hg V q h => by
    subst hg
    refine (adopt_c h (gN + 1) self b' o' c l hl (fun V h => hr V h.tail.tail.tail)).mono ?_
    rintro r w' ⟨h1, a', c', b'', h2⟩
    exact ⟨h1, a', c', b'', h2.re (.step (.there (.there (.there (.here _ _)))) (.step (.here _ _) (.step (.here _ _) (.step (.here _ _) (.drop (.drop (.same _)))))))⟩)
  have hvw : Hid (0 < l.length → ∀ V q a' c' b', SL V (q :: MS p a' c' b' (St.adopt ⟨self, nodes, disp, N, By, ms, gN, gBy, owes, ps, count⟩ (gN + 1) self l) L) →
      Calls Try.prog 10 #[.pointer (some ⟨p, 0, none⟩)] V fun r w' => ∃ a2 c2, r = .returned (.agg #[.int .u32 (gN + 1), .int .i64 self, .slice a2 l.length c2]) ∧
        SL w' (q :: .own 3 1 (.slice a2 l.length c2) l.length (iv l) :: MS p a' c' b' (St.adopt ⟨self, nodes, disp, N, By, ms, gN, gBy, owes, ps, count⟩ (gN + 1) self l) L)) := Lib.hid (fun hp V q a' c' b' h => by
    have h' : SL V (MEM p self nodes disp (gN + 1) self a' c' l (maxE (gN + 1) self gN gBy).1 (maxE (gN + 1) self gN gBy).2 true b' (fun _ => false) 0 (q :: L)) := h.re (.step (.there (.here _ _)) (.step (.there (.here _ _)) (.step (.there (.here _ _)) (.same _))))
    refine (view_c h' hn (by rintro rfl; simp at hp) hl).mono ?_
    rintro r w' ⟨a2, c2, h1, h2⟩
    exact ⟨a2, c2, h1, h2.re (.step (.there (.there (.there (.there (.here _ _))))) (.same _))⟩)
  obtain ⟨len, hlen⟩ : ∃ len, l.length = len := ⟨_, rfl⟩
  obtain ⟨mlen, hmlen⟩ : ∃ len, ms.length = len := ⟨_, rfl⟩
  have hH0 : SL (w.alloc (.cells [.int .u32 0, .int .i64 0, .slice none 0 0].toArray 34)) (.blk w.heap.size [.int .u32 0, .int .i64 0, .slice none 0 0] 34 :: memB p self nodes disp N By (.slice a ms.length c0) gN gBy owes (.map (some b)) count :: .own 3 1 (.slice a ms.length c0) ms.length (iv ms) :: iset b ps :: L) := H1
  rw [hlen] at hri hpos hel hadv hvw ⊢
  rw [hmlen] at hno hel hH0 hadv
  have hH := Lib.hid hH0
  obtain ⟨q1, e1⟩ : ∃ q, risingI l nodes = q := ⟨_, rfl⟩
  obtain ⟨y, e2⟩ : ∃ y, l.getD 0 0 = y := ⟨_, rfl⟩
  obtain ⟨q4, e4⟩ : ∃ q, decide (gN = N ∧ gBy = By) = q := ⟨_, rfl⟩
  obtain ⟨q5, e5⟩ : ∃ q, decide (l = ms) = q := ⟨_, rfl⟩
  rw [e1] at hri hr0 hpos hcan
  rw [e2] at hr0 hcan
  simp only [e4] at heq
  rw [e4, e5] at hcan
  rw [e5] at hel
  have hcan' := Lib.hid hcan
  obtain ⟨Z, hZ⟩ : ∃ Z : Nat → Option Addr → Nat → Nat → List Pc, (fun p a' c' b' => MS p a' c' b' (St.adopt ⟨self, nodes, disp, N, By, ms, gN, gBy, owes, ps, count⟩ (gN + 1) self l) L) = Z := ⟨_, rfl⟩
  have hZ' : ∀ p a' c' b', MS p a' c' b' (St.adopt ⟨self, nodes, disp, N, By, ms, gN, gBy, owes, ps, count⟩ (gN + 1) self l) L = Z p a' c' b' := fun p a' c' b' => by rw [← hZ]
  simp only [hZ'] at hadv hvw ⊢
  have hgs := hgN
  clear H H1 hH0 hr hl hm hn hnz hcan hlen hmlen e1 e2 e4 e5 hZ hZ' hgN
  obtain ⟨rfl, h1, h2, h3⟩ : q1 = true ∧ y = self ∧ ¬ gN = 4294967295 ∧ ¬ (q4 = true ∧ q5 = true) := by
    have := hcan'.out
    simp at this
    refine ⟨this.1.1, this.1.2.1, this.1.2.2, ?_⟩
    rintro ⟨rfl, rfl⟩
    simp at this
  obtain ⟨b', o', hg, hc⟩ := hr0.out rfl
  have had := Lib.hid (hadv.out b' o' hg)
  subst hg
  have hc' := Lib.hid hc
  have h1b : (y != self) = false := by simpa using h1
  have h2b : (gN == 4294967295) = false := by simpa using h2
  have hg1 : gN ≤ 4294967294 := by omega
  have hg0 : 0 ≤ gN := hgs.1
  have hvw' := Lib.hid (hvw.out (hpos.out rfl))
  have hpp0 := hpos.out rfl
  clear hc hr0 hcan' h1 h2 hgs hadv hvw hpos
  have H3r : ∀ (G : Prop), (q4 = false → G) → (q4 = true → q5 = false → G) → G := by
    intro G g1 g2
    cases q4
    · exact g1 rfl
    · cases q5
      · exact g2 rfl rfl
      · exact absurd ⟨rfl, rfl⟩ h3
  clear h3
  refine H3r _ ?_ ?_ <;> clear H3r
  · intro e; subst e
    go_enter Try.func12, Try.ntmps12
    go_wp2_with fail
    generalize w.alloc (.cells #[.int .u32 0, .int .i64 0, .slice none 0 0] 34) = w2 at *
    generalize w.heap.size = b1 at *
    have p0 := hH.out.cell (b := p) (o := 0) (by first | exact .here _ _ | exact .there (.here _ _) | exact .there (.there (.here _ _)) | exact .there (.there (.there (.here _ _))) | exact .there (.there (.there (.there (.here _ _)))) | exact .there (.there (.there (.there (.there (.here _ _))))) | exact .there (.there (.there (.there (.there (.there (.here _ _)))))) | exact .there (.there (.there (.there (.there (.there (.there (.here _ _))))))) | exact .there (.there (.there (.there (.there (.there (.there (.there (.here _ _)))))))) | exact .there (.there (.there (.there (.there (.there (.there (.there (.there (.here _ _))))))))) | exact .there (.there (.there (.there (.there (.there (.there (.there (.there (.there (.here _ _)))))))))) | exact .there (.there (.there (.there (.there (.there (.there (.there (.there (.there (.there (.here _ _))))))))))) | exact .there (.there (.there (.there (.there (.there (.there (.there (.there (.there (.there (.there (.here _ _)))))))))))) | exact .there (.there (.there (.there (.there (.there (.there (.there (.there (.there (.there (.there (.there (.here _ _)))))))))))))) rfl
    have p1 := hH.out.cell (b := p) (o := 1) (by first | exact .here _ _ | exact .there (.here _ _) | exact .there (.there (.here _ _)) | exact .there (.there (.there (.here _ _))) | exact .there (.there (.there (.there (.here _ _)))) | exact .there (.there (.there (.there (.there (.here _ _))))) | exact .there (.there (.there (.there (.there (.there (.here _ _)))))) | exact .there (.there (.there (.there (.there (.there (.there (.here _ _))))))) | exact .there (.there (.there (.there (.there (.there (.there (.there (.here _ _)))))))) | exact .there (.there (.there (.there (.there (.there (.there (.there (.there (.here _ _))))))))) | exact .there (.there (.there (.there (.there (.there (.there (.there (.there (.there (.here _ _)))))))))) | exact .there (.there (.there (.there (.there (.there (.there (.there (.there (.there (.there (.here _ _))))))))))) | exact .there (.there (.there (.there (.there (.there (.there (.there (.there (.there (.there (.there (.here _ _)))))))))))) | exact .there (.there (.there (.there (.there (.there (.there (.there (.there (.there (.there (.there (.there (.here _ _)))))))))))))) rfl
    have p6 := hH.out.cell (b := p) (o := 6) (by first | exact .here _ _ | exact .there (.here _ _) | exact .there (.there (.here _ _)) | exact .there (.there (.there (.here _ _))) | exact .there (.there (.there (.there (.here _ _)))) | exact .there (.there (.there (.there (.there (.here _ _))))) | exact .there (.there (.there (.there (.there (.there (.here _ _)))))) | exact .there (.there (.there (.there (.there (.there (.there (.here _ _))))))) | exact .there (.there (.there (.there (.there (.there (.there (.there (.here _ _)))))))) | exact .there (.there (.there (.there (.there (.there (.there (.there (.there (.here _ _))))))))) | exact .there (.there (.there (.there (.there (.there (.there (.there (.there (.there (.here _ _)))))))))) | exact .there (.there (.there (.there (.there (.there (.there (.there (.there (.there (.there (.here _ _))))))))))) | exact .there (.there (.there (.there (.there (.there (.there (.there (.there (.there (.there (.there (.here _ _)))))))))))) | exact .there (.there (.there (.there (.there (.there (.there (.there (.there (.there (.there (.there (.there (.here _ _)))))))))))))) rfl
    have hcc := hc'.out w2 hH.out.tail.tail.tail.tail
    go_quiet ((first | (go_at_call 32; exact quiet_eq (hno.out _ _ ((hH.out.drewN _).re (.step (.there (.here _ _)) (.same _))))) | (go_at_call 35; exact quiet_eq (hri.out _ (hH.out.drewN _).tail.tail.tail.tail))))
    have H9 := Lib.hid (hH.out.drewN nq)
    generalize w2.drewN nq = w9 at *
    clear hH p0 p1 p6 hcc
    go_wp2_with fail
    have p0 := H9.out.cell (b := p) (o := 0) (by first | exact .here _ _ | exact .there (.here _ _) | exact .there (.there (.here _ _)) | exact .there (.there (.there (.here _ _))) | exact .there (.there (.there (.there (.here _ _)))) | exact .there (.there (.there (.there (.there (.here _ _))))) | exact .there (.there (.there (.there (.there (.there (.here _ _)))))) | exact .there (.there (.there (.there (.there (.there (.there (.here _ _))))))) | exact .there (.there (.there (.there (.there (.there (.there (.there (.here _ _)))))))) | exact .there (.there (.there (.there (.there (.there (.there (.there (.there (.here _ _))))))))) | exact .there (.there (.there (.there (.there (.there (.there (.there (.there (.there (.here _ _)))))))))) | exact .there (.there (.there (.there (.there (.there (.there (.there (.there (.there (.there (.here _ _))))))))))) | exact .there (.there (.there (.there (.there (.there (.there (.there (.there (.there (.there (.there (.here _ _)))))))))))) | exact .there (.there (.there (.there (.there (.there (.there (.there (.there (.there (.there (.there (.there (.here _ _)))))))))))))) rfl
    have p3 := H9.out.cell (b := p) (o := 3) (by first | exact .here _ _ | exact .there (.here _ _) | exact .there (.there (.here _ _)) | exact .there (.there (.there (.here _ _))) | exact .there (.there (.there (.there (.here _ _)))) | exact .there (.there (.there (.there (.there (.here _ _))))) | exact .there (.there (.there (.there (.there (.there (.here _ _)))))) | exact .there (.there (.there (.there (.there (.there (.there (.here _ _))))))) | exact .there (.there (.there (.there (.there (.there (.there (.there (.here _ _)))))))) | exact .there (.there (.there (.there (.there (.there (.there (.there (.there (.here _ _))))))))) | exact .there (.there (.there (.there (.there (.there (.there (.there (.there (.there (.here _ _)))))))))) | exact .there (.there (.there (.there (.there (.there (.there (.there (.there (.there (.there (.here _ _))))))))))) | exact .there (.there (.there (.there (.there (.there (.there (.there (.there (.there (.there (.there (.here _ _)))))))))))) | exact .there (.there (.there (.there (.there (.there (.there (.there (.there (.there (.there (.there (.there (.here _ _)))))))))))))) rfl
    have p4 := H9.out.cell (b := p) (o := 4) (by first | exact .here _ _ | exact .there (.here _ _) | exact .there (.there (.here _ _)) | exact .there (.there (.there (.here _ _))) | exact .there (.there (.there (.there (.here _ _)))) | exact .there (.there (.there (.there (.there (.here _ _))))) | exact .there (.there (.there (.there (.there (.there (.here _ _)))))) | exact .there (.there (.there (.there (.there (.there (.there (.here _ _))))))) | exact .there (.there (.there (.there (.there (.there (.there (.there (.here _ _)))))))) | exact .there (.there (.there (.there (.there (.there (.there (.there (.there (.here _ _))))))))) | exact .there (.there (.there (.there (.there (.there (.there (.there (.there (.there (.here _ _)))))))))) | exact .there (.there (.there (.there (.there (.there (.there (.there (.there (.there (.there (.here _ _))))))))))) | exact .there (.there (.there (.there (.there (.there (.there (.there (.there (.there (.there (.there (.here _ _)))))))))))) | exact .there (.there (.there (.there (.there (.there (.there (.there (.there (.there (.there (.there (.there (.here _ _)))))))))))))) rfl
    have p5 := H9.out.cell (b := p) (o := 5) (by first | exact .here _ _ | exact .there (.here _ _) | exact .there (.there (.here _ _)) | exact .there (.there (.there (.here _ _))) | exact .there (.there (.there (.there (.here _ _)))) | exact .there (.there (.there (.there (.there (.here _ _))))) | exact .there (.there (.there (.there (.there (.there (.here _ _)))))) | exact .there (.there (.there (.there (.there (.there (.there (.here _ _))))))) | exact .there (.there (.there (.there (.there (.there (.there (.there (.here _ _)))))))) | exact .there (.there (.there (.there (.there (.there (.there (.there (.there (.here _ _))))))))) | exact .there (.there (.there (.there (.there (.there (.there (.there (.there (.there (.here _ _)))))))))) | exact .there (.there (.there (.there (.there (.there (.there (.there (.there (.there (.there (.here _ _))))))))))) | exact .there (.there (.there (.there (.there (.there (.there (.there (.there (.there (.there (.there (.here _ _)))))))))))) | exact .there (.there (.there (.there (.there (.there (.there (.there (.there (.there (.there (.there (.there (.here _ _)))))))))))))) rfl
    have p6 := H9.out.cell (b := p) (o := 6) (by first | exact .here _ _ | exact .there (.here _ _) | exact .there (.there (.here _ _)) | exact .there (.there (.there (.here _ _))) | exact .there (.there (.there (.there (.here _ _)))) | exact .there (.there (.there (.there (.there (.here _ _))))) | exact .there (.there (.there (.there (.there (.there (.here _ _)))))) | exact .there (.there (.there (.there (.there (.there (.there (.here _ _))))))) | exact .there (.there (.there (.there (.there (.there (.there (.there (.here _ _)))))))) | exact .there (.there (.there (.there (.there (.there (.there (.there (.there (.here _ _))))))))) | exact .there (.there (.there (.there (.there (.there (.there (.there (.there (.there (.here _ _)))))))))) | exact .there (.there (.there (.there (.there (.there (.there (.there (.there (.there (.there (.here _ _))))))))))) | exact .there (.there (.there (.there (.there (.there (.there (.there (.there (.there (.there (.there (.here _ _)))))))))))) | exact .there (.there (.there (.there (.there (.there (.there (.there (.there (.there (.there (.there (.there (.here _ _)))))))))))))) rfl
    have p7 := H9.out.cell (b := p) (o := 7) (by first | exact .here _ _ | exact .there (.here _ _) | exact .there (.there (.here _ _)) | exact .there (.there (.there (.here _ _))) | exact .there (.there (.there (.there (.here _ _)))) | exact .there (.there (.there (.there (.there (.here _ _))))) | exact .there (.there (.there (.there (.there (.there (.here _ _)))))) | exact .there (.there (.there (.there (.there (.there (.there (.here _ _))))))) | exact .there (.there (.there (.there (.there (.there (.there (.there (.here _ _)))))))) | exact .there (.there (.there (.there (.there (.there (.there (.there (.there (.here _ _))))))))) | exact .there (.there (.there (.there (.there (.there (.there (.there (.there (.there (.here _ _)))))))))) | exact .there (.there (.there (.there (.there (.there (.there (.there (.there (.there (.there (.here _ _))))))))))) | exact .there (.there (.there (.there (.there (.there (.there (.there (.there (.there (.there (.there (.here _ _)))))))))))) | exact .there (.there (.there (.there (.there (.there (.there (.there (.there (.there (.there (.there (.there (.here _ _)))))))))))))) rfl
    go_quiet (fail)
    have H3 := Lib.hid (H9.out.drewN nq)
    generalize w9.drewN nq = w3 at *
    clear H9
    go_wp2_with fail
    have hwr := IntWalk.u32_in (gN + 1) ⟨by omega, by omega⟩
    have hH := H3
    clear H3 p0 p3 p4 p5 p6 p7 hno hri heq hel hc' h1b h2b
    refine wp_region_any (by kernel_rfl) ?_
    try (change wpAny _ _ _ _ _ _ _ (World.drew _))
    have H := hH.out.drew
    generalize World.drew w3 = w4 at *
    have p0 := H.cell (b := p) (o := 0) (by first | exact .here _ _ | exact .there (.here _ _) | exact .there (.there (.here _ _)) | exact .there (.there (.there (.here _ _))) | exact .there (.there (.there (.there (.here _ _)))) | exact .there (.there (.there (.there (.there (.here _ _))))) | exact .there (.there (.there (.there (.there (.there (.here _ _)))))) | exact .there (.there (.there (.there (.there (.there (.there (.here _ _))))))) | exact .there (.there (.there (.there (.there (.there (.there (.there (.here _ _)))))))) | exact .there (.there (.there (.there (.there (.there (.there (.there (.there (.here _ _))))))))) | exact .there (.there (.there (.there (.there (.there (.there (.there (.there (.there (.here _ _)))))))))) | exact .there (.there (.there (.there (.there (.there (.there (.there (.there (.there (.there (.here _ _))))))))))) | exact .there (.there (.there (.there (.there (.there (.there (.there (.there (.there (.there (.there (.here _ _)))))))))))) | exact .there (.there (.there (.there (.there (.there (.there (.there (.there (.there (.there (.there (.there (.here _ _)))))))))))))) rfl
    have p6 := H.cell (b := p) (o := 6) (by first | exact .here _ _ | exact .there (.here _ _) | exact .there (.there (.here _ _)) | exact .there (.there (.there (.here _ _))) | exact .there (.there (.there (.there (.here _ _)))) | exact .there (.there (.there (.there (.there (.here _ _))))) | exact .there (.there (.there (.there (.there (.there (.here _ _)))))) | exact .there (.there (.there (.there (.there (.there (.there (.here _ _))))))) | exact .there (.there (.there (.there (.there (.there (.there (.there (.here _ _)))))))) | exact .there (.there (.there (.there (.there (.there (.there (.there (.there (.here _ _))))))))) | exact .there (.there (.there (.there (.there (.there (.there (.there (.there (.there (.here _ _)))))))))) | exact .there (.there (.there (.there (.there (.there (.there (.there (.there (.there (.there (.here _ _))))))))))) | exact .there (.there (.there (.there (.there (.there (.there (.there (.there (.there (.there (.there (.here _ _)))))))))))) | exact .there (.there (.there (.there (.there (.there (.there (.there (.there (.there (.there (.there (.there (.here _ _)))))))))))))) rfl
    clear hH
    refine takeW (i := 0) rfl (by kernel_rfl) (by kernel_rfl) (by kernel_rfl) (fun _ _ _ _ h => h) ?_ (Or.inl ⟨by rfl, ?_⟩) ?_
    rotate_left
    · intro W
      first | (go_simp; done) | (go_simp; with_reducible rfl)
    ((try simp only [Act.put]); (try simp only [List.setIfInBounds_toArray]); (try simp only [List.set_cons_succ]); (try simp only [List.set_cons_zero]))
    refine takeW (i := 1) rfl (by kernel_rfl) (by kernel_rfl) (by kernel_rfl) (fun _ _ _ _ h => h) ?_ (Or.inl ⟨by rfl, ?_⟩) ?_
    rotate_left
    · intro W
      first | (go_simp; done) | (go_simp; with_reducible rfl)
    ((try simp only [Act.put]); (try simp only [List.setIfInBounds_toArray]); (try simp only [List.set_cons_succ]); (try simp only [List.set_cons_zero]))
    refine takeW (i := 2) rfl (by kernel_rfl) (by kernel_rfl) (by kernel_rfl) (fun _ _ _ _ h => h) ?_ (Or.inl ⟨by rfl, ?_⟩) ?_
    rotate_left
    · intro W
      first | (go_simp; done) | (go_simp; with_reducible rfl)
    ((try simp only [Act.put]); (try simp only [List.setIfInBounds_toArray]); (try simp only [List.set_cons_succ]); (try simp only [List.set_cons_zero]))
    refine takeW (i := 3) rfl (by kernel_rfl) (by kernel_rfl) (by kernel_rfl) (fun _ _ _ _ h => h) ?_ (Or.inl ⟨by rfl, ?_⟩) ?_
    rotate_left
    · intro W
      first | (go_simp; done) | (go_simp; with_reducible rfl)
    ((try simp only [Act.put]); (try simp only [List.setIfInBounds_toArray]); (try simp only [List.set_cons_succ]); (try simp only [List.set_cons_zero]))
    refine takeW (i := 4) rfl (by kernel_rfl) (by kernel_rfl) (by kernel_rfl) (fun _ _ _ _ h => h) ?_ (Or.inl ⟨by rfl, ?_⟩) ?_
    rotate_left
    · intro W
      first | (go_simp; done) | (go_simp; with_reducible rfl)
    ((try simp only [Act.put]); (try simp only [List.setIfInBounds_toArray]); (try simp only [List.set_cons_succ]); (try simp only [List.set_cons_zero]))
    refine takeW (i := 7) rfl (by kernel_rfl) (by kernel_rfl) (by kernel_rfl) (fun _ _ _ _ h => h) ?_ (Or.inl ⟨by rfl, ?_⟩) ?_
    rotate_left
    · intro W
      first | (go_simp; done) | (go_simp; with_reducible rfl)
    ((try simp only [Act.put]); (try simp only [List.setIfInBounds_toArray]); (try simp only [List.set_cons_succ]); (try simp only [List.set_cons_zero]))
    refine takeW (i := 8) rfl (by kernel_rfl) (by kernel_rfl) (by kernel_rfl) (fun _ _ _ _ h => h) ?_ (Or.inl ⟨by rfl, ?_⟩) ?_
    rotate_left
    · intro W
      first | (go_simp; done) | (go_simp; with_reducible rfl)
    ((try simp only [Act.put]); (try simp only [List.setIfInBounds_toArray]); (try simp only [List.set_cons_succ]); (try simp only [List.set_cons_zero]))
    refine takeW (i := 9) rfl (by kernel_rfl) (by kernel_rfl) (by kernel_rfl) (fun _ _ _ _ h => h) ?_ (Or.inl ⟨by rfl, ?_⟩) ?_
    rotate_left
    · intro W
      first | (go_simp; done) | (go_simp; with_reducible rfl)
    ((try simp only [Act.put]); (try simp only [List.setIfInBounds_toArray]); (try simp only [List.set_cons_succ]); (try simp only [List.set_cons_zero]))
    refine takeW (i := 12) rfl (by kernel_rfl) (by kernel_rfl) (by kernel_rfl) (fun _ _ _ _ h => h) ?_ (Or.inl ⟨by rfl, ?_⟩) ?_
    rotate_left
    · intro W
      first | (go_simp; done) | (go_simp; with_reducible rfl)
    ((try simp only [Act.put]); (try simp only [List.setIfInBounds_toArray]); (try simp only [List.set_cons_succ]); (try simp only [List.set_cons_zero]))
    refine wpAny_ready (rs := [5, 10]) (by kernel_rfl) (by simp) ?_
    refine AllReady.cons rfl (fun K hK => ?_) ?_
    · rw [if_pos (by rfl)]
      go_simp
      refine hK _ _ ?_
      clear hK K
      ((try simp only [Act.put]); (try simp only [List.setIfInBounds_toArray]); (try simp only [List.set_cons_succ]); (try simp only [List.set_cons_zero]))
      refine takeW (i := 6) rfl (by kernel_rfl) (by kernel_rfl) (by kernel_rfl) (fun _ _ _ _ h => h) ?_ (Or.inl ⟨by rfl, ?_⟩) ?_
      rotate_left
      · intro W
        first | (go_simp; done) | (go_simp; with_reducible rfl)
      ((try simp only [Act.put]); (try simp only [List.setIfInBounds_toArray]); (try simp only [List.set_cons_succ]); (try simp only [List.set_cons_zero]))
      refine wpAny_ready (rs := [10]) (by kernel_rfl) (by simp) ?_
      refine AllReady.cons rfl (fun K hK => ?_) ?_
      · rw [if_pos (by rfl)]
        go_simp
        refine hK _ _ ?_
        clear hK K
        ((try simp only [Act.put]); (try simp only [List.setIfInBounds_toArray]); (try simp only [List.set_cons_succ]); (try simp only [List.set_cons_zero]))
        refine takeW (i := 11) rfl (by kernel_rfl) (by kernel_rfl) (by kernel_rfl) (fun _ _ _ _ h => h) ?_ (Or.inl ⟨by rfl, ?_⟩) ?_
        rotate_left
        · intro W
          first | (go_simp; done) | (go_simp; with_reducible rfl)
        ((try simp only [Act.put]); (try simp only [List.setIfInBounds_toArray]); (try simp only [List.set_cons_succ]); (try simp only [List.set_cons_zero]))
        refine takeW (i := 13) rfl (by kernel_rfl) (by kernel_rfl) (by kernel_rfl) (fun _ _ _ _ h => h) ?_ (Or.inl ⟨by rfl, ?_⟩) ?_
        rotate_left
        · intro W
          first | (go_simp; done) | (go_simp; with_reducible rfl)
        ((try simp only [Act.put]); (try simp only [List.setIfInBounds_toArray]); (try simp only [List.set_cons_succ]); (try simp only [List.set_cons_zero]))
        refine wpAny_ready (rs := [14]) (by kernel_rfl) (by simp) ?_
        refine AllReady.cons rfl (fun K hK => ?_) ?_
        · rw [if_pos (by rfl)]
          go_simp
          refine (had.out _ _ (H.re (.step (.there (.here _ _)) (.same _)))).mono ?_
          rintro r w5 ⟨⟨v, rfl⟩, a', c', b'', H5⟩
          clear H had p0 p6
          refine hK _ _ ?_
          clear hK K
          ((try simp only [Act.put]); (try simp only [List.setIfInBounds_toArray]); (try simp only [List.set_cons_succ]); (try simp only [List.set_cons_zero]))
          refine wpAny_done (by kernel_rfl) ?_ _
          have H5' := Lib.hid H5
          clear H5
          go_wp2_with fail
          refine (hvw'.out _ _ _ _ _ H5'.out).mono ?_
          rintro r w6 ⟨a2, c2, rfl, H6⟩
          have z0 := H6.cell (o := 0) (.here _ _) rfl
          have z1 := H6.cell (o := 1) (.here _ _) rfl
          have z2 := H6.cell (o := 2) (.here _ _) rfl
          have fz := fun o => H6.free (.here _ _) o
          have h8 := Lib.hid (((H6.setCell 0 (.int .u32 (gN + 1))).setCell 1 (.int .i64 self)).setCell 2 (.slice a2 len c2))
          clear H6 H5' hvw'
          go_wp2_with fail
          generalize ((w6.setCell ⟨b1, 0, none⟩ (.int .u32 (gN + 1))).setCell ⟨b1, 1, none⟩ (.int .i64 self)).setCell ⟨b1, 2, none⟩ (.slice a2 len c2) = w7 at *
          have k0 := h8.out.cell (o := 0) (.here _ _) rfl
          have k1 := h8.out.cell (o := 1) (.here _ _) rfl
          have k2 := h8.out.cell (o := 2) (.here _ _) rfl
          refine bodyPost_ret (v := .tuple #[.agg #[.int .u32 (gN + 1), .int .i64 self, .slice a2 len c2], .bool true]) ?_ rfl ?_
          · simp [results, Try.results12, go_sem, k0, k1, k2]
          · exact ⟨a2, c2, a', c', b'', rfl, h8.out.re (.drop (.same _))⟩
        exact AllReady.nil
      exact AllReady.nil
    refine AllReady.cons rfl (fun K hK => ?_) ?_
    · rw [if_pos (by rfl)]
      go_simp
      refine hK _ _ ?_
      clear hK K
      ((try simp only [Act.put]); (try simp only [List.setIfInBounds_toArray]); (try simp only [List.set_cons_succ]); (try simp only [List.set_cons_zero]))
      refine wpAny_ready (rs := [5]) (by kernel_rfl) (by simp) ?_
      refine AllReady.cons rfl (fun K hK => ?_) ?_
      · rw [if_pos (by rfl)]
        go_simp
        refine hK _ _ ?_
        clear hK K
        ((try simp only [Act.put]); (try simp only [List.setIfInBounds_toArray]); (try simp only [List.set_cons_succ]); (try simp only [List.set_cons_zero]))
        refine takeW (i := 6) rfl (by kernel_rfl) (by kernel_rfl) (by kernel_rfl) (fun _ _ _ _ h => h) ?_ (Or.inl ⟨by rfl, ?_⟩) ?_
        rotate_left
        · intro W
          first | (go_simp; done) | (go_simp; with_reducible rfl)
        ((try simp only [Act.put]); (try simp only [List.setIfInBounds_toArray]); (try simp only [List.set_cons_succ]); (try simp only [List.set_cons_zero]))
        refine takeW (i := 11) rfl (by kernel_rfl) (by kernel_rfl) (by kernel_rfl) (fun _ _ _ _ h => h) ?_ (Or.inl ⟨by rfl, ?_⟩) ?_
        rotate_left
        · intro W
          first | (go_simp; done) | (go_simp; with_reducible rfl)
        ((try simp only [Act.put]); (try simp only [List.setIfInBounds_toArray]); (try simp only [List.set_cons_succ]); (try simp only [List.set_cons_zero]))
        refine takeW (i := 13) rfl (by kernel_rfl) (by kernel_rfl) (by kernel_rfl) (fun _ _ _ _ h => h) ?_ (Or.inl ⟨by rfl, ?_⟩) ?_
        rotate_left
        · intro W
          first | (go_simp; done) | (go_simp; with_reducible rfl)
        ((try simp only [Act.put]); (try simp only [List.setIfInBounds_toArray]); (try simp only [List.set_cons_succ]); (try simp only [List.set_cons_zero]))
        refine wpAny_ready (rs := [14]) (by kernel_rfl) (by simp) ?_
        refine AllReady.cons rfl (fun K hK => ?_) ?_
        · rw [if_pos (by rfl)]
          go_simp
          refine (had.out _ _ (H.re (.step (.there (.here _ _)) (.same _)))).mono ?_
          rintro r w5 ⟨⟨v, rfl⟩, a', c', b'', H5⟩
          clear H had p0 p6
          refine hK _ _ ?_
          clear hK K
          ((try simp only [Act.put]); (try simp only [List.setIfInBounds_toArray]); (try simp only [List.set_cons_succ]); (try simp only [List.set_cons_zero]))
          refine wpAny_done (by kernel_rfl) ?_ _
          have H5' := Lib.hid H5
          clear H5
          go_wp2_with fail
          refine (hvw'.out _ _ _ _ _ H5'.out).mono ?_
          rintro r w6 ⟨a2, c2, rfl, H6⟩
          have z0 := H6.cell (o := 0) (.here _ _) rfl
          have z1 := H6.cell (o := 1) (.here _ _) rfl
          have z2 := H6.cell (o := 2) (.here _ _) rfl
          have fz := fun o => H6.free (.here _ _) o
          have h8 := Lib.hid (((H6.setCell 0 (.int .u32 (gN + 1))).setCell 1 (.int .i64 self)).setCell 2 (.slice a2 len c2))
          clear H6 H5' hvw'
          go_wp2_with fail
          generalize ((w6.setCell ⟨b1, 0, none⟩ (.int .u32 (gN + 1))).setCell ⟨b1, 1, none⟩ (.int .i64 self)).setCell ⟨b1, 2, none⟩ (.slice a2 len c2) = w7 at *
          have k0 := h8.out.cell (o := 0) (.here _ _) rfl
          have k1 := h8.out.cell (o := 1) (.here _ _) rfl
          have k2 := h8.out.cell (o := 2) (.here _ _) rfl
          refine bodyPost_ret (v := .tuple #[.agg #[.int .u32 (gN + 1), .int .i64 self, .slice a2 len c2], .bool true]) ?_ rfl ?_
          · simp [results, Try.results12, go_sem, k0, k1, k2]
          · exact ⟨a2, c2, a', c', b'', rfl, h8.out.re (.drop (.same _))⟩
        exact AllReady.nil
      exact AllReady.nil
    exact AllReady.nil
  · intro e e2; subst e e2
    go_enter Try.func12, Try.ntmps12
    go_wp2_with fail
    generalize w.alloc (.cells #[.int .u32 0, .int .i64 0, .slice none 0 0] 34) = w2 at *
    generalize w.heap.size = b1 at *
    have p0 := hH.out.cell (b := p) (o := 0) (by first | exact .here _ _ | exact .there (.here _ _) | exact .there (.there (.here _ _)) | exact .there (.there (.there (.here _ _))) | exact .there (.there (.there (.there (.here _ _)))) | exact .there (.there (.there (.there (.there (.here _ _))))) | exact .there (.there (.there (.there (.there (.there (.here _ _)))))) | exact .there (.there (.there (.there (.there (.there (.there (.here _ _))))))) | exact .there (.there (.there (.there (.there (.there (.there (.there (.here _ _)))))))) | exact .there (.there (.there (.there (.there (.there (.there (.there (.there (.here _ _))))))))) | exact .there (.there (.there (.there (.there (.there (.there (.there (.there (.there (.here _ _)))))))))) | exact .there (.there (.there (.there (.there (.there (.there (.there (.there (.there (.there (.here _ _))))))))))) | exact .there (.there (.there (.there (.there (.there (.there (.there (.there (.there (.there (.there (.here _ _)))))))))))) | exact .there (.there (.there (.there (.there (.there (.there (.there (.there (.there (.there (.there (.there (.here _ _)))))))))))))) rfl
    have p1 := hH.out.cell (b := p) (o := 1) (by first | exact .here _ _ | exact .there (.here _ _) | exact .there (.there (.here _ _)) | exact .there (.there (.there (.here _ _))) | exact .there (.there (.there (.there (.here _ _)))) | exact .there (.there (.there (.there (.there (.here _ _))))) | exact .there (.there (.there (.there (.there (.there (.here _ _)))))) | exact .there (.there (.there (.there (.there (.there (.there (.here _ _))))))) | exact .there (.there (.there (.there (.there (.there (.there (.there (.here _ _)))))))) | exact .there (.there (.there (.there (.there (.there (.there (.there (.there (.here _ _))))))))) | exact .there (.there (.there (.there (.there (.there (.there (.there (.there (.there (.here _ _)))))))))) | exact .there (.there (.there (.there (.there (.there (.there (.there (.there (.there (.there (.here _ _))))))))))) | exact .there (.there (.there (.there (.there (.there (.there (.there (.there (.there (.there (.there (.here _ _)))))))))))) | exact .there (.there (.there (.there (.there (.there (.there (.there (.there (.there (.there (.there (.there (.here _ _)))))))))))))) rfl
    have p6 := hH.out.cell (b := p) (o := 6) (by first | exact .here _ _ | exact .there (.here _ _) | exact .there (.there (.here _ _)) | exact .there (.there (.there (.here _ _))) | exact .there (.there (.there (.there (.here _ _)))) | exact .there (.there (.there (.there (.there (.here _ _))))) | exact .there (.there (.there (.there (.there (.there (.here _ _)))))) | exact .there (.there (.there (.there (.there (.there (.there (.here _ _))))))) | exact .there (.there (.there (.there (.there (.there (.there (.there (.here _ _)))))))) | exact .there (.there (.there (.there (.there (.there (.there (.there (.there (.here _ _))))))))) | exact .there (.there (.there (.there (.there (.there (.there (.there (.there (.there (.here _ _)))))))))) | exact .there (.there (.there (.there (.there (.there (.there (.there (.there (.there (.there (.here _ _))))))))))) | exact .there (.there (.there (.there (.there (.there (.there (.there (.there (.there (.there (.there (.here _ _)))))))))))) | exact .there (.there (.there (.there (.there (.there (.there (.there (.there (.there (.there (.there (.there (.here _ _)))))))))))))) rfl
    have hcc := hc'.out w2 hH.out.tail.tail.tail.tail
    go_quiet ((first | (go_at_call 32; exact quiet_eq (hno.out _ _ ((hH.out.drewN _).re (.step (.there (.here _ _)) (.same _))))) | (go_at_call 35; exact quiet_eq (hri.out _ (hH.out.drewN _).tail.tail.tail.tail))))
    have H9 := Lib.hid (hH.out.drewN nq)
    generalize w2.drewN nq = w9 at *
    clear hH p0 p1 p6 hcc
    go_wp2_with fail
    have p0 := H9.out.cell (b := p) (o := 0) (by first | exact .here _ _ | exact .there (.here _ _) | exact .there (.there (.here _ _)) | exact .there (.there (.there (.here _ _))) | exact .there (.there (.there (.there (.here _ _)))) | exact .there (.there (.there (.there (.there (.here _ _))))) | exact .there (.there (.there (.there (.there (.there (.here _ _)))))) | exact .there (.there (.there (.there (.there (.there (.there (.here _ _))))))) | exact .there (.there (.there (.there (.there (.there (.there (.there (.here _ _)))))))) | exact .there (.there (.there (.there (.there (.there (.there (.there (.there (.here _ _))))))))) | exact .there (.there (.there (.there (.there (.there (.there (.there (.there (.there (.here _ _)))))))))) | exact .there (.there (.there (.there (.there (.there (.there (.there (.there (.there (.there (.here _ _))))))))))) | exact .there (.there (.there (.there (.there (.there (.there (.there (.there (.there (.there (.there (.here _ _)))))))))))) | exact .there (.there (.there (.there (.there (.there (.there (.there (.there (.there (.there (.there (.there (.here _ _)))))))))))))) rfl
    have p3 := H9.out.cell (b := p) (o := 3) (by first | exact .here _ _ | exact .there (.here _ _) | exact .there (.there (.here _ _)) | exact .there (.there (.there (.here _ _))) | exact .there (.there (.there (.there (.here _ _)))) | exact .there (.there (.there (.there (.there (.here _ _))))) | exact .there (.there (.there (.there (.there (.there (.here _ _)))))) | exact .there (.there (.there (.there (.there (.there (.there (.here _ _))))))) | exact .there (.there (.there (.there (.there (.there (.there (.there (.here _ _)))))))) | exact .there (.there (.there (.there (.there (.there (.there (.there (.there (.here _ _))))))))) | exact .there (.there (.there (.there (.there (.there (.there (.there (.there (.there (.here _ _)))))))))) | exact .there (.there (.there (.there (.there (.there (.there (.there (.there (.there (.there (.here _ _))))))))))) | exact .there (.there (.there (.there (.there (.there (.there (.there (.there (.there (.there (.there (.here _ _)))))))))))) | exact .there (.there (.there (.there (.there (.there (.there (.there (.there (.there (.there (.there (.there (.here _ _)))))))))))))) rfl
    have p4 := H9.out.cell (b := p) (o := 4) (by first | exact .here _ _ | exact .there (.here _ _) | exact .there (.there (.here _ _)) | exact .there (.there (.there (.here _ _))) | exact .there (.there (.there (.there (.here _ _)))) | exact .there (.there (.there (.there (.there (.here _ _))))) | exact .there (.there (.there (.there (.there (.there (.here _ _)))))) | exact .there (.there (.there (.there (.there (.there (.there (.here _ _))))))) | exact .there (.there (.there (.there (.there (.there (.there (.there (.here _ _)))))))) | exact .there (.there (.there (.there (.there (.there (.there (.there (.there (.here _ _))))))))) | exact .there (.there (.there (.there (.there (.there (.there (.there (.there (.there (.here _ _)))))))))) | exact .there (.there (.there (.there (.there (.there (.there (.there (.there (.there (.there (.here _ _))))))))))) | exact .there (.there (.there (.there (.there (.there (.there (.there (.there (.there (.there (.there (.here _ _)))))))))))) | exact .there (.there (.there (.there (.there (.there (.there (.there (.there (.there (.there (.there (.there (.here _ _)))))))))))))) rfl
    have p5 := H9.out.cell (b := p) (o := 5) (by first | exact .here _ _ | exact .there (.here _ _) | exact .there (.there (.here _ _)) | exact .there (.there (.there (.here _ _))) | exact .there (.there (.there (.there (.here _ _)))) | exact .there (.there (.there (.there (.there (.here _ _))))) | exact .there (.there (.there (.there (.there (.there (.here _ _)))))) | exact .there (.there (.there (.there (.there (.there (.there (.here _ _))))))) | exact .there (.there (.there (.there (.there (.there (.there (.there (.here _ _)))))))) | exact .there (.there (.there (.there (.there (.there (.there (.there (.there (.here _ _))))))))) | exact .there (.there (.there (.there (.there (.there (.there (.there (.there (.there (.here _ _)))))))))) | exact .there (.there (.there (.there (.there (.there (.there (.there (.there (.there (.there (.here _ _))))))))))) | exact .there (.there (.there (.there (.there (.there (.there (.there (.there (.there (.there (.there (.here _ _)))))))))))) | exact .there (.there (.there (.there (.there (.there (.there (.there (.there (.there (.there (.there (.there (.here _ _)))))))))))))) rfl
    have p6 := H9.out.cell (b := p) (o := 6) (by first | exact .here _ _ | exact .there (.here _ _) | exact .there (.there (.here _ _)) | exact .there (.there (.there (.here _ _))) | exact .there (.there (.there (.there (.here _ _)))) | exact .there (.there (.there (.there (.there (.here _ _))))) | exact .there (.there (.there (.there (.there (.there (.here _ _)))))) | exact .there (.there (.there (.there (.there (.there (.there (.here _ _))))))) | exact .there (.there (.there (.there (.there (.there (.there (.there (.here _ _)))))))) | exact .there (.there (.there (.there (.there (.there (.there (.there (.there (.here _ _))))))))) | exact .there (.there (.there (.there (.there (.there (.there (.there (.there (.there (.here _ _)))))))))) | exact .there (.there (.there (.there (.there (.there (.there (.there (.there (.there (.there (.here _ _))))))))))) | exact .there (.there (.there (.there (.there (.there (.there (.there (.there (.there (.there (.there (.here _ _)))))))))))) | exact .there (.there (.there (.there (.there (.there (.there (.there (.there (.there (.there (.there (.there (.here _ _)))))))))))))) rfl
    have p7 := H9.out.cell (b := p) (o := 7) (by first | exact .here _ _ | exact .there (.here _ _) | exact .there (.there (.here _ _)) | exact .there (.there (.there (.here _ _))) | exact .there (.there (.there (.there (.here _ _)))) | exact .there (.there (.there (.there (.there (.here _ _))))) | exact .there (.there (.there (.there (.there (.there (.here _ _)))))) | exact .there (.there (.there (.there (.there (.there (.there (.here _ _))))))) | exact .there (.there (.there (.there (.there (.there (.there (.there (.here _ _)))))))) | exact .there (.there (.there (.there (.there (.there (.there (.there (.there (.here _ _))))))))) | exact .there (.there (.there (.there (.there (.there (.there (.there (.there (.there (.here _ _)))))))))) | exact .there (.there (.there (.there (.there (.there (.there (.there (.there (.there (.there (.here _ _))))))))))) | exact .there (.there (.there (.there (.there (.there (.there (.there (.there (.there (.there (.there (.here _ _)))))))))))) | exact .there (.there (.there (.there (.there (.there (.there (.there (.there (.there (.there (.there (.there (.here _ _)))))))))))))) rfl
    go_quiet ((go_at_call 36; exact quiet_drew (hel.out _ (H9.out.drewN _).tail.tail.tail.tail ((H9.out.drewN _).re (.step (.there (.there (.here _ _))) (.done _))))))
    have H3 := Lib.hid (H9.out.drewN nq)
    generalize w9.drewN nq = w3 at *
    clear H9
    go_wp2_with fail
    have hwr := IntWalk.u32_in (gN + 1) ⟨by omega, by omega⟩
    have hH := H3
    clear H3 p0 p3 p4 p5 p6 p7 hno hri heq hel hc' h1b h2b
    refine wp_region_any (by kernel_rfl) ?_
    try (change wpAny _ _ _ _ _ _ _ (World.drew _))
    have H := hH.out.drew
    generalize World.drew w3 = w4 at *
    have p0 := H.cell (b := p) (o := 0) (by first | exact .here _ _ | exact .there (.here _ _) | exact .there (.there (.here _ _)) | exact .there (.there (.there (.here _ _))) | exact .there (.there (.there (.there (.here _ _)))) | exact .there (.there (.there (.there (.there (.here _ _))))) | exact .there (.there (.there (.there (.there (.there (.here _ _)))))) | exact .there (.there (.there (.there (.there (.there (.there (.here _ _))))))) | exact .there (.there (.there (.there (.there (.there (.there (.there (.here _ _)))))))) | exact .there (.there (.there (.there (.there (.there (.there (.there (.there (.here _ _))))))))) | exact .there (.there (.there (.there (.there (.there (.there (.there (.there (.there (.here _ _)))))))))) | exact .there (.there (.there (.there (.there (.there (.there (.there (.there (.there (.there (.here _ _))))))))))) | exact .there (.there (.there (.there (.there (.there (.there (.there (.there (.there (.there (.there (.here _ _)))))))))))) | exact .there (.there (.there (.there (.there (.there (.there (.there (.there (.there (.there (.there (.there (.here _ _)))))))))))))) rfl
    have p6 := H.cell (b := p) (o := 6) (by first | exact .here _ _ | exact .there (.here _ _) | exact .there (.there (.here _ _)) | exact .there (.there (.there (.here _ _))) | exact .there (.there (.there (.there (.here _ _)))) | exact .there (.there (.there (.there (.there (.here _ _))))) | exact .there (.there (.there (.there (.there (.there (.here _ _)))))) | exact .there (.there (.there (.there (.there (.there (.there (.here _ _))))))) | exact .there (.there (.there (.there (.there (.there (.there (.there (.here _ _)))))))) | exact .there (.there (.there (.there (.there (.there (.there (.there (.there (.here _ _))))))))) | exact .there (.there (.there (.there (.there (.there (.there (.there (.there (.there (.here _ _)))))))))) | exact .there (.there (.there (.there (.there (.there (.there (.there (.there (.there (.there (.here _ _))))))))))) | exact .there (.there (.there (.there (.there (.there (.there (.there (.there (.there (.there (.there (.here _ _)))))))))))) | exact .there (.there (.there (.there (.there (.there (.there (.there (.there (.there (.there (.there (.there (.here _ _)))))))))))))) rfl
    clear hH
    refine takeW (i := 0) rfl (by kernel_rfl) (by kernel_rfl) (by kernel_rfl) (fun _ _ _ _ h => h) ?_ (Or.inl ⟨by rfl, ?_⟩) ?_
    rotate_left
    · intro W
      first | (go_simp; done) | (go_simp; with_reducible rfl)
    ((try simp only [Act.put]); (try simp only [List.setIfInBounds_toArray]); (try simp only [List.set_cons_succ]); (try simp only [List.set_cons_zero]))
    refine takeW (i := 1) rfl (by kernel_rfl) (by kernel_rfl) (by kernel_rfl) (fun _ _ _ _ h => h) ?_ (Or.inl ⟨by rfl, ?_⟩) ?_
    rotate_left
    · intro W
      first | (go_simp; done) | (go_simp; with_reducible rfl)
    ((try simp only [Act.put]); (try simp only [List.setIfInBounds_toArray]); (try simp only [List.set_cons_succ]); (try simp only [List.set_cons_zero]))
    refine takeW (i := 2) rfl (by kernel_rfl) (by kernel_rfl) (by kernel_rfl) (fun _ _ _ _ h => h) ?_ (Or.inl ⟨by rfl, ?_⟩) ?_
    rotate_left
    · intro W
      first | (go_simp; done) | (go_simp; with_reducible rfl)
    ((try simp only [Act.put]); (try simp only [List.setIfInBounds_toArray]); (try simp only [List.set_cons_succ]); (try simp only [List.set_cons_zero]))
    refine takeW (i := 3) rfl (by kernel_rfl) (by kernel_rfl) (by kernel_rfl) (fun _ _ _ _ h => h) ?_ (Or.inl ⟨by rfl, ?_⟩) ?_
    rotate_left
    · intro W
      first | (go_simp; done) | (go_simp; with_reducible rfl)
    ((try simp only [Act.put]); (try simp only [List.setIfInBounds_toArray]); (try simp only [List.set_cons_succ]); (try simp only [List.set_cons_zero]))
    refine takeW (i := 4) rfl (by kernel_rfl) (by kernel_rfl) (by kernel_rfl) (fun _ _ _ _ h => h) ?_ (Or.inl ⟨by rfl, ?_⟩) ?_
    rotate_left
    · intro W
      first | (go_simp; done) | (go_simp; with_reducible rfl)
    ((try simp only [Act.put]); (try simp only [List.setIfInBounds_toArray]); (try simp only [List.set_cons_succ]); (try simp only [List.set_cons_zero]))
    refine takeW (i := 7) rfl (by kernel_rfl) (by kernel_rfl) (by kernel_rfl) (fun _ _ _ _ h => h) ?_ (Or.inl ⟨by rfl, ?_⟩) ?_
    rotate_left
    · intro W
      first | (go_simp; done) | (go_simp; with_reducible rfl)
    ((try simp only [Act.put]); (try simp only [List.setIfInBounds_toArray]); (try simp only [List.set_cons_succ]); (try simp only [List.set_cons_zero]))
    refine takeW (i := 8) rfl (by kernel_rfl) (by kernel_rfl) (by kernel_rfl) (fun _ _ _ _ h => h) ?_ (Or.inl ⟨by rfl, ?_⟩) ?_
    rotate_left
    · intro W
      first | (go_simp; done) | (go_simp; with_reducible rfl)
    ((try simp only [Act.put]); (try simp only [List.setIfInBounds_toArray]); (try simp only [List.set_cons_succ]); (try simp only [List.set_cons_zero]))
    refine takeW (i := 9) rfl (by kernel_rfl) (by kernel_rfl) (by kernel_rfl) (fun _ _ _ _ h => h) ?_ (Or.inl ⟨by rfl, ?_⟩) ?_
    rotate_left
    · intro W
      first | (go_simp; done) | (go_simp; with_reducible rfl)
    ((try simp only [Act.put]); (try simp only [List.setIfInBounds_toArray]); (try simp only [List.set_cons_succ]); (try simp only [List.set_cons_zero]))
    refine takeW (i := 12) rfl (by kernel_rfl) (by kernel_rfl) (by kernel_rfl) (fun _ _ _ _ h => h) ?_ (Or.inl ⟨by rfl, ?_⟩) ?_
    rotate_left
    · intro W
      first | (go_simp; done) | (go_simp; with_reducible rfl)
    ((try simp only [Act.put]); (try simp only [List.setIfInBounds_toArray]); (try simp only [List.set_cons_succ]); (try simp only [List.set_cons_zero]))
    refine wpAny_ready (rs := [5, 10]) (by kernel_rfl) (by simp) ?_
    refine AllReady.cons rfl (fun K hK => ?_) ?_
    · rw [if_pos (by rfl)]
      go_simp
      refine hK _ _ ?_
      clear hK K
      ((try simp only [Act.put]); (try simp only [List.setIfInBounds_toArray]); (try simp only [List.set_cons_succ]); (try simp only [List.set_cons_zero]))
      refine takeW (i := 6) rfl (by kernel_rfl) (by kernel_rfl) (by kernel_rfl) (fun _ _ _ _ h => h) ?_ (Or.inl ⟨by rfl, ?_⟩) ?_
      rotate_left
      · intro W
        first | (go_simp; done) | (go_simp; with_reducible rfl)
      ((try simp only [Act.put]); (try simp only [List.setIfInBounds_toArray]); (try simp only [List.set_cons_succ]); (try simp only [List.set_cons_zero]))
      refine wpAny_ready (rs := [10]) (by kernel_rfl) (by simp) ?_
      refine AllReady.cons rfl (fun K hK => ?_) ?_
      · rw [if_pos (by rfl)]
        go_simp
        refine hK _ _ ?_
        clear hK K
        ((try simp only [Act.put]); (try simp only [List.setIfInBounds_toArray]); (try simp only [List.set_cons_succ]); (try simp only [List.set_cons_zero]))
        refine takeW (i := 11) rfl (by kernel_rfl) (by kernel_rfl) (by kernel_rfl) (fun _ _ _ _ h => h) ?_ (Or.inl ⟨by rfl, ?_⟩) ?_
        rotate_left
        · intro W
          first | (go_simp; done) | (go_simp; with_reducible rfl)
        ((try simp only [Act.put]); (try simp only [List.setIfInBounds_toArray]); (try simp only [List.set_cons_succ]); (try simp only [List.set_cons_zero]))
        refine takeW (i := 13) rfl (by kernel_rfl) (by kernel_rfl) (by kernel_rfl) (fun _ _ _ _ h => h) ?_ (Or.inl ⟨by rfl, ?_⟩) ?_
        rotate_left
        · intro W
          first | (go_simp; done) | (go_simp; with_reducible rfl)
        ((try simp only [Act.put]); (try simp only [List.setIfInBounds_toArray]); (try simp only [List.set_cons_succ]); (try simp only [List.set_cons_zero]))
        refine wpAny_ready (rs := [14]) (by kernel_rfl) (by simp) ?_
        refine AllReady.cons rfl (fun K hK => ?_) ?_
        · rw [if_pos (by rfl)]
          go_simp
          refine (had.out _ _ (H.re (.step (.there (.here _ _)) (.same _)))).mono ?_
          rintro r w5 ⟨⟨v, rfl⟩, a', c', b'', H5⟩
          clear H had p0 p6
          refine hK _ _ ?_
          clear hK K
          ((try simp only [Act.put]); (try simp only [List.setIfInBounds_toArray]); (try simp only [List.set_cons_succ]); (try simp only [List.set_cons_zero]))
          refine wpAny_done (by kernel_rfl) ?_ _
          have H5' := Lib.hid H5
          clear H5
          go_wp2_with fail
          refine (hvw'.out _ _ _ _ _ H5'.out).mono ?_
          rintro r w6 ⟨a2, c2, rfl, H6⟩
          have z0 := H6.cell (o := 0) (.here _ _) rfl
          have z1 := H6.cell (o := 1) (.here _ _) rfl
          have z2 := H6.cell (o := 2) (.here _ _) rfl
          have fz := fun o => H6.free (.here _ _) o
          have h8 := Lib.hid (((H6.setCell 0 (.int .u32 (gN + 1))).setCell 1 (.int .i64 self)).setCell 2 (.slice a2 len c2))
          clear H6 H5' hvw'
          go_wp2_with fail
          generalize ((w6.setCell ⟨b1, 0, none⟩ (.int .u32 (gN + 1))).setCell ⟨b1, 1, none⟩ (.int .i64 self)).setCell ⟨b1, 2, none⟩ (.slice a2 len c2) = w7 at *
          have k0 := h8.out.cell (o := 0) (.here _ _) rfl
          have k1 := h8.out.cell (o := 1) (.here _ _) rfl
          have k2 := h8.out.cell (o := 2) (.here _ _) rfl
          refine bodyPost_ret (v := .tuple #[.agg #[.int .u32 (gN + 1), .int .i64 self, .slice a2 len c2], .bool true]) ?_ rfl ?_
          · simp [results, Try.results12, go_sem, k0, k1, k2]
          · exact ⟨a2, c2, a', c', b'', rfl, h8.out.re (.drop (.same _))⟩
        exact AllReady.nil
      exact AllReady.nil
    refine AllReady.cons rfl (fun K hK => ?_) ?_
    · rw [if_pos (by rfl)]
      go_simp
      refine hK _ _ ?_
      clear hK K
      ((try simp only [Act.put]); (try simp only [List.setIfInBounds_toArray]); (try simp only [List.set_cons_succ]); (try simp only [List.set_cons_zero]))
      refine wpAny_ready (rs := [5]) (by kernel_rfl) (by simp) ?_
      refine AllReady.cons rfl (fun K hK => ?_) ?_
      · rw [if_pos (by rfl)]
        go_simp
        refine hK _ _ ?_
        clear hK K
        ((try simp only [Act.put]); (try simp only [List.setIfInBounds_toArray]); (try simp only [List.set_cons_succ]); (try simp only [List.set_cons_zero]))
        refine takeW (i := 6) rfl (by kernel_rfl) (by kernel_rfl) (by kernel_rfl) (fun _ _ _ _ h => h) ?_ (Or.inl ⟨by rfl, ?_⟩) ?_
        rotate_left
        · intro W
          first | (go_simp; done) | (go_simp; with_reducible rfl)
        ((try simp only [Act.put]); (try simp only [List.setIfInBounds_toArray]); (try simp only [List.set_cons_succ]); (try simp only [List.set_cons_zero]))
        refine takeW (i := 11) rfl (by kernel_rfl) (by kernel_rfl) (by kernel_rfl) (fun _ _ _ _ h => h) ?_ (Or.inl ⟨by rfl, ?_⟩) ?_
        rotate_left
        · intro W
          first | (go_simp; done) | (go_simp; with_reducible rfl)
        ((try simp only [Act.put]); (try simp only [List.setIfInBounds_toArray]); (try simp only [List.set_cons_succ]); (try simp only [List.set_cons_zero]))
        refine takeW (i := 13) rfl (by kernel_rfl) (by kernel_rfl) (by kernel_rfl) (fun _ _ _ _ h => h) ?_ (Or.inl ⟨by rfl, ?_⟩) ?_
        rotate_left
        · intro W
          first | (go_simp; done) | (go_simp; with_reducible rfl)
        ((try simp only [Act.put]); (try simp only [List.setIfInBounds_toArray]); (try simp only [List.set_cons_succ]); (try simp only [List.set_cons_zero]))
        refine wpAny_ready (rs := [14]) (by kernel_rfl) (by simp) ?_
        refine AllReady.cons rfl (fun K hK => ?_) ?_
        · rw [if_pos (by rfl)]
          go_simp
          refine (had.out _ _ (H.re (.step (.there (.here _ _)) (.same _)))).mono ?_
          rintro r w5 ⟨⟨v, rfl⟩, a', c', b'', H5⟩
          clear H had p0 p6
          refine hK _ _ ?_
          clear hK K
          ((try simp only [Act.put]); (try simp only [List.setIfInBounds_toArray]); (try simp only [List.set_cons_succ]); (try simp only [List.set_cons_zero]))
          refine wpAny_done (by kernel_rfl) ?_ _
          have H5' := Lib.hid H5
          clear H5
          go_wp2_with fail
          refine (hvw'.out _ _ _ _ _ H5'.out).mono ?_
          rintro r w6 ⟨a2, c2, rfl, H6⟩
          have z0 := H6.cell (o := 0) (.here _ _) rfl
          have z1 := H6.cell (o := 1) (.here _ _) rfl
          have z2 := H6.cell (o := 2) (.here _ _) rfl
          have fz := fun o => H6.free (.here _ _) o
          have h8 := Lib.hid (((H6.setCell 0 (.int .u32 (gN + 1))).setCell 1 (.int .i64 self)).setCell 2 (.slice a2 len c2))
          clear H6 H5' hvw'
          go_wp2_with fail
          generalize ((w6.setCell ⟨b1, 0, none⟩ (.int .u32 (gN + 1))).setCell ⟨b1, 1, none⟩ (.int .i64 self)).setCell ⟨b1, 2, none⟩ (.slice a2 len c2) = w7 at *
          have k0 := h8.out.cell (o := 0) (.here _ _) rfl
          have k1 := h8.out.cell (o := 1) (.here _ _) rfl
          have k2 := h8.out.cell (o := 2) (.here _ _) rfl
          refine bodyPost_ret (v := .tuple #[.agg #[.int .u32 (gN + 1), .int .i64 self, .slice a2 len c2], .bool true]) ?_ rfl ?_
          · simp [results, Try.results12, go_sem, k0, k1, k2]
          · exact ⟨a2, c2, a', c', b'', rfl, h8.out.re (.drop (.same _))⟩
        exact AllReady.nil
      exact AllReady.nil
    exact AllReady.nil
end Go.Proofs.Ytaibdcglhibglaa
