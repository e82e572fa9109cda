/- What is read from what was written is that; what is written of what was read is that (plain law). -/
import Derived.Test.YtilpkfgdlehmpaaDoorDecLD
import Derived.Test.YtilpkfgdlehmpaaDoorEnc
namespace Go.Proofs.YtilpkfgdlehmpaaDoor
set_option linter.unusedVariables false

/-- What a number's form at the front says. -/
theorem numF_inv : ∀ (l : List Int) {i : Nat} {n v : Int} {k : Nat}, (∀ c ∈ l, byteK c) → i ≤ 10 → numF i n l = some (v, k) →
    ∃ m : Nat, v = n + m * 128 ^ i ∧ k = i + (nB m).length ∧ l = nB m ++ l.drop (k - i) ∧ (0 < i → 0 < m)
  | [], i, n, v, k, _, _, h => by rw [numF_nil] at h; cases h
  | c :: l, i, n, v, k, hb, hi, h => by
    have hc := hb c (List.mem_cons_self ..)
    unfold byteK at hc
    by_cases h1 : i = 10 ∨ (i = 9 ∧ 1 < c % 128)
    · rw [numF_stop h1] at h; cases h
    · by_cases hc1 : 128 ≤ c
      · rw [numF_next h1 hc1] at h
        obtain ⟨m, e1, e2, e3, e4⟩ := numF_inv l (fun d hd => hb d (List.mem_cons_of_mem _ hd)) (by omega) h
        have hm := e4 (by omega)
        obtain ⟨C, rfl⟩ := Int.eq_ofNat_of_zero_le hc.1
        have hC : 128 ≤ C ∧ C ≤ 255 := by omega
        have hd1 : (C % 128 + 128 * m) / 128 = m := by omega
        have hd2 : (C % 128 + 128 * m) % 128 + 128 = C := by omega
        refine ⟨C % 128 + 128 * m, ?_, ?_, ?_, fun _ => by omega⟩
        · rw [e1, Int.pow_succ]
          have e : ((C % 128 + 128 * m : Nat) : Int) = (C : Int) % 128 + 128 * (m : Int) := by omega
          rw [e]
          generalize (128 : Int) ^ i = P
          generalize (C : Int) % 128 = x
          generalize (m : Int) = y
          rw [Int.add_mul, Int.add_assoc]
          congr 1
          congr 1
          rw [Int.mul_comm P 128, ← Int.mul_assoc, Int.mul_comm y 128]
        · rw [nB_big (by omega), hd1, List.length_cons, e2]; omega
        · rw [nB_big (by omega), hd1, hd2, List.cons_append]
          congr 1
          have e5 : k - i = (k - (i + 1)) + 1 := by omega
          rw [e5, List.drop_succ_cons]
          exact e3
      · by_cases hz : c = 0 ∧ 0 < i
        · rw [numF_zero h1 hz.1 hz.2] at h; cases h
        · rw [numF_done h1 hc1 hz] at h
          cases h
          obtain ⟨C, rfl⟩ := Int.eq_ofNat_of_zero_le hc.1
          refine ⟨C, ?_, ?_, ?_, fun h => by omega⟩
          · rw [show (C : Int) % 128 = C by omega]
          · rw [nB_small (by omega)]; rfl
          · rw [nB_small (by omega), show i + 1 - i = 1 by omega]; rfl

theorem upK_form {m : Nat} {l : List Int} {most : Int} (h : (m : Int) ≤ most) (h64 : m < 18446744073709551616) : upK (nB m ++ l, false) most = ((m : Int), (l, false)) := by
  have e := numF_nB l m 0 0 (by simpa using h64) (by omega) (by omega)
  rw [upK_some rfl e, if_neg (by simp; omega)]
  simp
theorem upK_inv {l l' : List Int} {v most : Int} (hy : ∀ c ∈ l, byteK c) (h : upK (l, false) most = (v, (l', false))) : l = nB v.toNat ++ l' ∧ 0 ≤ v ∧ v ≤ most := by
  unfold upK at h
  rw [if_neg (by simp)] at h
  cases hF : numF 0 0 l with
  | none => simp [hF] at h
  | some q =>
    obtain ⟨u, k⟩ := q
    obtain ⟨m, e1, e2, e3, -⟩ := numF_inv l hy (by omega) hF
    simp only [hF] at h
    by_cases hm : most < u
    · rw [if_pos hm] at h; simp at h
    · rw [if_neg hm] at h
      simp only [Prod.mk.injEq] at h
      obtain ⟨rfl, rfl, -⟩ := h
      have e4 : u = (m : Int) := by rw [e1]; simp
      subst e4
      refine ⟨?_, by omega, by omega⟩
      rw [show k - 0 = k by omega] at e3
      exact e3
theorem upK_ok {st : RdSt18} {m : Int} (h : (upK st m).2.2 = false) : st.2 = false := by
  unfold upK at h
  split at h
  · exact h
  · split at h
    · cases h
    · rename_i h0 _ _ _ _
      simpa using h0
theorem textK_ok {st : RdSt18} {m : Int} (h : (textK st m).2.2 = false) : st.2 = false := by
  unfold textK at h
  split at h
  · exact h
  · rename_i h0
    simpa using h0
theorem textK_form {d l : List Int} {most : Int} (h : (d.length : Int) ≤ most) (h64 : d.length < 18446744073709551616) : textK (nB d.length ++ (d ++ l), false) most = (d, (l, false)) := by
  unfold textK
  rw [if_neg (by simp), upK_form h h64, if_neg (by simp; omega)]
  simp
theorem textK_inv {l l' d : List Int} {most : Int} (hy : ∀ c ∈ l, byteK c) (h : textK (l, false) most = (d, (l', false))) : l = nB d.length ++ (d ++ l') ∧ (d.length : Int) ≤ most := by
  unfold textK at h
  rw [if_neg (by simp)] at h
  by_cases h1 : (upK (l, false) most).2.2 = true ∨ ((upK (l, false) most).2.1.length : Int) < (upK (l, false) most).1
  · rw [if_pos h1] at h; simp at h
  · rw [if_neg h1] at h
    obtain ⟨h2, h3⟩ := not_or.1 h1
    obtain ⟨v, k, s⟩ : Int × RdSt18 := upK (l, false) most
    generalize hq : upK (l, false) most = q at *
    obtain ⟨v', k', s'⟩ := q
    dsimp only at *
    obtain rfl : s' = false := by simpa using h2
    obtain ⟨e1, e2, e3⟩ := upK_inv hy hq
    simp only [Prod.mk.injEq] at h
    obtain ⟨rfl, rfl, -⟩ := h
    have e4 : (k'.take v'.toNat).length = v'.toNat := by rw [List.length_take]; omega
    rw [e4, List.take_append_drop]
    exact ⟨e1, by omega⟩

theorem Gm.ext' {g h : Gm} (h1 : g.kind = h.kind) (h2 : g.fr = h.fr) (h3 : g.dst = h.dst) (h4 : g.n = h.n) (h5 : g.by' = h.by') (h6 : g.seq = h.seq) (h7 : g.ack = h.ack) (h8 : g.mask = h.mask) (h9 : g.data = h.data) : g = h := by
  obtain ⟨_, _, _, _, _, _, _, _, _⟩ := g
  obtain ⟨_, _, _, _, _, _, _, _, _⟩ := h
  simp_all

/-- What was written is read. -/
theorem readK_enc {g : Gm} (ok : GmOk g) (hm : mayK g) : readK (encI g) = (g, ([], false)) := by
  obtain ⟨⟨f1, f2⟩, ⟨d1, d2⟩, ⟨b1, b2⟩, -, hf⟩ := hm
  have n1 := ok.n
  have s1 := ok.seq
  have a1 := ok.ack
  have m1 := ok.mask
  unfold U64 at n1 s1 a1 m1
  obtain ⟨kind, fr, dst, n, by', seq, ack, mask, data⟩ := g
  unfold formK at hf
  dsimp only at *
  obtain ⟨KI, rfl⟩ := Int.eq_ofNat_of_zero_le (show 0 ≤ kind by omega)
  obtain ⟨FR, rfl⟩ := Int.eq_ofNat_of_zero_le f1
  obtain ⟨DS, rfl⟩ := Int.eq_ofNat_of_zero_le d1
  obtain ⟨NN, rfl⟩ := Int.eq_ofNat_of_zero_le n1.1
  obtain ⟨BY, rfl⟩ := Int.eq_ofNat_of_zero_le b1
  obtain ⟨SQ, rfl⟩ := Int.eq_ofNat_of_zero_le s1.1
  obtain ⟨AK, rfl⟩ := Int.eq_ofNat_of_zero_le a1.1
  obtain ⟨MS, rfl⟩ := Int.eq_ofNat_of_zero_le m1.1
  have hk : KI = 1 ∨ KI = 2 ∨ KI = 3 := by omega
  have u1 : ∀ l, upK (nB KI ++ l, false) 3 = ((KI : Int), (l, false)) := fun l => upK_form (by omega) (by omega)
  have u2 : ∀ l, upK (nB FR ++ l, false) 63 = ((FR : Int), (l, false)) := fun l => upK_form (by omega) (by omega)
  have u3 : ∀ l, upK (nB DS ++ l, false) 63 = ((DS : Int), (l, false)) := fun l => upK_form (by omega) (by omega)
  have u4 : ∀ l, upK (nB NN ++ l, false) most64 = ((NN : Int), (l, false)) := fun l => upK_form (by unfold most64; omega) (by omega)
  have u5 : ∀ l, upK (nB BY ++ l, false) 63 = ((BY : Int), (l, false)) := fun l => upK_form (by omega) (by omega)
  have u6 : ∀ l, upK (nB SQ ++ l, false) most64 = ((SQ : Int), (l, false)) := fun l => upK_form (by unfold most64; omega) (by omega)
  have u7 : ∀ l, upK (nB AK ++ l, false) most64 = ((AK : Int), (l, false)) := fun l => upK_form (by unfold most64; omega) (by omega)
  have u8 : ∀ l, upK (nB MS ++ l, false) most64 = ((MS : Int), (l, false)) := fun l => upK_form (by unfold most64; omega) (by omega)
  have u4n := u4 []
  have u5n : upK (nB BY, false) 63 = ((BY : Int), ([], false)) := by simpa using u5 []
  have u8n : upK (nB MS, false) most64 = ((MS : Int), ([], false)) := by simpa using u8 []
  unfold readK encI headB fldB fldN
  rcases hk with rfl | rfl | rfl
  · obtain ⟨q1, q2, q3, q4⟩ : (SQ : Int) = 0 ∧ (AK : Int) = 0 ∧ (MS : Int) = 0 ∧ data = [] := by
      rcases hf with hf | hf | hf
      · exact hf.2
      · omega
      · omega
    subst q4
    simp only [Int.toNat_natCast, List.append_assoc]
    rw [u1]
    simp [u2, u3, u4, u5n, q1, q2, q3]
  · have hd : data.length ≤ 900 := by
      rcases hf with hf | hf | hf
      · omega
      · exact hf.2.2.2.2
      · omega
    have u9 : textK (nB data.length ++ data, false) 900 = (data, ([], false)) := by
      have := textK_form (d := data) (l := []) (most := 900) (by omega) (by omega)
      simpa using this
    simp only [Int.toNat_natCast, List.append_assoc, fvK]
    simp [u1, u2, u3, u4, u5, u6, u7, u8, u9]
  · obtain ⟨q1, q4⟩ : (SQ : Int) = 0 ∧ data = [] := by
      rcases hf with hf | hf | hf
      · omega
      · omega
      · exact ⟨hf.2.1, hf.2.2.2.2⟩
    subst q4
    simp only [Int.toNat_natCast, List.append_assoc, fvK]
    simp [u1, u2, u3, u4, u5, u7, u8n, q1]
theorem decK_enc {g : Gm} (ok : GmOk g) (hm : mayK g) : decK (encI g) = some g := by
  unfold decK
  rw [readK_enc ok hm, if_pos ⟨⟨rfl, rfl⟩, hm⟩]

theorem st_eta (q : Int × RdSt18) (h : q.2.2 = false) : q = (q.1, (q.2.1, false)) := by
  obtain ⟨v, l, s⟩ := q
  dsimp only at h
  rw [h]
theorem st_eta' (q : List Int × RdSt18) (h : q.2.2 = false) : q = (q.1, (q.2.1, false)) := by
  obtain ⟨v, l, s⟩ := q
  dsimp only at h
  rw [h]
theorem up_one {st : RdSt18} {m : Int} (hy : ∀ c ∈ st.1, byteK c) (h : (upK st m).2.2 = false) : st.2 = false ∧ st.1 = nB (upK st m).1.toNat ++ (upK st m).2.1 := by
  have h0 := upK_ok h
  obtain ⟨l, s⟩ := st
  dsimp only at h0
  subst h0
  exact ⟨rfl, (upK_inv hy (st_eta _ h)).1⟩
theorem text_one {st : RdSt18} {m : Int} (hy : ∀ c ∈ st.1, byteK c) (h : (textK st m).2.2 = false) : st.2 = false ∧ st.1 = nB (textK st m).1.length ++ ((textK st m).1 ++ (textK st m).2.1) := by
  have h0 := textK_ok h
  obtain ⟨l, s⟩ := st
  dsimp only at h0
  subst h0
  exact ⟨rfl, (textK_inv hy (st_eta' _ h)).1⟩
/-- What was read is written so. -/
theorem enc_readK {bs : List Int} (hy : ∀ c ∈ bs, byteK c) (he : endK (readK bs).2) (hm : mayK (readK bs).1) : encI (readK bs).1 = bs := by
  obtain ⟨e1, e2⟩ := he
  have hf := hm.2.2.2.2
  clear hm
  unfold formK at hf
  unfold readK at *
  dsimp only at *
  have y0 : ∀ c ∈ ((bs, false) : RdSt18).1, byteK c := hy
  have y1 := upK_bytes (m := 3) y0
  have p1 := up_one (m := 3) y0
  generalize upK (bs, false) 3 = a at *
  have y2 := upK_bytes (m := 63) y1
  have p2 := up_one (m := 63) y1
  generalize upK a.2 63 = f at *
  have y3 := upK_bytes (m := 63) y2
  have p3 := up_one (m := 63) y2
  generalize upK f.2 63 = t at *
  have y4 := upK_bytes (m := most64) y3
  have p4 := up_one (m := most64) y3
  generalize upK t.2 most64 = n at *
  have y5 := upK_bytes (m := 63) y4
  have p5 := up_one (m := 63) y4
  generalize upK n.2 63 = b at *
  have hk : a.1 = 1 ∨ a.1 = 2 ∨ a.1 = 3 := by
    rcases hf with hf | hf | hf
    · exact .inl hf.1
    · exact .inr (.inl hf.1)
    · exact .inr (.inr hf.1)
  rcases hk with h | h | h
  · simp only [h, if_neg (show ¬ (1 : Int) = 2 by decide), if_neg (show ¬ (2 : Int) ≤ 1 by decide)] at e1 e2 hf ⊢
    obtain ⟨q5, r5⟩ := p5 e1
    obtain ⟨q4, r4⟩ := p4 q5
    obtain ⟨q3, r3⟩ := p3 q4
    obtain ⟨q2, r2⟩ := p2 q3
    obtain ⟨q1, r1⟩ := p1 q2
    unfold encI headB fldB fldN
    rw [h] at r1
    have r1' : bs = nB (1 : Int).toNat ++ a.2.1 := r1
    simp only [if_pos, if_neg (show ¬ (1 : Int) = 2 by decide), List.flatMap_nil, List.append_nil, List.append_assoc]
    rw [r1', r2, r3, r4, r5, e2, List.append_nil]
  · simp only [h, if_pos, if_pos (show (2 : Int) ≤ 2 by decide)] at e1 e2 hf ⊢
    have y6 := upK_bytes (m := most64) y5
    have p6 := up_one (m := most64) y5
    generalize upK b.2 most64 = q at *
    have y7 := upK_bytes (m := most64) y6
    have p7 := up_one (m := most64) y6
    generalize upK q.2 most64 = k at *
    have y8 := upK_bytes (m := most64) y7
    have p8 := up_one (m := most64) y7
    generalize upK k.2 most64 = m at *
    have p9 := text_one (m := 900) y8
    generalize textK m.2 900 = d at *
    obtain ⟨q9, r9⟩ := p9 e1
    obtain ⟨q8, r8⟩ := p8 q9
    obtain ⟨q7, r7⟩ := p7 q8
    obtain ⟨q6, r6⟩ := p6 q7
    obtain ⟨q5, r5⟩ := p5 q6
    obtain ⟨q4, r4⟩ := p4 q5
    obtain ⟨q3, r3⟩ := p3 q4
    obtain ⟨q2, r2⟩ := p2 q3
    obtain ⟨q1, r1⟩ := p1 q2
    unfold encI headB fldB fldN fvK
    rw [h] at r1
    have r1' : bs = nB (2 : Int).toNat ++ a.2.1 := r1
    simp only [List.append_assoc]
    rw [r1', r2, r3, r4, r5, r6, r7, r8, r9, e2]
    simp
  · simp only [h, if_neg (show ¬ (3 : Int) = 2 by decide), if_pos (show (2 : Int) ≤ 3 by decide)] at e1 e2 hf ⊢
    have y7 := upK_bytes (m := most64) y5
    have p7 := up_one (m := most64) y5
    generalize upK b.2 most64 = k at *
    have y8 := upK_bytes (m := most64) y7
    have p8 := up_one (m := most64) y7
    generalize upK k.2 most64 = m at *
    obtain ⟨q8, r8⟩ := p8 e1
    obtain ⟨q7, r7⟩ := p7 q8
    obtain ⟨q5, r5⟩ := p5 q7
    obtain ⟨q4, r4⟩ := p4 q5
    obtain ⟨q3, r3⟩ := p3 q4
    obtain ⟨q2, r2⟩ := p2 q3
    obtain ⟨q1, r1⟩ := p1 q2
    unfold encI headB fldB fldN fvK
    rw [h] at r1
    have r1' : bs = nB (3 : Int).toNat ++ a.2.1 := r1
    simp only [List.append_assoc]
    rw [r1', r2, r3, r4, r5, r7, r8, e2]
    simp

theorem toB_of_U (l : List (BitVec 8)) : toB (l.map Crc.U) = l := by
  unfold toB
  rw [List.map_map]
  refine (List.map_congr_left (g := id) fun x _ => ?_).trans (List.map_id l)
  show BitVec.ofInt 8 (Crc.U x) = x
  unfold Crc.U
  apply BitVec.eq_of_toNat_eq
  simp
theorem sealed_take' (bs : List (BitVec 8)) : (Crc.sealed bs).take ((Crc.sealed bs).length - 4) = bs := by
  have h : (Crc.sealed bs).length = bs.length + 4 := by simp [Crc.sealed, Crc.sumB]
  rw [h, Nat.add_sub_cancel, Crc.sealed, List.take_append_of_le_length (Nat.le_refl _), List.take_length]
theorem openB_seal {bs : List Int} (hy : ∀ c ∈ bs, byteK c) : openB (sealI bs) = bs ∧ openZ (sealI bs) = 0 := by
  have h : (Crc.sealed (toB bs)).length = (toB bs).length + 4 := by simp [Crc.sealed, Crc.sumB]
  unfold openB openZ sealI Crc.opened Crc.openE
  rw [toB_of_U, sealed_take', if_pos ⟨by omega, rfl⟩, if_pos ⟨by omega, rfl⟩, toB_U hy]
  exact ⟨rfl, rfl⟩
theorem seal_openB {bs : List Int} (hy : ∀ c ∈ bs, byteK c) (h : openZ bs = 0) : sealI (openB bs) = bs := by
  unfold openZ Crc.openE at h
  split at h
  · rename_i h1
    unfold sealI openB Crc.opened
    rw [if_pos h1, toB_of_U, h1.2, toB_U hy]
  · cases h
theorem encI_bytes {g : Gm} (ok : GmOk g) : ∀ c ∈ encI g, byteK c := by
  intro c hc
  unfold encI headB fldB at hc
  simp only [List.mem_append, List.mem_flatMap] at hc
  rcases hc with (((((h | h) | h) | h) | h) | ⟨y, -, h⟩) | h
  · exact nB_bytes _ _ h
  · exact nB_bytes _ _ h
  · exact nB_bytes _ _ h
  · exact nB_bytes _ _ h
  · exact nB_bytes _ _ h
  · exact nB_bytes _ _ h
  · split at h
    · rcases List.mem_append.1 h with h | h
      · exact nB_bytes _ _ h
      · exact ok.data c h
    · cases h
/-- What was encoded is decoded. -/
theorem dec_enc {g : Gm} (ok : GmOk g) (hm : mayK g) : decR (sealI (encI g)) = (g, 0) := by
  obtain ⟨h1, h2⟩ := openB_seal (encI_bytes ok)
  unfold decR
  rw [h1, h2, if_pos rfl, decK_enc ok hm]
/-- What was decoded is encoded so. -/
theorem enc_dec {bs : List Int} (hy : ∀ c ∈ bs, byteK c) (h : (decR bs).2 = 0) : mayK (decR bs).1 ∧ sealI (encI (decR bs).1) = bs := by
  unfold decR at *
  by_cases hz : openZ bs = 0
  · rw [if_pos hz] at h ⊢
    cases hd : decK (openB bs) with
    | none => rw [hd] at h; cases h
    | some g =>
      dsimp only
      unfold decK at hd
      split at hd
      · rename_i hh
        cases hd
        exact ⟨hh.2, by rw [enc_readK (openB_bytes bs) hh.1 hh.2, seal_openB hy hz]⟩
      · cases hd
  · rw [if_neg hz] at h; cases h
theorem enc_inj {g h : Gm} (og : GmOk g) (oh : GmOk h) (mg : mayK g) (mh : mayK h) (e : sealI (encI g) = sealI (encI h)) : g = h := by
  have := dec_enc og mg
  rw [e, dec_enc oh mh] at this
  simpa using this.symm
/-- Its length. -/
theorem encI_len {g : Gm} (ok : GmOk g) (hm : mayK g) : (encI g).length ≤ 1000 := by
  obtain ⟨⟨f1, f2⟩, ⟨d1, d2⟩, ⟨b1, b2⟩, -, hf⟩ := hm
  have hd : g.data.length ≤ 900 := by
    unfold formK at hf
    rcases hf with ⟨-, -, -, -, h⟩ | ⟨-, -, -, -, h⟩ | ⟨-, -, -, -, h⟩
    · rw [h]; decide
    · exact h
    · rw [h]; decide
  have hk : g.kind.toNat < 18446744073709551616 := by unfold formK at hf; omega
  have l1 := nB_len64 hk
  have l2 := nB_len64 (n := g.fr.toNat) (by omega)
  have l3 := nB_len64 (n := g.dst.toNat) (by omega)
  have l4 := nB_lenI ok.n
  have l5 := nB_len64 (n := g.by'.toNat) (by omega)
  have l6 := fldB_len ok (fldN g.kind)
  have l7 := fldN_len g.kind
  have l8 := nB_len64 (n := g.data.length) (by omega)
  unfold encI headB
  simp only [List.length_append]
  split
  · rw [List.length_append]; omega
  · rw [List.length_nil]; omega
end Go.Proofs.YtilpkfgdlehmpaaDoor
