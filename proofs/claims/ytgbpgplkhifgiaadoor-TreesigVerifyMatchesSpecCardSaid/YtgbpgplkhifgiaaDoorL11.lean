/- For every root, height, message and signatures, Verify and Same answer as the specification says: the statement TreesigVerifyMatchesSpec. No condition. -/
import Derived.Test.YtgbpgplkhifgiaaDoorMH
import Derived.Test.YtgbpgplkhifgiaaDoorMD
set_option linter.unusedVariables false
set_option linter.unusedSimpArgs false
set_option maxRecDepth 100000
namespace Go.Proofs.YtgbpgplkhifgiaaDoor
open Go Go.RowKit


theorem smallF {a b : Nat} (h : ¬ (a ≤ 100 ∧ b ≤ 20)) : (decide (a ≤ 100) && decide (b ≤ 20)) = false := by
  rw [Bool.and_eq_false_iff]
  by_cases h1 : a ≤ 100
  · exact .inr (decide_eq_false (fun h2 => h ⟨h1, h2⟩))
  · exact .inl (decide_eq_false h1)

theorem vmatch_spec (root m : List UInt8) (height ix ix' : Int) (ch ps ch' ps' : List (List UInt8)) (hr : root.length = 16) (hm : m.length = 16) (hc : All16 ch) (hp : All16 ps) (hc' : All16 ch') (hp' : All16 ps') :
    Spec Tryd.prog glS 5 [.agg (root.map bw ++ (iv height :: (m.map bw ++ [iv ix, .ds true ch.length (fl ch), .ds true ps.length (fl ps), iv ix', .ds true ch'.length (fl ch'), .ds true ps'.length (fl ps')])))] [] (fun o => o = .ret (bv true) [] []) := by
  refine spec_of TB 52 [.tmp 2] Tryd.func5 rfl rfl rfl (Nat.le_of_ble_eq_true rfl) ?_
  intro X w0 E0 hE hX
  have hrl : (root.map bw).length = 16 := by simp [hr]
  have hml : (m.map bw).length = 16 := by simp [hm]
  generalize hT : ([iv ix, .ds true ch.length (fl ch), .ds true ps.length (fl ps), iv ix', .ds true ch'.length (fl ch'), .ds true ps'.length (fl ps')] : List AV) = T
  have hTl : T.length = 6 := by rw [← hT]; rfl
  have f0 : (root.map bw ++ (iv height :: (m.map bw ++ T))).length = 39 := by simp [hr, hm, hTl]
  have f1 : List.take 16 (root.map bw ++ (iv height :: (m.map bw ++ T))) = root.map bw := List.take_left' hrl
  have f2 : (root.map bw ++ (iv height :: (m.map bw ++ T)))[16]? = some (iv height) := by rw [List.getElem?_append_right (by omega), hrl]; rfl
  have f3 : List.take 16 (List.drop 17 (root.map bw ++ (iv height :: (m.map bw ++ T)))) = m.map bw := by
    rw [List.drop_append, List.drop_eq_nil_of_le (by omega), hrl]
    exact List.take_left' hml
  have f4 : List.take 3 (List.drop 33 (root.map bw ++ (iv height :: (m.map bw ++ T)))) = [iv ix, .ds true ch.length (fl ch), .ds true ps.length (fl ps)] := by
    rw [List.drop_append, List.drop_eq_nil_of_le (by omega), hrl]
    show List.take 3 (List.drop 16 (m.map bw ++ _)) = _
    rw [List.drop_left' hml, ← hT]
    rfl
  have f5 : List.take 3 (List.drop 36 (root.map bw ++ (iv height :: (m.map bw ++ T)))) = [iv ix', .ds true ch'.length (fl ch'), .ds true ps'.length (fl ps')] := by
    rw [List.drop_append, List.drop_eq_nil_of_le (by omega), hrl]
    show List.take 3 (List.drop 19 (m.map bw ++ _)) = _
    rw [show (19 : Nat) = 16 + 3 from rfl, ← List.drop_drop, List.drop_left' hml, ← hT]
    rfl
  generalize root.map bw ++ (iv height :: (m.map bw ++ T)) = cs at *
  have za : spl (List.replicate 16 (.val (.int .u8 0))) 0 (root.map bw) = root.map bw := spl_all (by simp [hr]) (by simp [hr])
  have zb : spl (List.replicate 16 (.val (.int .u8 0))) 0 (m.map bw) = m.map bw := spl_all (by simp [hm]) (by simp [hm])
  simp only [List.replicate] at za zb
  have zc : List.take 16 (root.map bw) = root.map bw := List.take_of_length_le (by simp [hr])
  have zd : List.take 16 (m.map bw) = m.map bw := List.take_of_length_le (by simp [hm])
  simp only [idx, List.map_nil, List.length_nil]
  refine AW_reg TB (fun D K hD hK => ?_)
  simp only [AwS, TS, AwD, aval, aIndex, aSlice, aLen, BN, BW, BS, Int.cast_ofNat_Int, spl, splice, bind, ↓reduceIte, simprocAttr]
  refine hD _ ?_
  clear hD hK D K
  refine AW_reg TB (fun D K hD hK => ?_)
  simp only [AwS, TS, AwD, aval, aIndex, aSlice, aLen, BN, BW, BS, Int.cast_ofNat_Int, spl, splice, bind, ↓reduceIte, simprocAttr, f0, f1, za, hrl, bws_cell, -spl]
  refine hD _ ?_
  clear hD hK D K
  refine AW_reg TB (fun D K hD hK => ?_)
  simp only [AwS, TS, AwD, aval, aIndex, aSlice, aLen, BN, BW, BS, Int.cast_ofNat_Int, spl, splice, bind, ↓reduceIte, simprocAttr, f0, f2]
  refine hD _ ?_
  clear hD hK D K
  refine AW_reg TB (fun D K hD hK => ?_)
  simp only [AwS, TS, AwD, aval, aIndex, aSlice, aLen, BN, BW, BS, Int.cast_ofNat_Int, spl, splice, bind, ↓reduceIte, simprocAttr, f0, f3, zb, hml, bws_cell, -spl]
  refine hD _ ?_
  clear hD hK D K
  refine AW_reg TB (fun D K hD hK => ?_)
  simp only [AwS, TS, AwD, aval, aIndex, aSlice, aLen, BN, BW, BS, Int.cast_ofNat_Int, spl, splice, bind, ↓reduceIte, simprocAttr, f0, f4]
  refine hD _ ?_
  clear hD hK D K
  refine AW_reg TB (fun D K hD hK => ?_)
  simp only [AwS, TS, AwD, aval, aIndex, aSlice, aLen, BN, BW, BS, Int.cast_ofNat_Int, spl, splice, bind, ↓reduceIte, simprocAttr, f0, f5]
  refine hD _ ?_
  clear hD hK D K
  refine AW_reg TB (fun D K hD hK => ?_)
  simp only [AwS, TS, AwD, aval, aIndex, aSlice, aLen, BN, BW, BS, Int.cast_ofNat_Int, spl, splice, bind, ↓reduceIte, simprocAttr]
  refine hK _ _ ?_
  clear hD hK D K
  refine AL_callG rfl rfl rfl rfl en_20 tsanity_spec [] ?_ (by simp) rfl rfl (by simp [alook, AV.map, cs_map, wws_map]) ?_
  · simp [evs, St.ev, cav, alook, lendA, lentBx, lendC, blook, AVs.map, AV.map, ioMap]
  refine AL_runR TB _ _ (fun D K hD hK => ?_)
  simp only [AwS, TS, AwD, aval, aIndex, aSlice, aLen, BN, BW, BS, Int.cast_ofNat_Int, spl, splice, bind, ↓reduceIte, simprocAttr]
  refine hD _ ?_
  clear hD hK D K
  have ss := small_spec ix true true ch ps
  have ss' := small_spec ix' true true ch' ps'
  simp only [sigA] at ss ss'
  refine AW_seq ?_
  refine AW_reg TB (fun D K hD hK => ?_)
  simp only [AwS, TS, AwD, aval, aIndex, aSlice, aLen, BN, BW, BS, Int.cast_ofNat_Int, spl, splice, bind, ↓reduceIte, simprocAttr, fl_map]
  refine hK _ _ ?_
  clear hD hK D K
  refine AL_callPW rfl (.inl rfl) rfl rfl en_25 ss [] ?_ (by simp) rfl rfl ?_
  · simp [evs, St.ev, cav, alook, lendA, lentBx, lendC, blook, AVs.map, AV.map, ioMap, fl_map]
  by_cases hs : ch.length ≤ 100 ∧ ps.length ≤ 20
  · rw [decide_eq_true hs.1, decide_eq_true hs.2, Bool.and_self]
    refine AL_runR TB _ _ (fun D K hD hK => ?_)
    simp only [AwS, TS, AwD, aval, aIndex, aSlice, aLen, BN, BW, BS, Int.cast_ofNat_Int, spl, splice, bind, ↓reduceIte, simprocAttr, fl_map]
    refine hK _ _ ?_
    clear hD hK D K
    refine AL_callPW rfl (.inr ⟨3, _, false, rfl, rfl, rfl⟩) rfl rfl en_25 ss' [] ?_ (by simp) rfl rfl ?_
    · simp [evs, St.ev, cav, alook, lendA, lentBx, lendC, blook, AVs.map, AV.map, ioMap, fl_map]
    by_cases hs' : ch'.length ≤ 100 ∧ ps'.length ≤ 20
    · rw [decide_eq_true hs'.1, decide_eq_true hs'.2, Bool.and_self]
      refine AL_runR TB _ _ (fun D K hD hK => ?_)
      simp only [AwS, TS, AwD, aval, aIndex, aSlice, aLen, BN, BW, BS, Int.cast_ofNat_Int, spl, splice, bind, ↓reduceIte, simprocAttr]
      refine hD _ ?_
      clear hD hK D K
      refine AW_false rfl (AW_skip ?_)
      simp only [seqQ]
      have q1 := tverify_spec root height m ix true true ch ps hr hm hc hp (by omega) (by omega)
      have q2 := rtverify_spec root height m ix true true ch ps hr hm hc hp (by omega) (by omega)
      have q3 := same_spec ix ix' true true true true ch ps ch' ps' hc hp hc' hp' (by omega) (by omega)
      have q4 := rsame_spec ix ix' true true true true ch ps ch' ps' hc hp hc' hp' (by omega) (by omega)
      generalize verT root height m ix ch ps = B at *
      generalize (decide (ix = ix') && decide (ch = ch') && decide (ps = ps')) = C at *
      simp only [sigA] at q1 q2 q3 q4
      refine AW_dreg TB mx ([[], [0], [1, 0], [1, 0], [1, 0], [1, 0], [2, 1, 0, 3, 4, 5], [1, 0], [1, 0], [1, 0], [1, 0], [7, 1, 0, 8, 9, 10, 6, 2, 3, 4, 5], [6, 2, 1, 0, 3, 4, 5, 11, 7, 8, 9, 10], [1, 0, 12, 6, 2, 3, 4, 5, 11, 7, 8, 9, 10], [13, 1, 0, 12, 6, 2, 3, 4, 5, 11, 7, 8, 9, 10], [14, 13, 1, 0, 12, 6, 2, 3, 4, 5, 11, 7, 8, 9, 10], [14, 13, 1, 0, 12, 6, 2, 3, 4, 5, 11, 7, 8, 9, 10], [15, 14, 13, 1, 0, 12, 6, 2, 3, 4, 5, 11, 7, 8, 9, 10, 16], [14, 13, 1, 0, 12, 6, 2, 3, 4, 5, 11, 7, 8, 9, 10], [14, 13, 1, 0, 12, 6, 2, 3, 4, 5, 11, 7, 8, 9, 10], [18, 14, 13, 1, 0, 12, 6, 2, 3, 4, 5, 11, 7, 8, 9, 10, 19, 17, 15, 16], [17, 15, 14, 13, 1, 0, 12, 6, 2, 3, 4, 5, 11, 7, 8, 9, 10, 16, 20, 18, 19], [14, 13, 1, 0, 12, 6, 2, 3, 4, 5, 11, 7, 8, 9, 10, 21, 17, 15, 16, 20, 18, 19], [22, 14, 13, 1, 0, 12, 6, 2, 3, 4, 5, 11, 7, 8, 9, 10, 21, 17, 15, 16, 20, 18, 19]]) (by kernel_rfl) (by kernel_rfl) (fun D K hD hK => ?_)
      simp only [AwS, TS, AwD, aval, aIndex, aSlice, aLen, BN, BW, BS, Int.cast_ofNat_Int, spl, splice, bind, ↓reduceIte, simprocAttr, Op.operands, Call.operands, List.toList_toArray, List.size_toArray, cmp, List.getD_cons_zero, List.getD_cons_succ, Array.toList_append, Option.toArray, List.append_toArray,  zc, zd, hrl, hml, fl_map]
      refine hK _ _ _ _ ?_
      clear hD hK D K
      refine DL_callPW rfl rfl (.inr ⟨1, _, true, rfl, rfl, rfl⟩) rfl rfl en_19 q1 [] ?_ (by simp) (by simp [alook, AV.map, cs_map, wws_map]) rfl rfl rfl ?_
      · simp [evs, St.ev, cav, alook, lendA, lentBx, lendC, blook, AVs.map, AV.map, ioMap, bws_map, fl_map]
      refine DL_rest TB rfl (fun D K hD hK => ?_)
      simp only [AwS, TS, AwD, aval, aIndex, aSlice, aLen, BN, BW, BS, Int.cast_ofNat_Int, spl, splice, bind, ↓reduceIte, simprocAttr, Op.operands, Call.operands, List.toList_toArray, List.size_toArray, cmp, List.getD_cons_zero, List.getD_cons_succ, Array.toList_append, Option.toArray, List.append_toArray, zc, zd, hrl, hml, fl_map]
      refine hK _ _ _ _ ?_
      clear hD hK D K
      refine DL_callPW rfl rfl (.inr ⟨1, _, true, rfl, rfl, rfl⟩) rfl rfl en_26 q2 [] ?_ (by simp) (by simp) rfl rfl rfl ?_
      · simp [evs, St.ev, cav, alook, lendA, lentBx, lendC, blook, AVs.map, AV.map, ioMap, bws_map, fl_map]
      refine DL_rest TB rfl (fun D K hD hK => ?_)
      simp only [AwS, TS, AwD, aval, aIndex, aSlice, aLen, BN, BW, BS, Int.cast_ofNat_Int, spl, splice, bind, ↓reduceIte, simprocAttr, Op.operands, Call.operands, List.toList_toArray, List.size_toArray, cmp, List.getD_cons_zero, List.getD_cons_succ, Array.toList_append, Option.toArray, List.append_toArray, fl_map]
      refine hK _ _ _ _ ?_
      clear hD hK D K
      refine DL_callPW rfl rfl (.inr ⟨14, _, true, rfl, rfl, rfl⟩) rfl rfl en_27 q3 [] ?_ (by simp) (by simp) rfl rfl rfl ?_
      · simp [evs, St.ev, cav, alook, lendA, lentBx, lendC, blook, AVs.map, AV.map, ioMap, fl_map]
      refine DL_rest TB rfl (fun D K hD hK => ?_)
      simp only [AwS, TS, AwD, aval, aIndex, aSlice, aLen, BN, BW, BS, Int.cast_ofNat_Int, spl, splice, bind, ↓reduceIte, simprocAttr, Op.operands, Call.operands, List.toList_toArray, List.size_toArray, cmp, List.getD_cons_zero, List.getD_cons_succ, Array.toList_append, Option.toArray, List.append_toArray, fl_map]
      refine hK _ _ _ _ ?_
      clear hD hK D K
      refine DL_callPW rfl rfl (.inr ⟨14, _, true, rfl, rfl, rfl⟩) rfl rfl en_24 q4 [] ?_ (by simp) (by simp) rfl rfl rfl ?_
      · simp [evs, St.ev, cav, alook, lendA, lentBx, lendC, blook, AVs.map, AV.map, ioMap, fl_map]
      refine DL_rest TB rfl (fun D K hD hK => ?_)
      simp only [AwS, TS, AwD, aval, aIndex, aSlice, aLen, BN, BW, BS, Int.cast_ofNat_Int, spl, splice, bind, ↓reduceIte, simprocAttr, Op.operands, Call.operands, List.toList_toArray, List.size_toArray, cmp, List.getD_cons_zero, List.getD_cons_succ, Array.toList_append, Option.toArray, List.append_toArray]
      refine hD _ ?_
      clear hD hK D K
      refine AW_ret ?_
      simp only [Ret]
      refine retp (bv true) rfl ?_ rfl rfl
      simp [resOf, resAll, resAV, alook, blook, AV.known, loadC, AwS, TS, TD.isAgg]
    · rw [smallF hs']
      refine AL_runR TB _ _ (fun D K hD hK => ?_)
      simp only [AwS, TS, AwD, aval, aIndex, aSlice, aLen, BN, BW, BS, Int.cast_ofNat_Int, spl, splice, bind, ↓reduceIte, simprocAttr]
      refine hD _ ?_
      clear hD hK D K
      refine AW_true rfl ?_
      refine AW_reg TB (fun D K hD hK => ?_)
      simp only [AwS, TS, AwD, aval, aIndex, aSlice, aLen, BN, BW, BS, Int.cast_ofNat_Int, spl, splice, bind, ↓reduceIte, simprocAttr]
      refine hD _ ?_
      clear hD hK D K
      refine AW_ret ?_
      simp only [seqQ, Ret]
      refine retp (bv true) rfl ?_ rfl rfl
      simp [resOf, resAll, resAV, alook, blook, AV.known, loadC, AwS, TS, TD.isAgg]
  · rw [smallF hs]
    refine AL_runR TB _ _ (fun D K hD hK => ?_)
    simp only [AwS, TS, AwD, aval, aIndex, aSlice, aLen, BN, BW, BS, Int.cast_ofNat_Int, spl, splice, bind, ↓reduceIte, simprocAttr]
    refine hD _ ?_
    clear hD hK D K
    refine AW_true rfl ?_
    refine AW_reg TB (fun D K hD hK => ?_)
    simp only [AwS, TS, AwD, aval, aIndex, aSlice, aLen, BN, BW, BS, Int.cast_ofNat_Int, spl, splice, bind, ↓reduceIte, simprocAttr]
    refine hD _ ?_
    clear hD hK D K
    refine AW_ret ?_
    simp only [seqQ, Ret]
    refine retp (bv true) rfl ?_ rfl rfl
    simp [resOf, resAll, resAV, alook, blook, AV.known, loadC, AwS, TS, TD.isAgg]
end Go.Proofs.YtgbpgplkhifgiaaDoor

/- How more kinds of arguments read. No condition. -/
set_option linter.unusedVariables false
set_option linter.unusedSimpArgs false
set_option maxRecDepth 100000
namespace Go.Proofs.YtgbpgplkhifgiaaDoor
open Go Go.RowKit Go.ChangeShapes Go.WideShapes Go.ChangeAt

theorem decV_b : DecV Tryd.prog 5 UInt8 (fun b => bw b) (fun _ => True) :=
  decV_of dec_b fun W base v h => by obtain ⟨n, rfl⟩ := okWide_int Tryd.underlying5 h; rfl
theorem decV_dig : DecV Tryd.prog 23 (List UInt8) (fun d => .agg (d.map bw)) (fun d => d.length = 16) :=
  decV_agg dec_dig fun W base v h => by
    unfold Value.okWide at h
    rw [Tryd.underlying23] at h
    obtain ⟨cs, h1, _⟩ := h
    exact ⟨cs, h1⟩

/-- A list of digests that comes in. -/
theorem flat_fl (l : List (List UInt8)) : (l.flatMap fun d => d.map bw) = fl l := by
  unfold fl
  rw [List.map_flatten]
  rfl
theorem dec_digs : Dec Tryd.prog 43 (List (List UInt8)) (fun l => [.ds true l.length (fl l)]) (fun l => l.length ≤ maxLen ∧ All16 l) :=
  (dec_slice Tryd.underlying43 dec_dig (z := 16) (by kernel_rfl) (by decide)).conv id (fun l h => ⟨⟨h.1, h.2⟩, by rw [← flat_fl]; rfl⟩)

/-- A signature that comes in. -/
theorem dec_sig : Dec Tryd.prog 45 (Int × List (List UInt8) × List (List UInt8) × Unit) (fun s => [iv s.1] ++ ([.ds true s.2.1.length (fl s.2.1)] ++ ([.ds true s.2.2.1.length (fl s.2.2.1)] ++ [])))
    (fun s => (Lit.int .i64 s.1).wf = true ∧ (s.2.1.length ≤ maxLen ∧ All16 s.2.1) ∧ (s.2.2.1.length ≤ maxLen ∧ All16 s.2.2.1) ∧ True) :=
  by
  have h := dec_struct Tryd.underlying45 (by kernel_rfl) (decF_cons 1 (dec_int Tryd.underlying3) rfl (by kernel_rfl) (decF_cons 1 dec_digs rfl (by kernel_rfl) (decF_cons 1 dec_digs rfl (by kernel_rfl) decF_nil)))
  exact h

end Go.Proofs.YtgbpgplkhifgiaaDoor

set_option linter.unusedVariables false
set_option linter.unusedSimpArgs false
set_option maxRecDepth 100000
namespace Go.Proofs.YtgbpgplkhifgiaaDoor
open Go Go.RowKit Go.ChangeShapes Go.WideShapes Go.ChangeAt

set_option linter.defProp false in
def dec_in11 :=
  decV_struct Tryd.underlying59 (by kernel_rfl) (decF_cons 16 dec_dig rfl (by kernel_rfl) (decF_cons 1 (dec_int Tryd.underlying3) rfl (by kernel_rfl) (decF_cons 16 dec_dig rfl (by kernel_rfl) (decF_cons 3 dec_sig rfl (by kernel_rfl) (decF_cons 3 dec_sig rfl (by kernel_rfl) decF_nil)))))

theorem lifted11 (os : Os) (started : os.Started) (H : Type) (enc : TypeId × Value → H) :
    ReturnsInHanded {} Tryd.checked os 5 .any (fun w args => (Rows.treesigVerifyMatchesSpecSpec.pre enc Tryd.prog Tryd.f5 [] false w args ∧ laidMetH Tryd.prog laidL w) ∧ sizedMet enc Tryd.prog Tryd.f5 (OpenSpec.ofChange Rows.treesigVerifyMatchesSpecSpec) false w args)
      (Rows.treesigVerifyMatchesSpecSpec.post enc Tryd.prog Tryd.f5 false true false false) := by
  refine returnsInHanded_of_change_and (C := Tryd.checked) (X := fun w _ => laidMetH Tryd.prog laidL w) (fun _ _ _ hh h => h.of_heap hh) own started (by kernel_rfl) Tryd.func5
    (ChangeSpec.witness_shaped (enc := enc) (C := Tryd.checked) (os := os) (X := fun w _ => laidMetH Tryd.prog laidL w) false (World.doorLaid Tryd.prog 400 os) #[.agg #[.int .u8 0, .int .u8 0, .int .u8 0, .int .u8 0, .int .u8 0, .int .u8 0, .int .u8 0, .int .u8 0, .int .u8 0, .int .u8 0, .int .u8 0, .int .u8 0, .int .u8 0, .int .u8 0, .int .u8 0, .int .u8 0, .int .i64 0, .int .u8 0, .int .u8 0, .int .u8 0, .int .u8 0, .int .u8 0, .int .u8 0, .int .u8 0, .int .u8 0, .int .u8 0, .int .u8 0, .int .u8 0, .int .u8 0, .int .u8 0, .int .u8 0, .int .u8 0, .int .u8 0, .int .i64 0, .slice none 0 0, .slice none 0 0, .int .i64 0, .slice none 0 0, .slice none 0 0]] 8 rfl (World.shaped_of_RefB (by kernel_rfl) (by kernel_rfl)) (by kernel_rfl) (by kernel_rfl) (by kernel_rfl) (door_met os _)) ?_
  intro W base args ds gs before hval0 hW _ _ hL _
  have hval : ∀ (j : Nat) t v, Tryd.f5.params[j]? = some t → args[j]? = some v → Value.okWide Tryd.prog W .any base t v := hval0
  refine law_step (P := Tryd.prog) (tb := 4) laidOut (by kernel_rfl) rfl Tryd.underlying4 rfl (fun ds hds => ?_) hW ?_
  · match ds, hds with
    | [d], _ => rfl
  · obtain ⟨p, q, hA0, _⟩ := hW
    have hA : DataW.TrodAll enc Tryd.prog W 0 (fun _ => true) true Tryd.f5.params.toList args.toList ds p := hA0
    rw [Tryd.params5] at hA hval
    obtain ⟨v0, vs0, d0, ds0, p0, q0, hargs, rfl, rfl, h0, r0⟩ := trodAll_cons hA
    obtain ⟨rfl, rfl, rfl⟩ := trodAll_nil r0
    obtain rfl : args = #[v0] := by cases args; simp_all
    obtain ⟨⟨root, hh, m, ⟨ix, ch, ps, u1⟩, ⟨ix', ch', ps', u2⟩, u⟩, hok, hm⟩ := dec_in11.run enc W base 0 _ _ v0 d0 p0 (hval 0 59 v0 rfl rfl) h0
    obtain ⟨h1, h2, h3, ⟨h4, h5, h6, _⟩, ⟨h7, h8, h9, _⟩, _⟩ := hok
    refine calls_of_spec (vmatch_spec root m hh ix ix' ch ps ch' ps' h1 h3 h5.2 h6.2 h8.2 h9.2) (Ms_cons.2 ⟨v0, [], rfl, ?_, rfl⟩) (gl_of_laid hL)
    simpa using hm

theorem over11 : Rows.treesigVerifyMatchesSpecRow.holds Tryd.pinned (OpenSpec.ofChange Rows.treesigVerifyMatchesSpecSpec) :=
  OpenClaim.holds_of_wide 5 Tryd.f5 rfl rfl rfl rfl rfl rfl rfl ⟨rfl, rfl, rfl, rfl, rfl⟩ rfl rfl rfl rfl rfl (by kernel_rfl) Tryd.func5 (by kernel_rfl)
    (of_decide_eq_true (by kernel_rfl)) (by unfold Func.isWrapper; first | (rw [if_pos (by decide +kernel)]; kernel_rfl) | (rw [if_neg (by decide +kernel)]; exact ⟨rfl, rfl⟩))
    (fun os started H enc _ => lifted11 os started H enc)

/-- THE STATEMENT. -/
theorem treesigVerifyMatchesSpec_holds : Rows.TreesigVerifyMatchesSpecCardSaid :=
  Claim7.holds_tied_plain_at .later [] [.data, .data] true (true, "1f7228ecc30db96422f7eff86bcd234cff7766a2089915b410f6763b33ffab23") true
    over11 (fun _ h => by cases h) (by kernel_rfl) (fun _ h => by cases h) treesigVerifyMatchesSpec_row_tie rfl ⟨rfl, rfl⟩ (by kernel_rfl) rfl
    (fun f fn hf hfn => by
      obtain rfl : f = 5 := Option.some.inj ((show Tryd.prog.funcNamed "bootchain/bootchainlaw05.TreesigVerifyMatchesSpec" = some 5 by kernel_rfl).symm.trans hf) |>.symm
      obtain rfl : fn = Tryd.f5 := (Option.some.inj (Tryd.func5.symm.trans hfn)).symm
      exact ⟨by kernel_rfl, fun j t ht => by
        rw [Tryd.params5] at ht
        have hm : t ∈ [59] := by simpa using Array.mem_of_getElem? ht
        have hall : ([59].all fun u => !Tryd.prog.wantsStandIn u) = true := by kernel_rfl
        exact (show Tryd.prog.wantsStandIn t = false by simpa using List.all_eq_true.1 hall t hm)⟩)
    (by kernel_rfl)
#print axioms treesigVerifyMatchesSpec_holds
end Go.Proofs.YtgbpgplkhifgiaaDoor
