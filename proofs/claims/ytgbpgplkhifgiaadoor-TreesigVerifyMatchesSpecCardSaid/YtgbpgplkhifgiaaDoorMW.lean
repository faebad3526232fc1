/- The walk of merkle.Verify. No condition. -/
import Derived.Test.YtgbpgplkhifgiaaDoorMV
import Derived.Test.YtgbpgplkhifgiaaDoorMC
set_option linter.unusedVariables false
set_option linter.unusedSimpArgs false
set_option maxRecDepth 100000
namespace Go.Proofs.YtgbpgplkhifgiaaDoor
open Go Go.RowKit

theorem eqL_bws : ∀ (a b : List UInt8), a.length = b.length → eqL (a.map bw) (b.map bw) = some (decide (a = b))
  | [], [], _ => rfl
  | [], _ :: _, h => by simp at h
  | _ :: _, [], h => by simp at h
  | x :: a, y :: b, h => by
    have ih := eqL_bws a b (by simpa using h)
    simp only [List.map_cons, eqL, ih]
    have : eqS (bw x) (bw y) = some (decide (x = y)) := by
      simp only [bw, eqS, ↓reduceIte, Option.some.injEq]
      have : ((x.toNat : Int) = (y.toNat : Int)) ↔ x = y := by
        constructor
        · intro h
          exact UInt8.toNat_inj.1 (by omega)
        · rintro rfl; rfl
      simp [this]
    rw [this]
    simp
theorem fits_bws (ti : TI) (k : IntKind) (hd : ti.d = .int k) (a : List UInt8) : (a.map bw).all (fits ti) = true := by
  rw [List.all_map, List.all_eq_true]
  intro x _
  simp [fits, bw, hd]

/-- Whether an inclusion proof is right. -/
def verM (root : List UInt8) (n i : Nat) (leaf : List UInt8) (ps : List (List UInt8)) : Bool :=
  decide ((sidesOf n i).length = ps.length) && decide (upD (sidesOf n i).reverse ps (leafD leaf) = root)

theorem upD_len : ∀ (bs : List Bool) (ps : List (List UInt8)) (d : List UInt8), d.length = 16 → (upD bs ps d).length = 16
  | [], _, d, h => h
  | _ :: _, [], d, h => h
  | b :: bs, p :: ps, d, h => upD_len bs ps _ (by unfold sib; split <;> exact dig_len _ _)
theorem upD_take (bs : List Bool) (ps : List (List UInt8)) (d : List UInt8) (j : Nat) (h1 : j < bs.length) (h2 : j < ps.length) :
    upD (bs.take (j + 1)) (ps.take (j + 1)) d = sib bs[j] (upD (bs.take j) (ps.take j) d) ps[j] := by
  rw [List.take_succ_eq_append_getElem h1, List.take_succ_eq_append_getElem h2, upD_snoc _ _ _ _ _ (by simp; omega)]

theorem sides_le (n i : Nat) : (sidesOf n i).length ≤ n := by
  have h1 := prove_len n (List.replicate n []) i (by simp)
  have h2 := prove_le n (List.replicate n []) i (by simp)
  simp only [List.length_replicate] at h1 h2
  omega

def ver1F (k : Bool) (root leaf : List UInt8) (ps : List (List UInt8)) (x : Nat × Nat × List Bool) : St :=
  { nt := 75, nx := 3, tm := [(11, .sl 2 0 x.2.2.length 1 (some 4)), (1, iv (x.1 : Nat)), (2, iv (x.2.1 : Nat)), (4, .ds k ps.length (fl ps)), (5, .ptr 0 0), (8, .ptr 1 0)],
    bx := [(0, some (root.map bw)), (1, some (leaf.map bw)), (2, some (x.2.2.map fun b => bv b))], gl := glS, df := [] }

def ver2F (k : Bool) (root leaf : List UInt8) (ps : List (List UInt8)) (bs : List Bool) (L : List UInt8) (q : Nat) : St :=
  { nt := 75, nx := 4, tm := [(52, iv (q : Nat)), (51, iv ps.length), (50, .ds k ps.length (fl ps)), (11, .sl 2 0 bs.length 1 (some 4)), (13, .ptr 3 0), (5, .ptr 0 0)],
    bx := [(0, some (root.map bw)), (1, some (leaf.map bw)), (2, some (bs.map fun b => bv b)), (3, some ((upD (bs.reverse.take q) (ps.take q) L).map bw))], gl := glS, df := [] }


theorem verify_spec (k : Bool) (root : List UInt8) (n i : Nat) (leaf : List UInt8) (ps : List (List UInt8)) (hr : root.length = 16) (hl : leaf.length = 16) (h16 : All16 ps) (hps : ps.length ≤ 1000000) (hn : n ≤ 1000000) (hi : i < n) :
    Spec Tryd.prog glS 56 [.agg (root.map bw), iv (n : Nat), iv (i : Nat), .agg (leaf.map bw), .ds k ps.length (fl ps)] [] (fun o => o = .ret (bv (verM root n i leaf ps)) [] []) := by
  refine spec_of TB 75 [.tmp 10] Tryd.func56 rfl rfl rfl (Nat.le_of_ble_eq_true rfl) ?_
  intro X w0 E0 hE hX
  have hKm : ∀ f : Nat → Nat, AVs.map f (KS.map ww) = KS.map ww := fun f => wws_map f _
  have hBm : ∀ (l : List Bool) (f : Nat → Nat), AVs.map f (l.map fun b => bv b) = l.map fun b => bv b := fun l f => AVs_map_map (fun _ => rfl) l
  have e1 : decide ((i : Int) < 0) = false := decide_eq_false (by omega)
  have e2 : decide ((n : Int) ≤ (i : Int)) = false := decide_eq_false (by omega)
  simp only [idx, List.map_nil, List.length_nil]
  refine AW_reg TB (fun D K hD hK => ?_)
  simp only [AwS, TS, AwD, aval, aIndex, aSlice, aLen, BN, BW, BS, Int.cast_ofNat_Int, spl, splice, bind, ↓reduceIte, simprocAttr]
  refine hD _ ?_
  clear hD hK D K
  refine AW_seq ?_
  refine AW_reg TB (fun D K hD hK => ?_)
  simp only [AwS, TS, AwD, aval, aIndex, aSlice, aLen, BN, BW, BS, Int.cast_ofNat_Int, spl, splice, bind, ↓reduceIte, simprocAttr, e1, e2]
  refine hD _ ?_
  clear hD hK D K
  refine AW_false rfl (AW_skip ?_)
  simp only [seqQ]
  refine AW_reg TB (fun D K hD hK => ?_)
  simp only [AwS, TS, AwD, aval, aIndex, aSlice, aLen, BN, BW, BS, Int.cast_ofNat_Int, spl, splice, bind, ↓reduceIte, simprocAttr]
  refine hD _ ?_
  clear hD hK D K
  refine AW_seqk (fun K0 hK0 => ?_)
  refine AW_block ?_
  refine AW_loop (ver1F k root leaf ps) (fun x => x.2.1 < x.1 ∧ x.1 ≤ n ∧ x.2.2 ++ sidesOf x.1 x.2.1 = sidesOf n i) (fun x => x.1) hE (n, i, []) [(0, 0), (1, 8), (2, 80)] ⟨hi, Nat.le_refl _, rfl⟩ ?_ ?_
  · refine ⟨rfl, by simp [ver1F, alook, AV.map, AVs.map, hKm, cs_map, bws_map, fl_map], ⟨rfl, rfl⟩, ?_, ?_, by simp [ver1F], by simp [ver1F, nmap], ?_⟩
    · simp [ver1F, alook, AV.map, AVs.map, nmap, AVs_map_append, ivs_map, yvs_map, hKm, cs_map, bws_map, fl_map]
    · simp [ver1F, blook, AV.map, AVs.map, nmap, AVs_map_append, ivs_map, yvs_map, hKm, cs_map, bws_map, fl_map]
    · intro k hk
      have hk2 : k < 0 := hk
      omega
  rintro ⟨m, j, acc⟩ ⟨hj, hm, hacc⟩
  simp only [ver1F] at hj hm hacc ⊢
  refine AW_seq ?_
  refine AW_reg TB (fun D K hD hK => ?_)
  simp only [AwS, TS, AwD, aval, aIndex, aSlice, aLen, BN, BW, BS, Int.cast_ofNat_Int, spl, splice, bind, ↓reduceIte, simprocAttr]
  refine hD _ ?_
  clear hD hK D K
  refine AW_cond rfl (fun h => AW_skip ?_) (fun h => AW_exit ?_)
  · have hbig : 1 < m := by
      have : (m : Int) > 1 := by simpa using h
      omega
    obtain ⟨hs0, hs1⟩ := splitM_bd hbig
    have hsl := sides_le m j
    have hal : acc.length ≤ n := by
      have := congrArg List.length hacc
      have h2 := sides_le n i
      simp at this
      omega
    have ss := split_spec m (by omega) (by omega)
    have c1 : (acc.length ≤ 4294967295) = True := eq_true (by omega)
    have w1 : IntKind.i64.wrap ((m : Int) - (splitM m : Int)) = ((m - splitM m : Nat) : Int) := by rw [wrap_i64 (by omega) (by omega)]; omega
    simp only [seqQ]
    refine AW_block ?_
    refine AW_reg TB (fun D K hD hK => ?_)
    simp only [AwS, TS, AwD, aval, aIndex, aSlice, aLen, BN, BW, BS, Int.cast_ofNat_Int, spl, splice, bind, ↓reduceIte, simprocAttr]
    refine hK _ _ ?_
    clear hD hK D K
    refine AL_callP rfl rfl rfl rfl en_87 ss [] ?_ (by simp) rfl rfl ?_
    · simp [evs, St.ev, cav, alook, lendA, lentBx, lendC, blook, AVs.map, AV.map, ioMap]
    refine AL_runR TB _ _ (fun D K hD hK => ?_)
    simp only [AwS, TS, AwD, aval, aIndex, aSlice, aLen, BN, BW, BS, Int.cast_ofNat_Int, spl, splice, bind, ↓reduceIte, simprocAttr, hBm]
    refine hD _ ?_
    clear hD hK D K
    refine AW_reg TB (fun D K hD hK => ?_)
    simp only [AwS, TS, AwD, aval, aIndex, aSlice, aLen, BN, BW, BS, Int.cast_ofNat_Int, spl, splice, bind, ↓reduceIte, simprocAttr, c1]
    refine hD _ ?_
    clear hD hK D K
    refine AW_reg TB (fun D K hD hK => ?_)
    simp only [AwS, TS, AwD, aval, aIndex, aSlice, aLen, BN, BW, BS, Int.cast_ofNat_Int, spl, splice, bind, ↓reduceIte, simprocAttr]
    refine hD _ ?_
    clear hD hK D K
    refine AW_cond rfl (fun h2 => ?_) (fun h2 => ?_)
    · have hlt : j < splitM m := by simpa using h2
      have hd1 : decide ((j : Int) < (splitM m : Int)) = true := h2
      rw [sides_lt hbig hlt] at hacc
      refine AW_regl TB (fun D K hD hK => ?_)
      simp only [AwS, TS, AwD, aval, aIndex, aSlice, aLen, BN, BW, BS, Int.cast_ofNat_Int, spl, splice, bind, ↓reduceIte, simprocAttr]
      refine hD _ ?_
      clear hD hK D K
      simp only [blockQ, loopQ]
      refine ⟨(splitM m, j, acc ++ [true]), [(0, 0), (1, 1), (2, 83)], ⟨hlt, by omega, by rw [← hacc]; simp⟩, by dsimp only; omega, ?_⟩
      refine ⟨rfl, by simp [ver1F, alook, AV.map, AVs.map, hKm, cs_map, bws_map, fl_map, hBm, hlt, List.map_append], ⟨rfl, rfl⟩, ?_, ?_, by simp [ver1F], by simp [ver1F, nmap], ?_⟩
      · simp [ver1F, alook, AV.map, AVs.map, nmap, AVs_map_append, ivs_map, yvs_map, hKm, cs_map, bws_map, fl_map, hBm, hlt, List.map_append]
      · simp [ver1F, blook, AV.map, AVs.map, nmap, AVs_map_append, ivs_map, yvs_map, hKm, cs_map, bws_map, fl_map, hBm, hlt, List.map_append]
      · intro k hk
        have hk2 : k < 0 := hk
        omega
    · have hge : ¬ j < splitM m := by simpa using h2
      have w2 : IntKind.i64.wrap ((j : Int) - (splitM m : Int)) = ((j - splitM m : Nat) : Int) := by rw [wrap_i64 (by omega) (by omega)]; omega
      have hd1 : decide ((j : Int) < (splitM m : Int)) = false := h2
      rw [sides_ge hbig hge] at hacc
      refine AW_regl TB (fun D K hD hK => ?_)
      simp only [AwS, TS, AwD, aval, aIndex, aSlice, aLen, BN, BW, BS, Int.cast_ofNat_Int, spl, splice, bind, ↓reduceIte, simprocAttr, w1, w2]
      refine hD _ ?_
      clear hD hK D K
      simp only [blockQ, loopQ]
      refine ⟨(m - splitM m, j - splitM m, acc ++ [false]), [(0, 0), (1, 1), (2, 83)], ⟨by dsimp only; omega, by dsimp only; omega, by rw [← hacc]; simp⟩, by dsimp only; omega, ?_⟩
      refine ⟨rfl, by simp [ver1F, alook, AV.map, AVs.map, hKm, cs_map, bws_map, fl_map, hBm, hge, List.map_append], ⟨rfl, rfl⟩, ?_, ?_, by simp [ver1F], by simp [ver1F, nmap], ?_⟩
      · simp [ver1F, alook, AV.map, AVs.map, nmap, AVs_map_append, ivs_map, yvs_map, hKm, cs_map, bws_map, fl_map, hBm, hge, List.map_append]
      · simp [ver1F, blook, AV.map, AVs.map, nmap, AVs_map_append, ivs_map, yvs_map, hKm, cs_map, bws_map, fl_map, hBm, hge, List.map_append]
      · intro k hk
        have hk2 : k < 0 := hk
        omega
  · have hsm : ¬ 1 < m := by
      have : ¬ (m : Int) > 1 := by simpa using h
      omega
    rw [sides_one hsm, List.append_nil] at hacc
    subst hacc
    generalize hbs : sidesOf n i = bs at *
    have hbl : bs.length ≤ n := by rw [← hbs]; exact sides_le n i
    refine hK0 _ ?_
    refine AW_seq ?_
    refine AW_reg TB (fun D K hD hK => ?_)
    simp only [AwS, TS, AwD, aval, aIndex, aSlice, aLen, BN, BW, BS, Int.cast_ofNat_Int, spl, splice, bind, ↓reduceIte, simprocAttr]
    refine hD _ ?_
    clear hD hK D K
    refine AW_cond rfl (fun h3 => ?_) (fun h3 => AW_skip ?_)
    · have hne : bs.length ≠ ps.length := by
        intro h4
        simp [h4] at h3
      have hv : verM root n i leaf ps = false := by simp [verM, hbs, hne]
      rw [hv]
      refine AW_reg TB (fun D K hD hK => ?_)
      simp only [AwS, TS, AwD, aval, aIndex, aSlice, aLen, BN, BW, BS, Int.cast_ofNat_Int, spl, splice, bind, ↓reduceIte, simprocAttr]
      refine hD _ ?_
      clear hD hK D K
      refine AW_ret ?_
      simp only [Ret, seqQ]
      refine retp (bv false) rfl ?_ rfl rfl
      simp [resOf, resAll, resAV, alook, blook, AV.known, loadC, AwS, TS, TD.isAgg]
    · have heq : bs.length = ps.length := by
        have : (bs.length : Int) = ps.length := by simpa using h3
        omega
      have hv : verM root n i leaf ps = decide (upD bs.reverse ps (leafD leaf) = root) := by simp [verM, hbs, heq]
      rw [hv]
      have hrl : bs.reverse.length = ps.length := by simp [heq]
      have a1 : (leaf.map bw).length = 16 := by simp [hl]
      have a2 : List.take 16 (leaf.map bw) = leaf.map bw := List.take_of_length_le (by simp [hl])
      have hL : (leafD leaf).length = 16 := dig_len _ _
      simp only [seqQ]
      refine AW_reg TB (fun D K hD hK => ?_)
      simp only [AwS, TS, AwD, aval, aIndex, aSlice, aLen, BN, BW, BS, Int.cast_ofNat_Int, spl, splice, bind, ↓reduceIte, simprocAttr, a1, a2]
      refine hK _ _ ?_
      clear hD hK D K
      refine AL_callG rfl rfl rfl rfl en_86 (leaf_spec leaf hl) [] ?_ (by simp) (by simp) (by simp only [AV.map, bws_map]) (by simp [alook, AV.map, cs_map, wws_map]) ?_
      · simp [evs, St.ev, cav, alook, lendA, lentBx, lendC, blook, AVs.map, AV.map, ioMap, bws_map]
      generalize hlf : leafD leaf = L at *
      have z1 : spl (List.replicate 16 (.val (.int .u8 0))) 0 (L.map bw) = L.map bw := spl_all (by simp [hL]) (by simp [hL])
      simp only [List.replicate] at z1
      have z2 : List.take 16 (L.map bw) = L.map bw := List.take_of_length_le (by simp [hL])
      have z3 : (L.map bw).length = 16 := by simp [hL]
      refine AL_runR TB _ _ (fun D K hD hK => ?_)
      simp only [AwS, TS, AwD, aval, aIndex, aSlice, aLen, BN, BW, BS, Int.cast_ofNat_Int, spl, splice, bind, ↓reduceIte, simprocAttr, z1, z3, bws_cell, bws_map, hBm, -spl]
      refine hD _ ?_
      clear hD hK D K
      refine AW_seqk (fun K2 hK2 => ?_)
      refine AW_reg TB (fun D K hD hK => ?_)
      simp only [AwS, TS, AwD, aval, aIndex, aSlice, aLen, BN, BW, BS, Int.cast_ofNat_Int, spl, splice, bind, ↓reduceIte, simprocAttr]
      refine hD _ ?_
      clear hD hK D K
      refine AW_block ?_

      refine AW_loop (ver2F k root leaf ps bs L) (fun x => x ≤ ps.length) (fun x => ps.length - x) hE 0 [(0, 0), (1, 1), (2, 2), (3, 75)] (by omega) ?_ ?_
      · refine ⟨rfl, by simp [ver2F, upD, alook, AV.map, AVs.map, hKm, cs_map, bws_map, fl_map, hBm], ⟨rfl, rfl⟩, ?_, ?_, by simp [ver2F, upD], by simp [ver2F, upD, nmap], ?_⟩
        · simp [ver2F, upD, alook, AV.map, AVs.map, nmap, AVs_map_append, ivs_map, yvs_map, hKm, cs_map, bws_map, fl_map, hBm]
        · simp [ver2F, upD, blook, AV.map, AVs.map, nmap, AVs_map_append, ivs_map, yvs_map, hKm, cs_map, bws_map, fl_map, hBm]
        · intro k hk
          have hk2 : k < 0 := hk
          omega
      intro q hq
      simp only [ver2F]
      refine AW_reg TB (fun D K hD hK => ?_)
      simp only [AwS, TS, AwD, aval, aIndex, aSlice, aLen, BN, BW, BS, Int.cast_ofNat_Int, spl, splice, bind, ↓reduceIte, simprocAttr]
      refine hD _ ?_
      clear hD hK D K
      refine AW_seq (AW_cond rfl (fun h5 => AW_skip ?_) (fun h5 => AW_exit ?_))
      · have hlt : q < ps.length := by simpa using h5
        have hqr : q < bs.reverse.length := by omega
        have x3 : (0 ≤ (q : Int) ∧ (q : Int) < (ps.length : Int)) = True := eq_true (by omega)
        have g2 := fl_get h16 q hlt
        have hp16 := h16 _ (List.getElem_mem hlt)
        have g3 : (16 ≤ (List.drop (q * 16) (fl ps)).length) = True := by
          rw [List.length_drop, fl_len h16]; exact eq_true (by omega)
        have w3 : IntKind.i64.wrap ((bs.length : Int) - 1) = ((bs.length - 1 : Nat) : Int) := by rw [wrap_i64 (by omega) (by omega)]; omega
        have w4 : IntKind.i64.wrap (((bs.length - 1 : Nat) : Int) - (q : Int)) = ((bs.length - 1 - q : Nat) : Int) := by rw [wrap_i64 (by omega) (by omega)]; omega
        have x4 : (0 ≤ ((bs.length - 1 - q : Nat) : Int) ∧ ((bs.length - 1 - q : Nat) : Int) < (bs.length : Int)) = True := eq_true (by omega)
        have g4 : (bs.map fun b => bv b)[bs.length - 1 - q]? = some (bv (bs.reverse[q])) := by
          rw [List.getElem_reverse, List.getElem?_map, List.getElem?_eq_getElem (by omega)]
          rfl
        have hup := upD_take bs.reverse ps L q hqr hlt
        have hul := upD_len (bs.reverse.take q) (ps.take q) L hL
        generalize upD (bs.reverse.take q) (ps.take q) L = D0 at *
        generalize hbq : bs.reverse[q] = bq at *
        generalize hpq : ps[q] = P at *
        have a1 : spl (List.replicate 16 (.val (.int .u8 0))) 0 (P.map bw) = P.map bw := spl_all (by simp [hp16]) (by simp [hp16])
        simp only [List.replicate] at a1
        have a2 : List.take 16 (P.map bw) = P.map bw := List.take_of_length_le (by simp [hp16])
        have a3 : (P.map bw).length = 16 := by simp [hp16]
        have b2 : List.take 16 (D0.map bw) = D0.map bw := List.take_of_length_le (by simp [hul])
        have b3 : (D0.map bw).length = 16 := by simp [hul]
        have w1 : IntKind.i64.wrap ((q : Int) + 1) = (q : Int) + 1 := wrap_i64 (by omega) (by omega)
        simp only [seqQ]
        refine AW_seqk (fun K3 hK3 => ?_)
        refine AW_block ?_
        refine AW_reg TB (fun D K hD hK => ?_)
        simp only [AwS, TS, AwD, aval, aIndex, aSlice, aLen, BN, BW, BS, Int.cast_ofNat_Int, spl, splice, bind, ↓reduceIte, simprocAttr, x3, g2, g3, a1, a3, bws_cell, Int.toNat_natCast, -spl]
        refine hD _ ?_
        clear hD hK D K
        refine AW_reg TB (fun D K hD hK => ?_)
        simp only [AwS, TS, AwD, aval, aIndex, aSlice, aLen, BN, BW, BS, Int.cast_ofNat_Int, spl, splice, bind, ↓reduceIte, simprocAttr, w3, w4, x4, g4, Int.toNat_natCast]
        refine hD _ ?_
        clear hD hK D K
        refine AW_cond rfl (fun h6 => ?_) (fun h6 => ?_)
        · rw [h6] at hup
          have hs : sib true D0 P = nodeD D0 P := rfl
          have hnl : (nodeD D0 P).length = 16 := dig_len _ _
          rw [hs] at hup
          refine AW_regl TB (fun D K hD hK => ?_)
          simp only [AwS, TS, AwD, aval, aIndex, aSlice, aLen, BN, BW, BS, Int.cast_ofNat_Int, spl, splice, bind, ↓reduceIte, simprocAttr, b2, b3, a2, a3]
          refine hK _ _ ?_
          clear hD hK D K
          refine AL_callG rfl rfl rfl rfl en_88 (node_spec D0 P hul hp16) [] ?_ (by simp) (by simp) (by simp only [AV.map, bws_map]) (by simp [alook, AV.map, cs_map, wws_map]) ?_
          · simp [evs, St.ev, cav, alook, lendA, lentBx, lendC, blook, AVs.map, AV.map, ioMap, bws_map]
          generalize nodeD D0 P = D1 at *
          have z1 : spl (D0.map bw) 0 (D1.map bw) = D1.map bw := spl_all (by simp [hnl, hul]) (by simp [hnl])
          have z3 : (D1.map bw).length = 16 := by simp [hnl]
          refine AL_runR TB _ _ (fun D K hD hK => ?_)
          simp only [AwS, TS, AwD, aval, aIndex, aSlice, aLen, BN, BW, BS, Int.cast_ofNat_Int, spl, splice, bind, ↓reduceIte, simprocAttr, z1, z3, b3, bws_cell, bws_map, fl_map, hBm, -spl]
          refine hD _ ?_
          clear hD hK D K
          simp only [blockQ]
          refine hK3 _ ?_
          refine AW_regl TB (fun D K hD hK => ?_)
          simp only [AwS, TS, AwD, aval, aIndex, aSlice, aLen, BN, BW, BS, Int.cast_ofNat_Int, spl, splice, bind, ↓reduceIte, simprocAttr, w1]
          refine hD _ ?_
          clear hD hK D K
          refine ⟨q + 1, [(0, 0), (1, 1), (2, 2), (3, 3)], by omega, by dsimp only; omega, ?_⟩
          refine ⟨rfl, by simp [ver2F, alook, AV.map, AVs.map, hKm, cs_map, bws_map, fl_map, hBm, hup], ⟨rfl, rfl⟩, ?_, ?_, by simp [ver2F], by simp [ver2F, nmap], ?_⟩
          · simp [ver2F, alook, AV.map, AVs.map, nmap, AVs_map_append, ivs_map, yvs_map, hKm, cs_map, bws_map, fl_map, hBm, hup]
          · simp [ver2F, blook, AV.map, AVs.map, nmap, AVs_map_append, ivs_map, yvs_map, hKm, cs_map, bws_map, fl_map, hBm, hup]
          · intro k hk
            have hk2 : k < 0 := hk
            omega
        · rw [h6] at hup
          have hs : sib false D0 P = nodeD P D0 := rfl
          have hnl : (nodeD P D0).length = 16 := dig_len _ _
          rw [hs] at hup
          refine AW_regl TB (fun D K hD hK => ?_)
          simp only [AwS, TS, AwD, aval, aIndex, aSlice, aLen, BN, BW, BS, Int.cast_ofNat_Int, spl, splice, bind, ↓reduceIte, simprocAttr, b2, b3, a2, a3]
          refine hK _ _ ?_
          clear hD hK D K
          refine AL_callG rfl rfl rfl rfl en_88 (node_spec P D0 hp16 hul) [] ?_ (by simp) (by simp) (by simp only [AV.map, bws_map]) (by simp [alook, AV.map, cs_map, wws_map]) ?_
          · simp [evs, St.ev, cav, alook, lendA, lentBx, lendC, blook, AVs.map, AV.map, ioMap, bws_map]
          generalize nodeD P D0 = D1 at *
          have z1 : spl (D0.map bw) 0 (D1.map bw) = D1.map bw := spl_all (by simp [hnl, hul]) (by simp [hnl])
          have z3 : (D1.map bw).length = 16 := by simp [hnl]
          refine AL_runR TB _ _ (fun D K hD hK => ?_)
          simp only [AwS, TS, AwD, aval, aIndex, aSlice, aLen, BN, BW, BS, Int.cast_ofNat_Int, spl, splice, bind, ↓reduceIte, simprocAttr, z1, z3, b3, bws_cell, bws_map, fl_map, hBm, -spl]
          refine hD _ ?_
          clear hD hK D K
          simp only [blockQ]
          refine hK3 _ ?_
          refine AW_regl TB (fun D K hD hK => ?_)
          simp only [AwS, TS, AwD, aval, aIndex, aSlice, aLen, BN, BW, BS, Int.cast_ofNat_Int, spl, splice, bind, ↓reduceIte, simprocAttr, w1]
          refine hD _ ?_
          clear hD hK D K
          refine ⟨q + 1, [(0, 0), (1, 1), (2, 2), (3, 3)], by omega, by dsimp only; omega, ?_⟩
          refine ⟨rfl, by simp [ver2F, alook, AV.map, AVs.map, hKm, cs_map, bws_map, fl_map, hBm, hup], ⟨rfl, rfl⟩, ?_, ?_, by simp [ver2F], by simp [ver2F, nmap], ?_⟩
          · simp [ver2F, alook, AV.map, AVs.map, nmap, AVs_map_append, ivs_map, yvs_map, hKm, cs_map, bws_map, fl_map, hBm, hup]
          · simp [ver2F, blook, AV.map, AVs.map, nmap, AVs_map_append, ivs_map, yvs_map, hKm, cs_map, bws_map, fl_map, hBm, hup]
          · intro k hk
            have hk2 : k < 0 := hk
            omega
      · have hge : q = ps.length := by
          have : ¬ q < ps.length := by simpa using h5
          omega
        subst hge
        have t1 : bs.reverse.take ps.length = bs.reverse := List.take_of_length_le (by omega)
        have hul := upD_len bs.reverse ps L hL
        simp only [t1, List.take_length]
        generalize upD bs.reverse ps L = D0 at *
        have b2 : List.take 16 (D0.map bw) = D0.map bw := List.take_of_length_le (by simp [hul])
        have b3 : (D0.map bw).length = 16 := by simp [hul]
        have d2 : List.take 16 (root.map bw) = root.map bw := List.take_of_length_le (by simp [hr])
        have d3 : (root.map bw).length = 16 := by simp [hr]
        refine hK2 _ ?_
        have e5 := eqL_bws D0 root (by omega)
        have e6 := fun ti hd => fits_bws ti .u8 hd D0
        refine AW_reg TB (fun D K hD hK => ?_)
        simp only [AwS, TS, AwD, aval, aIndex, aSlice, aLen, BN, BW, BS, Int.cast_ofNat_Int, spl, splice, bind, ↓reduceIte, simprocAttr, b2, b3, d2, d3, e5, e6]
        refine hD _ ?_
        clear hD hK D K
        refine AW_ret ?_
        simp only [Ret]
        refine retp (bv (decide (D0 = root))) rfl ?_ rfl rfl
        simp [resOf, resAll, resAV, alook, blook, AV.known, loadC, AwS, TS, TD.isAgg]
end Go.Proofs.YtgbpgplkhifgiaaDoor

/- The walks of slices.Equal (lists of digests) and treesig.Same. No condition. -/
set_option linter.unusedVariables false
set_option linter.unusedSimpArgs false
set_option maxRecDepth 100000
namespace Go.Proofs.YtgbpgplkhifgiaaDoor
open Go Go.RowKit

def eqlF (k k' : Bool) (a b : List (List UInt8)) (q : Nat) : St :=
  { nt := 26, nx := 0, tm := [(13, iv (q : Nat)), (12, iv a.length), (0, .ds k a.length (fl a)), (1, .ds k' b.length (fl b))], bx := [], gl := [], df := [] }

theorem equal_spec (k k' : Bool) (a b : List (List UInt8)) (ha : All16 a) (hb : All16 b) (hN : a.length ≤ 1000000) :
    Spec Tryd.prog [] 66 [.ds k a.length (fl a), .ds k' b.length (fl b)] [] (fun o => o = .ret (bv (decide (a = b))) [] []) := by
  refine spec_of TB 26 [.tmp 4] Tryd.func66 rfl rfl rfl (Nat.le_of_ble_eq_true rfl) ?_
  intro X w0 E0 hE hX
  simp only [idx, List.map_nil, List.length_nil]
  refine AW_reg TB (fun D K hD hK => ?_)
  simp only [AwS, TS, AwD, aval, aIndex, aSlice, aLen, BN, BW, BS, Int.cast_ofNat_Int, spl, splice, bind, ↓reduceIte, simprocAttr]
  refine hD _ ?_
  clear hD hK D K
  refine AW_seq ?_
  refine AW_reg TB (fun D K hD hK => ?_)
  simp only [AwS, TS, AwD, aval, aIndex, aSlice, aLen, BN, BW, BS, Int.cast_ofNat_Int, spl, splice, bind, ↓reduceIte, simprocAttr]
  refine hD _ ?_
  clear hD hK D K
  refine AW_cond rfl (fun h => ?_) (fun h => AW_skip ?_)
  · have hne : ¬ a = b := by
      rintro rfl
      simp at h
    rw [decide_eq_false hne]
    refine AW_reg TB (fun D K hD hK => ?_)
    simp only [AwS, TS, AwD, aval, aIndex, aSlice, aLen, BN, BW, BS, Int.cast_ofNat_Int, spl, splice, bind, ↓reduceIte, simprocAttr]
    refine hD _ ?_
    clear hD hK D K
    refine AW_ret ?_
    simp only [Ret, seqQ]
    refine retp (bv false) rfl ?_ rfl rfl
    simp [resOf, resAll, resAV, alook, blook, AV.known, loadC, AwS, TS, TD.isAgg]
  · have heq : a.length = b.length := by
      have : (a.length : Int) = b.length := by simpa using h
      omega
    simp only [seqQ]
    refine AW_seqk (fun K0 hK0 => ?_)
    refine AW_reg TB (fun D K hD hK => ?_)
    simp only [AwS, TS, AwD, aval, aIndex, aSlice, aLen, BN, BW, BS, Int.cast_ofNat_Int, spl, splice, bind, ↓reduceIte, simprocAttr]
    refine hD _ ?_
    clear hD hK D K
    refine AW_block ?_
    refine AW_loop (eqlF k k' a b) (fun q => q ≤ a.length ∧ a.take q = b.take q) (fun q => a.length - q) hE 0 [] (by simp) ?_ ?_
    · refine ⟨rfl, by simp [eqlF, alook, AV.map, AVs.map, fl_map], ⟨rfl, rfl⟩, ?_, ?_, by simp [eqlF], by simp [eqlF, nmap], ?_⟩
      · simp [eqlF, alook, AV.map, AVs.map, nmap, AVs_map_append, ivs_map, yvs_map, fl_map]
      · simp [eqlF, blook, AV.map, AVs.map, nmap, AVs_map_append, ivs_map, yvs_map, fl_map]
      · intro k hk
        have hk2 : k < 0 := hk
        omega
    rintro q ⟨hq, ht⟩
    simp only [eqlF]
    refine AW_reg TB (fun D K hD hK => ?_)
    simp only [AwS, TS, AwD, aval, aIndex, aSlice, aLen, BN, BW, BS, Int.cast_ofNat_Int, spl, splice, bind, ↓reduceIte, simprocAttr]
    refine hD _ ?_
    clear hD hK D K
    refine AW_seq (AW_cond rfl (fun h5 => AW_skip ?_) (fun h5 => AW_exit ?_))
    · have hlt : q < a.length := by simpa using h5
      have hlt' : q < b.length := by omega
      have x3 : (0 ≤ (q : Int) ∧ (q : Int) < (a.length : Int)) = True := eq_true (by omega)
      have x4 : (0 ≤ (q : Int) ∧ (q : Int) < (b.length : Int)) = True := eq_true (by omega)
      have g2 := fl_get ha q hlt
      have g2' := fl_get hb q hlt'
      have g3 : (16 ≤ (List.drop (q * 16) (fl a)).length) = True := by
        rw [List.length_drop, fl_len ha]; exact eq_true (by omega)
      have g3' : (16 ≤ (List.drop (q * 16) (fl b)).length) = True := by
        rw [List.length_drop, fl_len hb]; exact eq_true (by omega)
      have h1 := ha _ (List.getElem_mem hlt)
      have h2 := hb _ (List.getElem_mem hlt')
      have s1 := List.take_succ_eq_append_getElem hlt
      have s2 := List.take_succ_eq_append_getElem hlt'
      have hmem : a = b → a[q] = b[q] := by rintro rfl; rfl
      generalize a[q] = x at *
      generalize b[q] = y at *
      have l1 : (x.map bw).length = 16 := by simp [h1]
      have l2 : (y.map bw).length = 16 := by simp [h2]
      have e5 := eqL_bws x y (by omega)
      have e6 := fun ti hd => fits_bws ti .u8 hd x
      have w1 : IntKind.i64.wrap ((q : Int) + 1) = (q : Int) + 1 := wrap_i64 (by omega) (by omega)
      simp only [seqQ]
      refine AW_seqk (fun K3 hK3 => ?_)
      refine AW_block ?_
      refine AW_reg TB (fun D K hD hK => ?_)
      simp only [AwS, TS, AwD, aval, aIndex, aSlice, aLen, BN, BW, BS, Int.cast_ofNat_Int, spl, splice, bind, ↓reduceIte, simprocAttr]
      refine hD _ ?_
      clear hD hK D K
      refine AW_dreg TB mx ([[], [], [0, 1], [2, 0, 1], [], [], [4, 5], [6, 4, 5], [3, 2, 0, 1, 7, 6, 4, 5]]) (by kernel_rfl) (by kernel_rfl) (fun D K hD hK => ?_)
      simp only [AwS, TS, AwD, aval, aIndex, aSlice, aLen, BN, BW, BS, Int.cast_ofNat_Int, spl, splice, bind, ↓reduceIte, simprocAttr, Op.operands, Call.operands, List.toList_toArray, List.size_toArray, cmp, List.getD_cons_zero, List.getD_cons_succ, Array.toList_append, Option.toArray, List.append_toArray,  x3, x4, g2, g2', g3, g3', l1, l2, e5, e6, Int.toNat_natCast]
      refine hD _ ?_
      clear hD hK D K
      refine AW_cond rfl (fun h6 => ?_) (fun h6 => AW_skip ?_)
      · have hxy : ¬ x = y := by simpa using h6
        rw [decide_eq_false (fun h => hxy (hmem h))]
        refine AW_reg TB (fun D K hD hK => ?_)
        simp only [AwS, TS, AwD, aval, aIndex, aSlice, aLen, BN, BW, BS, Int.cast_ofNat_Int, spl, splice, bind, ↓reduceIte, simprocAttr]
        refine hD _ ?_
        clear hD hK D K
        refine AW_ret ?_
        simp only [seqQ, blockQ, loopQ, kQ, Ret]
        refine retp (bv false) rfl ?_ rfl rfl
        simp [resOf, resAll, resAV, alook, blook, AV.known, loadC, AwS, TS, TD.isAgg]
      · have hxy : x = y := by simpa using h6
        simp only [seqQ, blockQ]
        refine hK3 _ ?_
        refine AW_regl TB (fun D K hD hK => ?_)
        simp only [AwS, TS, AwD, aval, aIndex, aSlice, aLen, BN, BW, BS, Int.cast_ofNat_Int, spl, splice, bind, ↓reduceIte, simprocAttr, w1]
        refine hD _ ?_
        clear hD hK D K
        refine ⟨q + 1, [], ⟨by omega, by rw [s1, s2, ht, hxy]⟩, by dsimp only; omega, ?_⟩
        refine ⟨rfl, by simp [eqlF, alook, AV.map, AVs.map, fl_map], ⟨rfl, rfl⟩, ?_, ?_, by simp [eqlF], by simp [eqlF, nmap], ?_⟩
        · simp [eqlF, alook, AV.map, AVs.map, nmap, AVs_map_append, ivs_map, yvs_map, fl_map]
        · simp [eqlF, blook, AV.map, AVs.map, nmap, AVs_map_append, ivs_map, yvs_map, fl_map]
        · intro k hk
          have hk2 : k < 0 := hk
          omega
    · have hge : q = a.length := by
        have : ¬ q < a.length := by simpa using h5
        omega
      subst hge
      have hab : a = b := by
        rw [List.take_length, heq, List.take_length] at ht
        exact ht
      refine hK0 _ ?_
      rw [decide_eq_true hab]
      refine AW_reg TB (fun D K hD hK => ?_)
      simp only [AwS, TS, AwD, aval, aIndex, aSlice, aLen, BN, BW, BS, Int.cast_ofNat_Int, spl, splice, bind, ↓reduceIte, simprocAttr]
      refine hD _ ?_
      clear hD hK D K
      refine AW_ret ?_
      simp only [Ret]
      refine retp (bv true) rfl ?_ rfl rfl
      simp [resOf, resAll, resAV, alook, blook, AV.known, loadC, AwS, TS, TD.isAgg]

/-- A signature as it lies in memory that is only read. -/
def sigA (i : Int) (kc kp : Bool) (ch ps : List (List UInt8)) : AV := .agg [iv i, .ds kc ch.length (fl ch), .ds kp ps.length (fl ps)]

theorem same_spec (i i' : Int) (kc kp kc' kp' : Bool) (c p c' p' : List (List UInt8)) (h1 : All16 c) (h2 : All16 p) (h3 : All16 c') (h4 : All16 p') (l1 : c.length ≤ 1000000) (l2 : p.length ≤ 1000000) :
    Spec Tryd.prog [] 27 [sigA i kc kp c p, sigA i' kc' kp' c' p'] [] (fun o => o = .ret (bv (decide (i = i') && decide (c = c') && decide (p = p'))) [] []) := by
  refine spec_of TB 24 [.tmp 4] Tryd.func27 rfl rfl rfl (Nat.le_of_ble_eq_true rfl) ?_
  intro X w0 E0 hE hX
  simp only [idx, List.map_nil, List.length_nil, sigA]
  refine AW_reg TB (fun D K hD hK => ?_)
  simp only [AwS, TS, AwD, aval, aIndex, aSlice, aLen, BN, BW, BS, Int.cast_ofNat_Int, spl, splice, bind, ↓reduceIte, simprocAttr]
  refine hD _ ?_
  clear hD hK D K
  have q1 := equal_spec kc kc' c c' h1 h3 l1
  have q2 := equal_spec kp kp' p p' h2 h4 l2
  rcases Decidable.em (i = i') with hi | hi
  · subst hi
    refine AW_reg TB (fun D K hD hK => ?_)
    simp only [AwS, TS, AwD, aval, aIndex, aSlice, aLen, BN, BW, BS, Int.cast_ofNat_Int, spl, splice, bind, ↓reduceIte, simprocAttr]
    refine hK _ _ ?_
    clear hD hK D K
    refine AL_callPW rfl (.inr ⟨5, _, true, rfl, rfl, rfl⟩) rfl rfl en_66 q1 [] ?_ (by simp) rfl rfl ?_
    · simp [evs, St.ev, cav, alook, lendA, lentBx, lendC, blook, AVs.map, AV.map, ioMap, fl_map]
    rcases Decidable.em (c = c') with hc | hc
    · rw [decide_eq_true hc]
      refine AL_runR TB _ _ (fun D K hD hK => ?_)
      simp only [AwS, TS, AwD, aval, aIndex, aSlice, aLen, BN, BW, BS, Int.cast_ofNat_Int, spl, splice, bind, ↓reduceIte, simprocAttr]
      refine hK _ _ ?_
      clear hD hK D K
      refine AL_callPW rfl (.inr ⟨12, _, true, rfl, rfl, rfl⟩) rfl rfl en_66 q2 [] ?_ (by simp) rfl rfl ?_
      · simp [evs, St.ev, cav, alook, lendA, lentBx, lendC, blook, AVs.map, AV.map, ioMap, fl_map]
      refine AL_runR TB _ _ (fun D K hD hK => ?_)
      simp only [AwS, TS, AwD, aval, aIndex, aSlice, aLen, BN, BW, BS, Int.cast_ofNat_Int, spl, splice, bind, ↓reduceIte, simprocAttr]
      refine hD _ ?_
      clear hD hK D K
      refine AW_ret ?_
      simp only [Ret]
      refine retp (bv (decide (p = p'))) rfl ?_ rfl (by simp [hc])
      simp [resOf, resAll, resAV, alook, blook, AV.known, loadC, AwS, TS, TD.isAgg]
    · rw [decide_eq_false hc]
      refine AL_runR TB _ _ (fun D K hD hK => ?_)
      simp only [AwS, TS, AwD, aval, aIndex, aSlice, aLen, BN, BW, BS, Int.cast_ofNat_Int, spl, splice, bind, ↓reduceIte, simprocAttr]
      refine hD _ ?_
      clear hD hK D K
      refine AW_ret ?_
      simp only [Ret]
      refine retp (bv false) rfl ?_ rfl (by simp [hc])
      simp [resOf, resAll, resAV, alook, blook, AV.known, loadC, AwS, TS, TD.isAgg]
  · have hi' : (i = i') = False := eq_false hi
    refine AW_reg TB (fun D K hD hK => ?_)
    simp only [AwS, TS, AwD, aval, aIndex, aSlice, aLen, BN, BW, BS, Int.cast_ofNat_Int, spl, splice, bind, ↓reduceIte, simprocAttr, hi']
    refine hD _ ?_
    clear hD hK D K
    refine AW_ret ?_
    simp only [Ret]
    refine retp (bv false) rfl ?_ rfl (by simp [hi])
    simp [resOf, resAll, resAV, alook, blook, AV.known, loadC, AwS, TS, TD.isAgg]
end Go.Proofs.YtgbpgplkhifgiaaDoor

/- The walk of treesig.Sign. No condition. -/
set_option linter.unusedVariables false
set_option linter.unusedSimpArgs false
set_option maxRecDepth 100000
namespace Go.Proofs.YtgbpgplkhifgiaaDoor
open Go Go.RowKit

theorem prA_kept (b : Nat) (ps : List (List UInt8)) : (prA b ps).kept = true := by unfold prA; split <;> rfl
theorem prG_kept (ps : List (List UInt8)) : (prG ps).all AVs.kept = true := by
  unfold prG
  split
  · rfl
  · simp [fl_kept]
theorem shl_one (h : Nat) (hh : h ≤ 10) : aBin .shl (.int .i64 1) (.int .i64 (h : Int)) = some (.int .i64 ((2 ^ h : Nat) : Int)) := by
  have hp1 : 1 ≤ 2 ^ h := Nat.one_le_two_pow
  have hp2 : 2 ^ h ≤ 2 ^ 10 := Nat.pow_le_pow_right (by omega) hh
  have hsh : (if (h : Int) < 0 then none else some (Value.int IntKind.i64 (IntKind.i64.wrap (1 * 2 ^ (min (h : Int).toNat 64))))) = some (.int .i64 ((2 ^ h : Nat) : Int)) := by
    rw [if_neg (by omega), Int.toNat_natCast, Nat.min_eq_left (by omega), Int.one_mul]
    have : ((2 : Int) ^ h) = ((2 ^ h : Nat) : Int) := by simp
    rw [this, wrap_i64 (by omega) (by omega)]
  exact hsh

/-- The path in a key pair's tree. -/
def pathW (seed : List UInt8) (h i : Nat) : List (List UInt8) := proveM (pubs seed (2 ^ h)) i

theorem tsign_spec (seed : List UInt8) (h i : Nat) (m : List UInt8) (hh : h ≤ 4) (hi : i < 2 ^ h) (hs : seed.length = 16) (hm : m.length = 16) :
    Spec Tryd.prog glS 22 [.agg (seed.map bw), iv (h : Nat), iv (i : Nat), .agg (m.map bw)] [] (fun o => o = .ret (.tup [sigA (i : Nat) true true (sigL seed i m 68) (pathW seed h i), iv 0]) [] []) := by
  refine spec_of TB 43 [.cell 8 45, .tmp 9] Tryd.func22 rfl rfl rfl (Nat.le_of_ble_eq_true rfl) ?_
  intro X w0 E0 hE hX
  have hX0 : ∀ g, ¬ X g := fun g hg => by obtain ⟨q, hq, _⟩ := hX g hg; simp at hq
  have s1 : (16 ≤ seed.length) = True := by simp; omega
  have s2 : List.take 16 (seed.map bw) = seed.map bw := List.take_of_length_le (by simp; omega)
  have m1 : (16 ≤ m.length) = True := by simp; omega
  have m2 : List.take 16 (m.map bw) = m.map bw := List.take_of_length_le (by simp; omega)
  have h4 : (decide ((0 : Int) ≤ (h : Int)) && decide ((h : Int) ≤ 4)) = true := by simp; omega
  have hsl := shl_one h (by omega)
  have i1 : decide ((i : Int) < 0) = false := decide_eq_false (by omega)
  simp only [idx, List.map_nil, List.length_nil]
  refine AW_reg TB (fun D K hD hK => ?_)
  simp only [AwS, TS, AwD, aval, aIndex, aSlice, aLen, BN, BW, BS, Int.cast_ofNat_Int, spl, splice, bind, ↓reduceIte, simprocAttr]
  refine hD _ ?_
  clear hD hK D K
  refine AW_reg TB (fun D K hD hK => ?_)
  simp only [AwS, TS, AwD, aval, aIndex, aSlice, aLen, BN, BW, BS, Int.cast_ofNat_Int, spl, splice, bind, ↓reduceIte, simprocAttr]
  refine hD _ ?_
  clear hD hK D K
  have hp2 : 2 ^ h ≤ 2 ^ 4 := Nat.pow_le_pow_right (by omega) hh
  have i2 : decide (((2 ^ h : Nat) : Int) ≤ (i : Int)) = false := decide_eq_false (by omega)
  refine AW_seqk (fun K0 hK0 => ?_)
  refine AW_block ?_
  refine AW_seq ?_
  refine AW_block ?_
  refine AW_seq ?_
  refine AW_block ?_
  refine AW_seq ?_
  refine AW_seq ?_
  refine AW_reg TB (fun D K hD hK => ?_)
  simp only [AwS, TS, AwD, aval, aIndex, aSlice, aLen, BN, BW, BS, Int.cast_ofNat_Int, spl, splice, bind, ↓reduceIte, simprocAttr]
  refine hK _ _ ?_
  clear hD hK D K
  have vs := valid_spec h
  rw [h4] at vs
  refine AL_callD rfl rfl rfl rfl en_51 vs [] [] rfl (by simp) (by simp) ?_ (by simp) (by simp) rfl (by simp) ?_
  · simp [evs, St.ev, cav, alook, lendA, lentBx, lendC, blook, AVs.map, AV.map, ioMap]
  refine AL_runR TB _ _ (fun D K hD hK => ?_)
  simp only [AwS, TS, AwD, aval, aIndex, aSlice, aLen, BN, BW, BS, Int.cast_ofNat_Int, spl, splice, bind, ↓reduceIte, simprocAttr, i1]
  refine hD _ ?_
  clear hD hK D K
  refine AW_false rfl (AW_skip ?_)
  simp only [seqQ]
  refine AW_reg TB (fun D K hD hK => ?_)
  simp only [AwS, TS, AwD, aval, aIndex, aSlice, aLen, BN, BW, BS, Int.cast_ofNat_Int, spl, splice, bind, ↓reduceIte, simprocAttr, hsl, i2]
  refine hD _ ?_
  clear hD hK D K
  refine AW_false rfl (AW_skip ?_)
  simp only [seqQ]
  refine AW_exit ?_
  simp only [blockQ, seqQ, kQ, ↓reduceIte, Nat.reduceEqDiff, reduceCtorEq]
  refine hK0 _ ?_
  refine AW_reg TB (fun D K hD hK => ?_)
  simp only [AwS, TS, AwD, aval, aIndex, aSlice, aLen, BN, BW, BS, Int.cast_ofNat_Int, spl, splice, bind, ↓reduceIte, simprocAttr, s1, s2]
  refine hK _ _ ?_
  clear hD hK D K
  refine AL_call rfl rfl rfl rfl en_53 (leaves_spec seed h (by omega) hs) [] [] rfl (by simp) (by simp) ?_ (by simp) (by simp) (by simp [alook, AV.map, cs_map, wws_map]) (fun x io' nb hR _ => ?_) (fun v io2 hR _ => by simp at hR)
  · simp [evs, St.ev, cav, alook, lendA, lentBx, lendC, blook, AVs.map, AV.map, ioMap, bws_map]
  simp only [Out.ret.injEq] at hR
  obtain ⟨rfl, rfl, rfl⟩ := hR
  refine ⟨rfl, by simp, ?_⟩
  refine AL_runR TB _ _ (fun D K hD hK => ?_)
  simp only [AwS, TS, AwD, aval, aIndex, aSlice, aLen, BN, BW, BS, Int.cast_ofNat_Int, spl, splice, bind, ↓reduceIte, simprocAttr, bws_map, fl_map]
  refine hK _ _ ?_
  clear hD hK D K
  have hpn : (pubs seed (2 ^ h)).length = 2 ^ h := pubs_len _ _
  have hp16 := pubs_16 seed (2 ^ h)
  have hfl : (fl (pubs seed (2 ^ h))).length = 2 ^ h * 16 := by rw [fl_len hp16, hpn]
  have fl_tk : List.take (2 ^ h * 16) (fl (pubs seed (2 ^ h))) = fl (pubs seed (2 ^ h)) := List.take_of_length_le (by omega)
  have lendC_fl : ∀ f, List.map (lendC f) (fl (pubs seed (2 ^ h))) = fl (pubs seed (2 ^ h)) := fun f => lendC_bws f _
  have ps := prove_spec false (pubs seed (2 ^ h)) i (by omega) hp16 (by omega)
  rw [hpn] at ps
  have hpw : proveM (pubs seed (2 ^ h)) i = pathW seed h i := rfl
  rw [hpw] at ps
  refine AL_call rfl rfl rfl rfl en_59 ps [] [160] rfl (by simp) (by simp) ?_ (by simp) (by simp [blook]) (by simp [alook, AV.map, cs_map, wws_map]) (fun x io' nb hR _ => ?_) (fun v io2 hR _ => by simp at hR)
  · simp [evs, St.ev, cav, alook, lendA, lentBx, lendC, blook, AVs.map, AV.map, ioMap, hfl, fl_map, -List.map_map, lendC_fl, fl_tk]
  simp only [Out.ret.injEq] at hR
  obtain ⟨rfl, rfl, rfl⟩ := hR
  refine ⟨by simp [keptAll, AV.kept, AVs.kept, prA_kept, prG_kept], by unfold prG; split <;> simp, ?_⟩
  have wsp := wsign_spec seed i m hs hm (by omega) (by omega)
  have hP16 : All16 (pathW seed h i) := prove_16 _ _ _ (Nat.le_refl _)
  generalize pathW seed h i = P at *
  rcases Nat.eq_zero_or_pos P.length with h0 | h0
  · simp only [prA, prG, h0, ↓reduceIte]
    refine AL_runR TB _ _ (fun D K hD hK => ?_)
    simp only [AwS, TS, AwD, aval, aIndex, aSlice, aLen, BN, BW, BS, Int.cast_ofNat_Int, spl, splice, bind, ↓reduceIte, simprocAttr, fl_map]
    refine hD _ ?_
    clear hD hK D K
    refine AW_reg TB (fun D K hD hK => ?_)
    simp only [AwS, TS, AwD, aval, aIndex, aSlice, aLen, BN, BW, BS, Int.cast_ofNat_Int, spl, splice, bind, ↓reduceIte, simprocAttr, s1, s2, m1, m2]
    refine hK _ _ ?_
    clear hD hK D K
    refine AL_call rfl rfl rfl rfl en_60 wsp [] [] rfl (by simp) (by simp) ?_ (by simp) (by simp) (by simp [alook, AV.map, cs_map, wws_map]) (fun x io' nb hR _ => ?_) (fun v io2 hR _ => by simp at hR)
    · simp [evs, St.ev, cav, alook, lendA, lentBx, lendC, blook, AVs.map, AV.map, ioMap, bws_map]
    simp only [Out.ret.injEq] at hR
    obtain ⟨rfl, rfl, rfl⟩ := hR
    refine ⟨rfl, by simp, ?_⟩
    refine AL_runR TB _ _ (fun D K hD hK => ?_)
    simp only [AwS, TS, AwD, aval, aIndex, aSlice, aLen, BN, BW, BS, Int.cast_ofNat_Int, spl, splice, bind, ↓reduceIte, simprocAttr, fl_map]
    refine hD _ ?_
    clear hD hK D K
    have g1 : List.take 1088 (fl (sigL seed i m 68)) = fl (sigL seed i m 68) := List.take_of_length_le (by rw [fl_len (sigL_16 _ _ _ _), sigL_len]; omega)
    refine AW_keep [8, 9] ?_
    refine AW_freeze 256 hX0 rfl ?_
    refine AW_nils ?_
    simp only [St.nils, nilA, nilAs, St.freeze, frz, frzs, frzs_fl, List.filter_cons, List.filter_nil, AwS, TS, AwD, aval, aIndex, aSlice, aLen, BN, BW, BS, Int.cast_ofNat_Int, spl, splice, bind, ↓reduceIte, simprocAttr, g1]
    refine AW_ret ?_
    simp only [Ret]
    refine retp (.tup [sigA (i : Nat) true true (sigL seed i m 68) P, iv 0]) rfl ?_ (by simp only [AV.map, AVs.map, sigA, fl_map]) rfl
    have hP : P = [] := List.eq_nil_of_length_eq_zero h0
    subst hP
    simp only [resOf, resAll, resAV, sigA, sigL_len, AwS, TS, AwD, aval, aIndex, aSlice, aLen, BN, BW, BS, Int.cast_ofNat_Int, spl, splice, bind, ↓reduceIte, simprocAttr]
    rfl
  · have h0' : (P.length = 0) = False := eq_false (by omega)
    simp only [prA, prG, h0', ↓reduceIte]
    refine AL_runR TB _ _ (fun D K hD hK => ?_)
    simp only [AwS, TS, AwD, aval, aIndex, aSlice, aLen, BN, BW, BS, Int.cast_ofNat_Int, spl, splice, bind, ↓reduceIte, simprocAttr, fl_map]
    refine hD _ ?_
    clear hD hK D K
    refine AW_reg TB (fun D K hD hK => ?_)
    simp only [AwS, TS, AwD, aval, aIndex, aSlice, aLen, BN, BW, BS, Int.cast_ofNat_Int, spl, splice, bind, ↓reduceIte, simprocAttr, s1, s2, m1, m2]
    refine hK _ _ ?_
    clear hD hK D K
    refine AL_call rfl rfl rfl rfl en_60 wsp [] [] rfl (by simp) (by simp) ?_ (by simp) (by simp) (by simp [alook, AV.map, cs_map, wws_map]) (fun x io' nb hR _ => ?_) (fun v io2 hR _ => by simp at hR)
    · simp [evs, St.ev, cav, alook, lendA, lentBx, lendC, blook, AVs.map, AV.map, ioMap, bws_map]
    simp only [Out.ret.injEq] at hR
    obtain ⟨rfl, rfl, rfl⟩ := hR
    refine ⟨rfl, by simp, ?_⟩
    refine AL_runR TB _ _ (fun D K hD hK => ?_)
    simp only [AwS, TS, AwD, aval, aIndex, aSlice, aLen, BN, BW, BS, Int.cast_ofNat_Int, spl, splice, bind, ↓reduceIte, simprocAttr, fl_map]
    refine hD _ ?_
    clear hD hK D K
    have g1 : List.take 1088 (fl (sigL seed i m 68)) = fl (sigL seed i m 68) := List.take_of_length_le (by rw [fl_len (sigL_16 _ _ _ _), sigL_len]; omega)
    have g2 : List.take (P.length * 16) (fl P) = fl P := List.take_of_length_le (by rw [fl_len hP16]; omega)
    refine AW_keep [8, 9] ?_
    refine AW_freeze 256 hX0 rfl ?_
    simp only [St.freeze, frz, frzs, frzs_fl, List.filter_cons, List.filter_nil, AwS, TS, AwD, aval, aIndex, aSlice, aLen, BN, BW, BS, Int.cast_ofNat_Int, spl, splice, bind, ↓reduceIte, simprocAttr, g1]
    refine AW_freeze 176 hX0 rfl ?_
    simp only [St.freeze, frz, frzs, frzs_fl, List.filter_cons, List.filter_nil, AwS, TS, AwD, aval, aIndex, aSlice, aLen, BN, BW, BS, Int.cast_ofNat_Int, spl, splice, bind, ↓reduceIte, simprocAttr, g2]
    refine AW_ret ?_
    simp only [Ret]
    refine retp (.tup [sigA (i : Nat) true true (sigL seed i m 68) P, iv 0]) rfl ?_ (by simp only [AV.map, AVs.map, sigA, fl_map]) rfl
    simp only [resOf, resAll, resAV, sigA, sigL_len, AwS, TS, AwD, aval, aIndex, aSlice, aLen, BN, BW, BS, Int.cast_ofNat_Int, spl, splice, bind, ↓reduceIte, simprocAttr]


theorem tsign_bad (seed : List UInt8) (h i : Int) (m : List UInt8) (hs : seed.length = 16) (hm : m.length = 16) (hb : ¬ (0 ≤ h ∧ h ≤ 4) ∨ i < 0) :
    Spec Tryd.prog glS 22 [.agg (seed.map bw), iv h, iv i, .agg (m.map bw)] [] (fun o => o = .ret (.tup [.agg [iv 0, .val (.slice none 0 0), .val (.slice none 0 0)], iv 1]) [] []) := by
  by_cases hv : 0 ≤ h ∧ h ≤ 4
  · have hi : i < 0 := by
      rcases hb with h1 | h1
      · exact absurd hv h1
      · exact h1
    have h4 : (decide (0 ≤ h) && decide (h ≤ 4)) = true := by simp [hv]
    have i1 : (i < 0) = True := eq_true hi
    refine spec_of TB 43 [.cell 8 45, .tmp 9] Tryd.func22 rfl rfl rfl (Nat.le_of_ble_eq_true rfl) ?_
    intro X w0 E0 hE hX
    have s1 : (16 ≤ seed.length) = True := by simp; omega
    have s2 : List.take 16 (seed.map bw) = seed.map bw := List.take_of_length_le (by simp; omega)
    have m1 : (16 ≤ m.length) = True := by simp; omega
    have m2 : List.take 16 (m.map bw) = m.map bw := List.take_of_length_le (by simp; omega)
    simp only [idx, List.map_nil, List.length_nil]
    refine AW_reg TB (fun D K hD hK => ?_)
    simp only [AwS, TS, AwD, aval, aIndex, aSlice, aLen, BN, BW, BS, Int.cast_ofNat_Int, spl, splice, bind, ↓reduceIte, simprocAttr]
    refine hD _ ?_
    clear hD hK D K
    refine AW_reg TB (fun D K hD hK => ?_)
    simp only [AwS, TS, AwD, aval, aIndex, aSlice, aLen, BN, BW, BS, Int.cast_ofNat_Int, spl, splice, bind, ↓reduceIte, simprocAttr]
    refine hD _ ?_
    clear hD hK D K
    refine AW_seqk (fun K0 hK0 => ?_)
    refine AW_block ?_
    refine AW_seq ?_
    refine AW_block ?_
    refine AW_seq ?_
    refine AW_block ?_
    refine AW_seq ?_
    refine AW_seq ?_
    refine AW_reg TB (fun D K hD hK => ?_)
    simp only [AwS, TS, AwD, aval, aIndex, aSlice, aLen, BN, BW, BS, Int.cast_ofNat_Int, spl, splice, bind, ↓reduceIte, simprocAttr]
    refine hK _ _ ?_
    clear hD hK D K
    have vs := valid_spec h
    rw [h4] at vs
    refine AL_callD rfl rfl rfl rfl en_51 vs [] [] rfl (by simp) (by simp) ?_ (by simp) (by simp) rfl (by simp) ?_
    · simp [evs, St.ev, cav, alook, lendA, lentBx, lendC, blook, AVs.map, AV.map, ioMap]
    refine AL_runR TB _ _ (fun D K hD hK => ?_)
    simp only [AwS, TS, AwD, aval, aIndex, aSlice, aLen, BN, BW, BS, Int.cast_ofNat_Int, spl, splice, bind, ↓reduceIte, simprocAttr, i1]
    refine hD _ ?_
    clear hD hK D K
    refine AW_true rfl (AW_exit ?_)
    simp only [blockQ, seqQ, kQ, ↓reduceIte, Nat.reduceEqDiff, reduceCtorEq]
    refine AW_regl TB (fun D K hD hK => ?_)
    simp only [AwS, TS, AwD, aval, aIndex, aSlice, aLen, BN, BW, BS, Int.cast_ofNat_Int, spl, splice, bind, ↓reduceIte, simprocAttr]
    refine hD _ ?_
    clear hD hK D K
    simp only [blockQ, seqQ, kQ, ↓reduceIte, Nat.reduceEqDiff, reduceCtorEq]
    refine AW_seq ?_
    refine AW_reg TB (fun D K hD hK => ?_)
    simp only [AwS, TS, AwD, aval, aIndex, aSlice, aLen, BN, BW, BS, Int.cast_ofNat_Int, spl, splice, bind, ↓reduceIte, simprocAttr]
    refine hD _ ?_
    clear hD hK D K
    refine AW_ret ?_
    simp only [Ret, seqQ, blockQ, kQ]
    refine retp (.tup [.agg [iv 0, .val (.slice none 0 0), .val (.slice none 0 0)], iv 1]) rfl ?_ rfl rfl
    simp [resOf, resAll, resAV, alook, blook, AV.known, loadC, AwS, TS, TD.isAgg]
  · have h4 : (decide (0 ≤ h) && decide (h ≤ 4)) = false := by
      rcases Decidable.em (0 ≤ h) with a | a
      · have : ¬ h ≤ 4 := fun b => hv ⟨a, b⟩
        simp [this]
      · simp [a]
    refine spec_of TB 43 [.cell 8 45, .tmp 9] Tryd.func22 rfl rfl rfl (Nat.le_of_ble_eq_true rfl) ?_
    intro X w0 E0 hE hX
    have s1 : (16 ≤ seed.length) = True := by simp; omega
    have s2 : List.take 16 (seed.map bw) = seed.map bw := List.take_of_length_le (by simp; omega)
    have m1 : (16 ≤ m.length) = True := by simp; omega
    have m2 : List.take 16 (m.map bw) = m.map bw := List.take_of_length_le (by simp; omega)
    simp only [idx, List.map_nil, List.length_nil]
    refine AW_reg TB (fun D K hD hK => ?_)
    simp only [AwS, TS, AwD, aval, aIndex, aSlice, aLen, BN, BW, BS, Int.cast_ofNat_Int, spl, splice, bind, ↓reduceIte, simprocAttr]
    refine hD _ ?_
    clear hD hK D K
    refine AW_reg TB (fun D K hD hK => ?_)
    simp only [AwS, TS, AwD, aval, aIndex, aSlice, aLen, BN, BW, BS, Int.cast_ofNat_Int, spl, splice, bind, ↓reduceIte, simprocAttr]
    refine hD _ ?_
    clear hD hK D K
    refine AW_seqk (fun K0 hK0 => ?_)
    refine AW_block ?_
    refine AW_seq ?_
    refine AW_block ?_
    refine AW_seq ?_
    refine AW_block ?_
    refine AW_seq ?_
    refine AW_seq ?_
    refine AW_reg TB (fun D K hD hK => ?_)
    simp only [AwS, TS, AwD, aval, aIndex, aSlice, aLen, BN, BW, BS, Int.cast_ofNat_Int, spl, splice, bind, ↓reduceIte, simprocAttr]
    refine hK _ _ ?_
    clear hD hK D K
    have vs := valid_spec h
    rw [h4] at vs
    refine AL_callD rfl rfl rfl rfl en_51 vs [] [] rfl (by simp) (by simp) ?_ (by simp) (by simp) rfl (by simp) ?_
    · simp [evs, St.ev, cav, alook, lendA, lentBx, lendC, blook, AVs.map, AV.map, ioMap]
    refine AL_runR TB _ _ (fun D K hD hK => ?_)
    simp only [AwS, TS, AwD, aval, aIndex, aSlice, aLen, BN, BW, BS, Int.cast_ofNat_Int, spl, splice, bind, ↓reduceIte, simprocAttr]
    refine hD _ ?_
    clear hD hK D K
    refine AW_true rfl (AW_exit ?_)
    simp only [blockQ, seqQ, kQ, ↓reduceIte, Nat.reduceEqDiff, reduceCtorEq]
    refine AW_regl TB (fun D K hD hK => ?_)
    simp only [AwS, TS, AwD, aval, aIndex, aSlice, aLen, BN, BW, BS, Int.cast_ofNat_Int, spl, splice, bind, ↓reduceIte, simprocAttr]
    refine hD _ ?_
    clear hD hK D K
    simp only [blockQ, seqQ, kQ, ↓reduceIte, Nat.reduceEqDiff, reduceCtorEq]
    refine AW_seq ?_
    refine AW_reg TB (fun D K hD hK => ?_)
    simp only [AwS, TS, AwD, aval, aIndex, aSlice, aLen, BN, BW, BS, Int.cast_ofNat_Int, spl, splice, bind, ↓reduceIte, simprocAttr]
    refine hD _ ?_
    clear hD hK D K
    refine AW_ret ?_
    simp only [Ret, seqQ, blockQ, kQ]
    refine retp (.tup [.agg [iv 0, .val (.slice none 0 0), .val (.slice none 0 0)], iv 1]) rfl ?_ rfl rfl
    simp [resOf, resAll, resAV, alook, blook, AV.known, loadC, AwS, TS, TD.isAgg]

theorem tsign_ex (seed : List UInt8) (h : Nat) (i : Int) (m : List UInt8) (hs : seed.length = 16) (hm : m.length = 16) (hh : h ≤ 4) (hi : ((2 ^ h : Nat) : Int) ≤ i) :
    Spec Tryd.prog glS 22 [.agg (seed.map bw), iv h, iv i, .agg (m.map bw)] [] (fun o => o = .ret (.tup [.agg [iv 0, .val (.slice none 0 0), .val (.slice none 0 0)], iv 17]) [] []) := by
  have h4 : (decide ((0 : Int) ≤ (h : Int)) && decide ((h : Int) ≤ 4)) = true := by simp; omega
  have hsl := shl_one h (by omega)
  have i1 : decide (i < 0) = false := decide_eq_false (by
    have := Nat.one_le_two_pow (n := h)
    generalize 2 ^ h = q at *
    omega)
  have i2 : decide (((2 ^ h : Nat) : Int) ≤ i) = true := decide_eq_true hi
  refine spec_of TB 43 [.cell 8 45, .tmp 9] Tryd.func22 rfl rfl rfl (Nat.le_of_ble_eq_true rfl) ?_
  intro X w0 E0 hE hX
  have s1 : (16 ≤ seed.length) = True := by simp; omega
  have s2 : List.take 16 (seed.map bw) = seed.map bw := List.take_of_length_le (by simp; omega)
  have m1 : (16 ≤ m.length) = True := by simp; omega
  have m2 : List.take 16 (m.map bw) = m.map bw := List.take_of_length_le (by simp; omega)
  simp only [idx, List.map_nil, List.length_nil]
  refine AW_reg TB (fun D K hD hK => ?_)
  simp only [AwS, TS, AwD, aval, aIndex, aSlice, aLen, BN, BW, BS, Int.cast_ofNat_Int, spl, splice, bind, ↓reduceIte, simprocAttr]
  refine hD _ ?_
  clear hD hK D K
  refine AW_reg TB (fun D K hD hK => ?_)
  simp only [AwS, TS, AwD, aval, aIndex, aSlice, aLen, BN, BW, BS, Int.cast_ofNat_Int, spl, splice, bind, ↓reduceIte, simprocAttr]
  refine hD _ ?_
  clear hD hK D K
  refine AW_seqk (fun K0 hK0 => ?_)
  refine AW_block ?_
  refine AW_seq ?_
  refine AW_block ?_
  refine AW_seq ?_
  refine AW_block ?_
  refine AW_seq ?_
  refine AW_seq ?_
  refine AW_reg TB (fun D K hD hK => ?_)
  simp only [AwS, TS, AwD, aval, aIndex, aSlice, aLen, BN, BW, BS, Int.cast_ofNat_Int, spl, splice, bind, ↓reduceIte, simprocAttr]
  refine hK _ _ ?_
  clear hD hK D K
  have vs := valid_spec h
  rw [h4] at vs
  refine AL_callD rfl rfl rfl rfl en_51 vs [] [] rfl (by simp) (by simp) ?_ (by simp) (by simp) rfl (by simp) ?_
  · simp [evs, St.ev, cav, alook, lendA, lentBx, lendC, blook, AVs.map, AV.map, ioMap]
  refine AL_runR TB _ _ (fun D K hD hK => ?_)
  simp only [AwS, TS, AwD, aval, aIndex, aSlice, aLen, BN, BW, BS, Int.cast_ofNat_Int, spl, splice, bind, ↓reduceIte, simprocAttr, i1]
  refine hD _ ?_
  clear hD hK D K
  refine AW_false rfl (AW_skip ?_)
  simp only [seqQ]
  refine AW_reg TB (fun D K hD hK => ?_)
  simp only [AwS, TS, AwD, aval, aIndex, aSlice, aLen, BN, BW, BS, Int.cast_ofNat_Int, spl, splice, bind, ↓reduceIte, simprocAttr, hsl, i2]
  refine hD _ ?_
  clear hD hK D K
  refine AW_true rfl (AW_exit ?_)
  simp only [blockQ, seqQ, kQ, ↓reduceIte, Nat.reduceEqDiff, reduceCtorEq]
  refine AW_seq ?_
  refine AW_reg TB (fun D K hD hK => ?_)
  simp only [AwS, TS, AwD, aval, aIndex, aSlice, aLen, BN, BW, BS, Int.cast_ofNat_Int, spl, splice, bind, ↓reduceIte, simprocAttr]
  refine hD _ ?_
  clear hD hK D K
  refine AW_ret ?_
  simp only [Ret, seqQ, blockQ, kQ]
  refine retp (.tup [.agg [iv 0, .val (.slice none 0 0), .val (.slice none 0 0)], iv 17]) rfl ?_ rfl rfl
  simp [resOf, resAll, resAV, alook, blook, AV.known, loadC, AwS, TS, TD.isAgg]

end Go.Proofs.YtgbpgplkhifgiaaDoor

/- The walk of treesig.Verify. No condition. -/
set_option linter.unusedVariables false
set_option linter.unusedSimpArgs false
set_option maxRecDepth 100000
namespace Go.Proofs.YtgbpgplkhifgiaaDoor
open Go Go.RowKit

/-- Whether a signature is valid. -/
def verT (root : List UInt8) (h : Int) (m : List UInt8) (i : Int) (ch ps : List (List UInt8)) : Bool :=
  (decide (0 ≤ h) && decide (h ≤ 4)) && (decide (0 ≤ i) && (decide (i < ((2 ^ h.toNat : Nat) : Int)) && (decide (ch.length = 68) && verM root (2 ^ h.toNat) i.toNat (recW m ch) ps)))


theorem tverify_spec (root : List UInt8) (h : Int) (m : List UInt8) (i : Int) (kc kp : Bool) (ch ps : List (List UInt8)) (hr : root.length = 16) (hm : m.length = 16) (hc : All16 ch) (hp : All16 ps) (lc : ch.length ≤ 1000000) (lp' : ps.length ≤ 1000000) :
    Spec Tryd.prog glS 19 [.agg (root.map bw), iv h, .agg (m.map bw), sigA i kc kp ch ps] [] (fun o => o = .ret (bv (verT root h m i ch ps)) [] []) := by
  by_cases hb : 0 ≤ h ∧ h ≤ 4
  · obtain ⟨n, rfl⟩ : ∃ n : Nat, h = n := ⟨h.toNat, by omega⟩
    have hn4 : n ≤ 4 := by omega
    have h4 : (decide ((0 : Int) ≤ (n : Int)) && decide ((n : Int) ≤ 4)) = true := by simp; omega
    have hsl := shl_one n (by omega)
    have hp1 : 1 ≤ 2 ^ n := Nat.one_le_two_pow
    have hp2 : 2 ^ n ≤ 2 ^ 4 := Nat.pow_le_pow_right (by omega) hn4
    have hvt : verT root n m i ch ps = (decide (0 ≤ i) && (decide (i < ((2 ^ n : Nat) : Int)) && (decide (ch.length = 68) && verM root (2 ^ n) i.toNat (recW m ch) ps))) := by
      unfold verT
      rw [h4, Bool.true_and, Int.toNat_natCast]
    generalize hN : 2 ^ n = N at *
    by_cases h0 : i < 0
    · have hv : verT root n m i ch ps = false := by rw [hvt, decide_eq_false (by omega), Bool.false_and]
      have e1 : (i < 0) = True := eq_true h0
      refine spec_of TB 46 [.tmp 8] Tryd.func19 rfl rfl rfl (Nat.le_of_ble_eq_true rfl) ?_
      intro X w0 E0 hE hX
      simp only [idx, List.map_nil, List.length_nil, sigA]
      refine AW_reg TB (fun D K hD hK => ?_)
      simp only [AwS, TS, AwD, aval, aIndex, aSlice, aLen, BN, BW, BS, Int.cast_ofNat_Int, spl, splice, bind, ↓reduceIte, simprocAttr]
      refine hD _ ?_
      clear hD hK D K
      refine AW_seq ?_
      refine AW_dreg TB mx ([[], [0], [1, 0], [2, 1, 0], [3, 2, 1, 0], [4, 3, 2, 1, 0], [5, 4, 3, 2, 1, 0], [3, 2, 1, 0, 6, 5, 4], [7, 3, 2, 1, 0, 6, 5, 4], [8, 7, 3, 2, 1, 0, 6, 5, 4], [9, 8, 7, 3, 2, 1, 0, 6, 5, 4], [8, 7, 3, 2, 1, 0, 6, 5, 4], [11, 8, 7, 3, 2, 1, 0, 6, 5, 4], [10, 9, 8, 7, 3, 2, 1, 0, 6, 5, 4, 12, 11], [8, 7, 3, 2, 1, 0, 6, 5, 4, 13, 10, 9, 12, 11]]) (by kernel_rfl) (by kernel_rfl) (fun D K hD hK => ?_)
      simp only [AwS, TS, AwD, aval, aIndex, aSlice, aLen, BN, BW, BS, Int.cast_ofNat_Int, spl, splice, bind, ↓reduceIte, simprocAttr, Op.operands, Call.operands, List.toList_toArray, List.size_toArray, cmp, List.getD_cons_zero, List.getD_cons_succ, Array.toList_append, Option.toArray, List.append_toArray,]
      refine hK _ _ _ _ ?_
      clear hD hK D K
      have vs := valid_spec (n : Int)
      rw [h4] at vs
      refine DL_callP rfl rfl rfl rfl rfl en_51 vs [] ?_ (by simp) rfl rfl rfl ?_
      · simp [evs, St.ev, cav, alook, lendA, lentBx, lendC, blook, AVs.map, AV.map, ioMap]
      refine DL_rest TB rfl (fun D K hD hK => ?_)
      simp only [AwS, TS, AwD, aval, aIndex, aSlice, aLen, BN, BW, BS, Int.cast_ofNat_Int, spl, splice, bind, ↓reduceIte, simprocAttr, Op.operands, Call.operands, List.toList_toArray, List.size_toArray, cmp, List.getD_cons_zero, List.getD_cons_succ, Array.toList_append, Option.toArray, List.append_toArray, e1]
      refine hD _ ?_
      clear hD hK D K
      refine AW_true rfl ?_
      refine AW_reg TB (fun D K hD hK => ?_)
      simp only [AwS, TS, AwD, aval, aIndex, aSlice, aLen, BN, BW, BS, Int.cast_ofNat_Int, spl, splice, bind, ↓reduceIte, simprocAttr]
      refine hD _ ?_
      clear hD hK D K
      refine AW_ret ?_
      simp only [Ret, seqQ]
      refine retp (bv false) rfl ?_ rfl (by rw [hv])
      simp [resOf, resAll, resAV, alook, blook, AV.known, loadC, AwS, TS, TD.isAgg]
    · have e1 : (i < 0) = False := eq_false h0
      by_cases h1 : i < (N : Int)
      · have e2 : ((N : Int) ≤ i) = False := eq_false (by omega)
        obtain ⟨j, rfl⟩ : ∃ j : Nat, i = j := ⟨i.toNat, by omega⟩
        have hv : verT root n m j ch ps = (decide (ch.length = 68) && verM root N j (recW m ch) ps) := by
          rw [hvt, decide_eq_true (show (0 : Int) ≤ (j : Int) by omega), decide_eq_true h1, Bool.true_and, Bool.true_and, Int.toNat_natCast]
        refine spec_of TB 46 [.tmp 8] Tryd.func19 rfl rfl rfl (Nat.le_of_ble_eq_true rfl) ?_
        intro X w0 E0 hE hX
        simp only [idx, List.map_nil, List.length_nil, sigA]
        refine AW_reg TB (fun D K hD hK => ?_)
        simp only [AwS, TS, AwD, aval, aIndex, aSlice, aLen, BN, BW, BS, Int.cast_ofNat_Int, spl, splice, bind, ↓reduceIte, simprocAttr]
        refine hD _ ?_
        clear hD hK D K
        refine AW_seq ?_
        refine AW_dreg TB mx ([[], [0], [1, 0], [2, 1, 0], [3, 2, 1, 0], [4, 3, 2, 1, 0], [5, 4, 3, 2, 1, 0], [3, 2, 1, 0, 6, 5, 4], [7, 3, 2, 1, 0, 6, 5, 4], [8, 7, 3, 2, 1, 0, 6, 5, 4], [9, 8, 7, 3, 2, 1, 0, 6, 5, 4], [8, 7, 3, 2, 1, 0, 6, 5, 4], [11, 8, 7, 3, 2, 1, 0, 6, 5, 4], [10, 9, 8, 7, 3, 2, 1, 0, 6, 5, 4, 12, 11], [8, 7, 3, 2, 1, 0, 6, 5, 4, 13, 10, 9, 12, 11]]) (by kernel_rfl) (by kernel_rfl) (fun D K hD hK => ?_)
        simp only [AwS, TS, AwD, aval, aIndex, aSlice, aLen, BN, BW, BS, Int.cast_ofNat_Int, spl, splice, bind, ↓reduceIte, simprocAttr, Op.operands, Call.operands, List.toList_toArray, List.size_toArray, cmp, List.getD_cons_zero, List.getD_cons_succ, Array.toList_append, Option.toArray, List.append_toArray,]
        refine hK _ _ _ _ ?_
        clear hD hK D K
        have vs := valid_spec (n : Int)
        rw [h4] at vs
        refine DL_callP rfl rfl rfl rfl rfl en_51 vs [] ?_ (by simp) rfl rfl rfl ?_
        · simp [evs, St.ev, cav, alook, lendA, lentBx, lendC, blook, AVs.map, AV.map, ioMap]
        refine DL_rest TB rfl (fun D K hD hK => ?_)
        simp only [AwS, TS, AwD, aval, aIndex, aSlice, aLen, BN, BW, BS, Int.cast_ofNat_Int, spl, splice, bind, ↓reduceIte, simprocAttr, Op.operands, Call.operands, List.toList_toArray, List.size_toArray, cmp, List.getD_cons_zero, List.getD_cons_succ, Array.toList_append, Option.toArray, List.append_toArray, e1, e2, hsl]
        refine hD _ ?_
        clear hD hK D K
        refine AW_false rfl (AW_skip ?_)
        simp only [seqQ]
        have m1 : (m.map bw).length = 16 := by simp [hm]
        have m2 : List.take 16 (m.map bw) = m.map bw := List.take_of_length_le (by simp [hm])
        have r1 : (root.map bw).length = 16 := by simp [hr]
        have r2 : List.take 16 (root.map bw) = root.map bw := List.take_of_length_le (by simp [hr])
        have rs := recover_spec m ch kc hm hc lc
        refine AW_reg TB (fun D K hD hK => ?_)
        simp only [AwS, TS, AwD, aval, aIndex, aSlice, aLen, BN, BW, BS, Int.cast_ofNat_Int, spl, splice, bind, ↓reduceIte, simprocAttr, m1, m2]
        refine hK _ _ ?_
        clear hD hK D K
        refine AL_callG rfl rfl rfl rfl en_29 rs [] ?_ (by simp) (by simp) (by simp only [AV.map, AVs.map, bws_map]) (by simp [alook, AV.map, cs_map, wws_map]) ?_
        · simp [evs, St.ev, cav, alook, lendA, lentBx, lendC, blook, AVs.map, AV.map, ioMap, bws_map, fl_map]
        by_cases hl : ch.length = 68
        · have hrR : recR m ch = (recW m ch, 0) := if_pos hl
          rw [hrR]
          have hdl : (recW m ch).length = 16 := keyOf_len _
          have mv := verify_spec kp root N j (recW m ch) ps hr hdl hp lp' (by omega) (by omega)
          have hv2 : verT root n m j ch ps = verM root N j (recW m ch) ps := by rw [hv, decide_eq_true hl, Bool.true_and]
          generalize recW m ch = D0 at *
          have z1 : spl (List.replicate 16 (.val (.int .u8 0))) 0 (D0.map bw) = D0.map bw := spl_all (by simp [hdl]) (by simp [hdl])
          simp only [List.replicate] at z1
          have z2 : List.take 16 (D0.map bw) = D0.map bw := List.take_of_length_le (by simp [hdl])
          have z3 : (D0.map bw).length = 16 := by simp [hdl]
          refine AL_runR TB _ _ (fun D K hD hK => ?_)
          simp only [AwS, TS, AwD, aval, aIndex, aSlice, aLen, BN, BW, BS, Int.cast_ofNat_Int, spl, splice, bind, ↓reduceIte, simprocAttr, z1, z3, bws_cell, bws_map, fl_map, -spl]
          refine hD _ ?_
          clear hD hK D K
          refine AW_dreg TB mx ([[], [0], [1, 0], [2, 1, 0], [2, 1, 0], [4, 2, 1, 0], [2, 1, 0], [6, 2, 1, 0], [2, 1, 0], [2, 1, 0], [9, 2, 1, 0], [3, 2, 1, 0, 5, 4, 7, 6, 8, 10, 9], [2, 1, 0, 11, 3, 5, 4, 7, 6, 8, 10, 9], [12, 2, 1, 0, 11, 3, 5, 4, 7, 6, 8, 10, 9]]) (by kernel_rfl) (by kernel_rfl) (fun D K hD hK => ?_)
          simp only [AwS, TS, AwD, aval, aIndex, aSlice, aLen, BN, BW, BS, Int.cast_ofNat_Int, spl, splice, bind, ↓reduceIte, simprocAttr, Op.operands, Call.operands, List.toList_toArray, List.size_toArray, cmp, List.getD_cons_zero, List.getD_cons_succ, Array.toList_append, Option.toArray, List.append_toArray,  r1, r2, z2, z3, hsl]
          refine hK _ _ _ _ ?_
          clear hD hK D K
          refine DL_callPW rfl rfl (.inr ⟨2, _, true, rfl, rfl, rfl⟩) rfl rfl en_56 mv [] ?_ (by simp) (by simp [alook, AV.map, cs_map, wws_map]) rfl rfl rfl ?_
          · simp [evs, St.ev, cav, alook, lendA, lentBx, lendC, blook, AVs.map, AV.map, ioMap, bws_map, fl_map]
          refine DL_rest TB rfl (fun D K hD hK => ?_)
          simp only [AwS, TS, AwD, aval, aIndex, aSlice, aLen, BN, BW, BS, Int.cast_ofNat_Int, spl, splice, bind, ↓reduceIte, simprocAttr, Op.operands, Call.operands, List.toList_toArray, List.size_toArray, cmp, List.getD_cons_zero, List.getD_cons_succ, Array.toList_append, Option.toArray, List.append_toArray]
          refine hD _ ?_
          clear hD hK D K
          refine AW_ret ?_
          simp only [Ret]
          refine retp (bv (verM root N j D0 ps)) rfl ?_ rfl (by rw [hv2])
          simp [resOf, resAll, resAV, alook, blook, AV.known, loadC, AwS, TS, TD.isAgg]
        · have hrR : recR m ch = (zD, 9) := if_neg hl
          rw [hrR]
          have hv2 : verT root n m j ch ps = false := by rw [hv, decide_eq_false hl, Bool.false_and]
          have hdl : zD.length = 16 := by simp [zD]
          generalize zD = D0 at *
          have z1 : spl (List.replicate 16 (.val (.int .u8 0))) 0 (D0.map bw) = D0.map bw := spl_all (by simp [hdl]) (by simp [hdl])
          simp only [List.replicate] at z1
          have z2 : List.take 16 (D0.map bw) = D0.map bw := List.take_of_length_le (by simp [hdl])
          have z3 : (D0.map bw).length = 16 := by simp [hdl]
          refine AL_runR TB _ _ (fun D K hD hK => ?_)
          simp only [AwS, TS, AwD, aval, aIndex, aSlice, aLen, BN, BW, BS, Int.cast_ofNat_Int, spl, splice, bind, ↓reduceIte, simprocAttr, z1, z3, bws_cell, bws_map, fl_map, -spl]
          refine hD _ ?_
          clear hD hK D K
          refine AW_dreg TB mx ([[], [0], [1, 0], [2, 1, 0], [2, 1, 0], [4, 2, 1, 0], [2, 1, 0], [6, 2, 1, 0], [2, 1, 0], [2, 1, 0], [9, 2, 1, 0], [3, 2, 1, 0, 5, 4, 7, 6, 8, 10, 9], [2, 1, 0, 11, 3, 5, 4, 7, 6, 8, 10, 9], [12, 2, 1, 0, 11, 3, 5, 4, 7, 6, 8, 10, 9]]) (by kernel_rfl) (by kernel_rfl) (fun D K hD hK => ?_)
          simp only [AwS, TS, AwD, aval, aIndex, aSlice, aLen, BN, BW, BS, Int.cast_ofNat_Int, spl, splice, bind, ↓reduceIte, simprocAttr, Op.operands, Call.operands, List.toList_toArray, List.size_toArray, cmp, List.getD_cons_zero, List.getD_cons_succ, Array.toList_append, Option.toArray, List.append_toArray,  r1, r2, z2, z3, hsl]
          refine hD _ ?_
          clear hD hK D K
          refine AW_ret ?_
          simp only [Ret]
          refine retp (bv false) rfl ?_ rfl (by rw [hv2])
          simp [resOf, resAll, resAV, alook, blook, AV.known, loadC, AwS, TS, TD.isAgg]
      · have hv : verT root n m i ch ps = false := by rw [hvt, decide_eq_false h1, Bool.false_and, Bool.and_false]
        have e2 : ((N : Int) ≤ i) = True := eq_true (by omega)
        refine spec_of TB 46 [.tmp 8] Tryd.func19 rfl rfl rfl (Nat.le_of_ble_eq_true rfl) ?_
        intro X w0 E0 hE hX
        simp only [idx, List.map_nil, List.length_nil, sigA]
        refine AW_reg TB (fun D K hD hK => ?_)
        simp only [AwS, TS, AwD, aval, aIndex, aSlice, aLen, BN, BW, BS, Int.cast_ofNat_Int, spl, splice, bind, ↓reduceIte, simprocAttr]
        refine hD _ ?_
        clear hD hK D K
        refine AW_seq ?_
        refine AW_dreg TB mx ([[], [0], [1, 0], [2, 1, 0], [3, 2, 1, 0], [4, 3, 2, 1, 0], [5, 4, 3, 2, 1, 0], [3, 2, 1, 0, 6, 5, 4], [7, 3, 2, 1, 0, 6, 5, 4], [8, 7, 3, 2, 1, 0, 6, 5, 4], [9, 8, 7, 3, 2, 1, 0, 6, 5, 4], [8, 7, 3, 2, 1, 0, 6, 5, 4], [11, 8, 7, 3, 2, 1, 0, 6, 5, 4], [10, 9, 8, 7, 3, 2, 1, 0, 6, 5, 4, 12, 11], [8, 7, 3, 2, 1, 0, 6, 5, 4, 13, 10, 9, 12, 11]]) (by kernel_rfl) (by kernel_rfl) (fun D K hD hK => ?_)
        simp only [AwS, TS, AwD, aval, aIndex, aSlice, aLen, BN, BW, BS, Int.cast_ofNat_Int, spl, splice, bind, ↓reduceIte, simprocAttr, Op.operands, Call.operands, List.toList_toArray, List.size_toArray, cmp, List.getD_cons_zero, List.getD_cons_succ, Array.toList_append, Option.toArray, List.append_toArray,]
        refine hK _ _ _ _ ?_
        clear hD hK D K
        have vs := valid_spec (n : Int)
        rw [h4] at vs
        refine DL_callP rfl rfl rfl rfl rfl en_51 vs [] ?_ (by simp) rfl rfl rfl ?_
        · simp [evs, St.ev, cav, alook, lendA, lentBx, lendC, blook, AVs.map, AV.map, ioMap]
        refine DL_rest TB rfl (fun D K hD hK => ?_)
        simp only [AwS, TS, AwD, aval, aIndex, aSlice, aLen, BN, BW, BS, Int.cast_ofNat_Int, spl, splice, bind, ↓reduceIte, simprocAttr, Op.operands, Call.operands, List.toList_toArray, List.size_toArray, cmp, List.getD_cons_zero, List.getD_cons_succ, Array.toList_append, Option.toArray, List.append_toArray, e1, e2, hsl]
        refine hD _ ?_
        clear hD hK D K
        refine AW_true rfl ?_
        refine AW_reg TB (fun D K hD hK => ?_)
        simp only [AwS, TS, AwD, aval, aIndex, aSlice, aLen, BN, BW, BS, Int.cast_ofNat_Int, spl, splice, bind, ↓reduceIte, simprocAttr]
        refine hD _ ?_
        clear hD hK D K
        refine AW_ret ?_
        simp only [Ret, seqQ]
        refine retp (bv false) rfl ?_ rfl (by rw [hv])
        simp [resOf, resAll, resAV, alook, blook, AV.known, loadC, AwS, TS, TD.isAgg]
  · have h4 : (decide (0 ≤ h) && decide (h ≤ 4)) = false := by
      rcases Decidable.em (0 ≤ h) with a | a
      · have : ¬ h ≤ 4 := fun b => hb ⟨a, b⟩
        simp [this]
      · simp [a]
    have hv : verT root h m i ch ps = false := by unfold verT; rw [h4, Bool.false_and]
    refine spec_of TB 46 [.tmp 8] Tryd.func19 rfl rfl rfl (Nat.le_of_ble_eq_true rfl) ?_
    intro X w0 E0 hE hX
    simp only [idx, List.map_nil, List.length_nil, sigA]
    refine AW_reg TB (fun D K hD hK => ?_)
    simp only [AwS, TS, AwD, aval, aIndex, aSlice, aLen, BN, BW, BS, Int.cast_ofNat_Int, spl, splice, bind, ↓reduceIte, simprocAttr]
    refine hD _ ?_
    clear hD hK D K
    refine AW_seq ?_
    refine AW_dreg TB mx ([[], [0], [1, 0], [2, 1, 0], [3, 2, 1, 0], [4, 3, 2, 1, 0], [5, 4, 3, 2, 1, 0], [3, 2, 1, 0, 6, 5, 4], [7, 3, 2, 1, 0, 6, 5, 4], [8, 7, 3, 2, 1, 0, 6, 5, 4], [9, 8, 7, 3, 2, 1, 0, 6, 5, 4], [8, 7, 3, 2, 1, 0, 6, 5, 4], [11, 8, 7, 3, 2, 1, 0, 6, 5, 4], [10, 9, 8, 7, 3, 2, 1, 0, 6, 5, 4, 12, 11], [8, 7, 3, 2, 1, 0, 6, 5, 4, 13, 10, 9, 12, 11]]) (by kernel_rfl) (by kernel_rfl) (fun D K hD hK => ?_)
    simp only [AwS, TS, AwD, aval, aIndex, aSlice, aLen, BN, BW, BS, Int.cast_ofNat_Int, spl, splice, bind, ↓reduceIte, simprocAttr, Op.operands, Call.operands, List.toList_toArray, List.size_toArray, cmp, List.getD_cons_zero, List.getD_cons_succ, Array.toList_append, Option.toArray, List.append_toArray,]
    refine hK _ _ _ _ ?_
    clear hD hK D K
    have vs := valid_spec h
    rw [h4] at vs
    refine DL_callP rfl rfl rfl rfl rfl en_51 vs [] ?_ (by simp) rfl rfl rfl ?_
    · simp [evs, St.ev, cav, alook, lendA, lentBx, lendC, blook, AVs.map, AV.map, ioMap]
    refine DL_rest TB rfl (fun D K hD hK => ?_)
    simp only [AwS, TS, AwD, aval, aIndex, aSlice, aLen, BN, BW, BS, Int.cast_ofNat_Int, spl, splice, bind, ↓reduceIte, simprocAttr, Op.operands, Call.operands, List.toList_toArray, List.size_toArray, cmp, List.getD_cons_zero, List.getD_cons_succ, Array.toList_append, Option.toArray, List.append_toArray]
    refine hD _ ?_
    clear hD hK D K
    refine AW_true rfl ?_
    refine AW_reg TB (fun D K hD hK => ?_)
    simp only [AwS, TS, AwD, aval, aIndex, aSlice, aLen, BN, BW, BS, Int.cast_ofNat_Int, spl, splice, bind, ↓reduceIte, simprocAttr]
    refine hD _ ?_
    clear hD hK D K
    refine AW_ret ?_
    simp only [Ret, seqQ]
    refine retp (bv false) rfl ?_ rfl (by rw [hv])
    simp [resOf, resAll, resAV, alook, blook, AV.known, loadC, AwS, TS, TD.isAgg]
end Go.Proofs.YtgbpgplkhifgiaaDoor
