/- The walks of treesig's keys and leaves. No condition. -/
import Derived.Test.YtgbpgplkhifgiaaDoorMU
set_option linter.unusedVariables false
set_option linter.unusedSimpArgs false
set_option maxRecDepth 100000
namespace Go.Proofs.YtgbpgplkhifgiaaDoor
open Go Go.RowKit

def pubs (seed : List UInt8) (n : Nat) : List (List UInt8) := (List.range n).map fun (i : Nat) => pubW seed i
theorem pubs_succ (seed : List UInt8) (n : Nat) : pubs seed (n + 1) = pubs seed n ++ [pubW seed n] := by simp [pubs, List.range_succ]
theorem pubs_len (seed : List UInt8) (n : Nat) : (pubs seed n).length = n := by simp [pubs]
theorem pubs_16 (seed : List UInt8) (n : Nat) : All16 (pubs seed n) := by
  intro d hd
  obtain ⟨k, _, rfl⟩ := List.mem_map.1 hd
  exact keyOf_len _

theorem keys_spec (seed : List UInt8) (h : Int) : Spec Tryd.prog [] 89 [.agg (seed.map bw), iv h] [] (fun o => o = .ret (.clo 116 [.ptr 0 0, .ptr 1 0]) [] [[iv h], seed.map bw]) := by
  refine spec_of TB 6 [.tmp 4] Tryd.func89 rfl rfl rfl (Nat.le_of_ble_eq_true rfl) ?_
  intro X w0 E0 hE hX
  simp only [idx, List.map_nil, List.length_nil]
  refine AW_reg TB (fun D K hD hK => ?_)
  simp only [AwS, TS, AwD, aval, aIndex, aSlice, aLen, BN, BW, BS, Int.cast_ofNat_Int, spl, splice, bind, ↓reduceIte, simprocAttr]
  refine hD _ ?_
  clear hD hK D K
  refine AW_reg TB (fun D K hD hK => ?_)
  simp only [AwS, TS, AwD, aval, aIndex, aSlice, aLen, BN, BW, BS, Int.cast_ofNat_Int, spl, splice, bind, ↓reduceIte, simprocAttr]
  refine hD _ ?_
  clear hD hK D K
  refine AW_ret ?_
  simp only [Ret]
  refine ⟨.clo 116 [.ptr 0 0, .ptr 1 0], [], [[iv h], seed.map bw], [(0, 8), (1, 0)], rfl, ?_, ?_, rfl⟩
  · simp [resOf, resAll, resAV, alook, blook, AV.known, loadC, AwS, TS, TD.isAgg, AV.map, AVs.map, nmap]
  · refine ⟨rfl, by simp [leftSt], ⟨rfl, rfl⟩, by simp [leftSt], ?_, by simp [leftSt], by simp [leftSt, idx, nmap], by simp⟩
    simp [leftSt, idx, blook, nmap, AVs.map, AV.map, bws_map]

/-- What the variable holds that collects the keys, and its backing box (named b). -/
def outV (b i : Nat) : List AV := if i = 0 then [.val (.slice none 0 0)] else [.sl b 0 i 16 (some 23)]
def outG (seed : List UInt8) (i : Nat) : List (List AV) := if i = 0 then [] else [fl (pubs seed i)]

def YRound (c : Yc) (seed : List UInt8) (i : Nat) : Prop :=
  SpecV (YCall Tryd.prog) glS [.agg ((pubW seed i).map bw), .yld c [.ptr 0 0]] [outV 1 i] (outG seed i) (fun o => o = .ret (bv true) [outV 1 (i + 1)] (outG seed (i + 1)))

def it1F (c : Yc) (seed : List UInt8) (h n i : Nat) : St :=
  { nt := 17, nx := 4, tm := [(7, iv i), (6, iv n), (0, .yld c [.ptr 2 0]), (1, .ptr 0 0), (2, .ptr 1 0)],
    bx := [(0, some [iv h]), (1, some (seed.map bw)), (2, some (outV 3 i))] ++ (outG seed i).map (fun g => (3, some g)), gl := glS, df := [] }

theorem keys1_spec (c : Yc) (seed : List UInt8) (h : Nat) (hh : h ≤ 10) (hs : seed.length = 16) (hy : ∀ i, i < 2 ^ h → YRound c seed i) :
    SpecV (Calls Tryd.prog 116) glS [.yld c [.ptr 2 0], .ptr 0 0, .ptr 1 0] [[iv h], seed.map bw, outV 3 0] [] (fun o => o = .ret (.tup []) [[iv h], seed.map bw, outV 3 (2 ^ h)] (outG seed (2 ^ h))) := by
  refine spec_ofV TB 17 [] Tryd.func116 rfl rfl rfl (Nat.le_of_ble_eq_true rfl) ?_
  intro X w0 E0 hro hE
  have hKm : ∀ f : Nat → Nat, AVs.map f (KS.map ww) = KS.map ww := fun f => wws_map f _
  have hp1 : 1 ≤ 2 ^ h := Nat.one_le_two_pow
  have hp2 : 2 ^ h ≤ 2 ^ 10 := Nat.pow_le_pow_right (by omega) hh
  have hsh : (if (h : Int) < 0 then none else some (Value.int IntKind.i64 (IntKind.i64.wrap (1 * 2 ^ (min (h : Int).toNat 64))))) = some (.int .i64 ((2 ^ h : Nat) : Int)) := by
    rw [if_neg (by omega), Int.toNat_natCast, Nat.min_eq_left (by omega), Int.one_mul]
    have : ((2 : Int) ^ h) = ((2 ^ h : Nat) : Int) := by simp
    rw [this, wrap_i64 (by omega) (by omega)]
  have hsl : aBin .shl (.int .i64 1) (.int .i64 (h : Int)) = some (.int .i64 ((2 ^ h : Nat) : Int)) := hsh
  simp only [idx, List.map_nil, List.length_nil, List.append_nil, List.map_cons, List.length_cons]
  generalize hN : 2 ^ h = N at *
  refine AW_reg TB (fun D K hD hK => ?_)
  simp only [AwS, TS, AwD, aval, aIndex, aSlice, aLen, BN, BW, BS, Int.cast_ofNat_Int, spl, splice, bind, ↓reduceIte, simprocAttr, hsl]
  refine hD _ ?_
  clear hD hK D K
  refine AW_block ?_
  refine AW_loop (it1F c seed h N) (fun i => i ≤ N) (fun i => N - i) hE 0 [(0, 0), (1, 1), (2, 2)] (by omega) ?_ ?_
  · refine ⟨rfl, by simp [it1F, outG, outV, alook, AV.map, AVs.map, hKm, cs_map, bws_map], ⟨rfl, rfl⟩, ?_, ?_, by simp [it1F, outG, outV], by simp [it1F, outG, outV, nmap], ?_⟩
    · simp [it1F, outG, outV, alook, AV.map, AVs.map, nmap, AVs_map_append, ivs_map, yvs_map, hKm, cs_map, bws_map]
    · simp [it1F, outG, outV, blook, AV.map, AVs.map, nmap, AVs_map_append, ivs_map, yvs_map, hKm, cs_map, bws_map]
    · intro k hk
      have hk2 : k < 3 := hk
      rcases k with _ | _ | _ | k <;> first | rfl | omega
  intro i hi
  simp only [it1F]
  refine AW_reg TB (fun D K hD hK => ?_)
  simp only [AwS, TS, AwD, aval, aIndex, aSlice, aLen, BN, BW, BS, Int.cast_ofNat_Int, spl, splice, bind, ↓reduceIte, simprocAttr]
  refine hD _ ?_
  clear hD hK D K
  refine AW_seq ?_
  refine AW_cond rfl (fun hi1 => AW_skip ?_) (fun hi1 => AW_exit ?_)
  · have hlt : i < N := by
      have : ((i : Nat) : Int) < (N : Int) := by simpa using hi1
      omega
    simp only [seqQ]
    refine AW_seqk (fun K1 hK1 => ?_)
    refine AW_block ?_
    have hyi := hy i hlt
    have s1 : (16 ≤ seed.length) = True := by simp; omega
    have s2 : List.take 16 (seed.map bw) = seed.map bw := List.take_of_length_le (by simp; omega)
    rcases Nat.eq_zero_or_pos i with hi0 | hi0
    · subst hi0
      simp only [YRound, outG, outV, ↓reduceIte, Nat.add_eq_zero_iff, Nat.one_ne_zero, and_false, List.map_nil, List.append_nil] at hyi ⊢
      refine AW_reg TB (fun D K hD hK => ?_)
      simp only [AwS, TS, AwD, aval, aIndex, aSlice, aLen, BN, BW, BS, Int.cast_ofNat_Int, spl, splice, bind, ↓reduceIte, simprocAttr]
      refine hD _ ?_
      clear hD hK D K
      refine AW_reg TB (fun D K hD hK => ?_)
      simp only [AwS, TS, AwD, aval, aIndex, aSlice, aLen, BN, BW, BS, Int.cast_ofNat_Int, spl, splice, bind, ↓reduceIte, simprocAttr, s1, s2]
      refine hK _ _ ?_
      clear hD hK D K
      refine AL_callG rfl rfl rfl rfl en_31 (public_spec seed (0 : Nat) hs (by omega) (by omega)) [] ?_ (by simp) rfl (by simp [AV.map, bws_map]) ?_ ?_
      · simp [evs, St.ev, cav, alook, lendA, lentBx, lendC, blook, AVs.map, AV.map, ioMap, bws_map]
      · simp [alook, AV.map, cs_map, wws_map]
      refine AL_runR TB _ _ (fun D K hD hK => ?_)
      simp only [AwS, TS, AwD, aval, aIndex, aSlice, aLen, BN, BW, BS, Int.cast_ofNat_Int, spl, splice, bind, ↓reduceIte, simprocAttr, bws_map]
      refine hK _ _ ?_
      clear hD hK D K
      refine AL_yield rfl (.inl rfl) rfl rfl hyi [2] [] [] rfl rfl (by simp) (by simp) ?_ (hio_of ?_) (by simp) ?_ (fun x io' nb hR _ => ?_)
      · simp [evs, St.ev, cav, alook, lendA, lentBx, lendC, blook, AVs.map, AV.map, ioMap, bws_map]
      · simp [blook, AVs.map, AV.map]
      · simp [alook, AV.map, cs_map, wws_map]
      simp only [Out.ret.injEq] at hR
      obtain ⟨rfl, rfl, rfl⟩ := hR
      refine ⟨rfl, by simp, ?_⟩
      simp only [St.behindG]
      refine AL_runR TB _ _ (fun D K hD hK => ?_)
      simp only [AwS, TS, AwD, aval, aIndex, aSlice, aLen, BN, BW, BS, Int.cast_ofNat_Int, spl, splice, bind, ↓reduceIte, simprocAttr, bws_map, fl_map]
      refine hD _ ?_
      clear hD hK D K
      simp only [seqQ]
      refine AW_false rfl (AW_skip ?_)
      refine hK1 _ ?_
      refine AW_regl TB (fun D K hD hK => ?_)
      simp only [AwS, TS, AwD, aval, aIndex, aSlice, aLen, BN, BW, BS, Int.cast_ofNat_Int, spl, splice, bind, ↓reduceIte, simprocAttr]
      refine hD _ ?_
      clear hD hK D K
      refine ⟨1, [(0, 0), (1, 1), (2, 2), (3, 60)], by omega, by dsimp only; omega, ?_⟩
      refine ⟨rfl, by simp [it1F, outG, outV, alook, AV.map, AVs.map, hKm, cs_map, bws_map, fl_map, show IntKind.i64.wrap 1 = 1 from rfl], ⟨rfl, rfl⟩, ?_, ?_, by simp [it1F, outG, outV], by simp [it1F, outG, outV, nmap], ?_⟩
      · simp [it1F, outG, outV, alook, AV.map, AVs.map, nmap, AVs_map_append, ivs_map, yvs_map, hKm, cs_map, bws_map, fl_map, show IntKind.i64.wrap 1 = 1 from rfl]
      · simp [it1F, outG, outV, blook, AV.map, AVs.map, nmap, AVs_map_append, ivs_map, yvs_map, hKm, cs_map, bws_map, fl_map, show IntKind.i64.wrap 1 = 1 from rfl]
      · intro k hk
        have hk2 : k < 3 := hk
        rcases k with _ | _ | _ | k <;> first | rfl | omega
    · have hi0' : (i = 0) = False := by simp; omega
      simp only [YRound, outG, outV, hi0', ↓reduceIte, Nat.add_eq_zero_iff, Nat.one_ne_zero, and_false, List.map_nil, List.append_nil, List.map_cons, List.cons_append, List.nil_append] at hyi ⊢
      refine AW_reg TB (fun D K hD hK => ?_)
      simp only [AwS, TS, AwD, aval, aIndex, aSlice, aLen, BN, BW, BS, Int.cast_ofNat_Int, spl, splice, bind, ↓reduceIte, simprocAttr]
      refine hD _ ?_
      clear hD hK D K
      refine AW_reg TB (fun D K hD hK => ?_)
      simp only [AwS, TS, AwD, aval, aIndex, aSlice, aLen, BN, BW, BS, Int.cast_ofNat_Int, spl, splice, bind, ↓reduceIte, simprocAttr, s1, s2]
      refine hK _ _ ?_
      clear hD hK D K
      refine AL_callG rfl rfl rfl rfl en_31 (public_spec seed (i : Nat) hs (by omega) (by omega)) [] ?_ (by simp) rfl (by simp [AV.map, bws_map]) ?_ ?_
      · simp [evs, St.ev, cav, alook, lendA, lentBx, lendC, blook, AVs.map, AV.map, ioMap, bws_map]
      · simp [alook, AV.map, cs_map, wws_map]
      refine AL_runR TB _ _ (fun D K hD hK => ?_)
      simp only [AwS, TS, AwD, aval, aIndex, aSlice, aLen, BN, BW, BS, Int.cast_ofNat_Int, spl, splice, bind, ↓reduceIte, simprocAttr, bws_map]
      refine hK _ _ ?_
      clear hD hK D K
      refine AL_yield rfl (.inl rfl) rfl rfl hyi [2] [3] [] rfl rfl (by simp) (by simp) ?_ (hio_of ?_) (by simp) ?_ (fun x io' nb hR _ => ?_)
      · simp [evs, St.ev, cav, alook, lendA, lentBx, lendC, blook, AVs.map, AV.map, ioMap, bws_map]
      · simp [blook, AVs.map, AV.map, fl_map]
        rfl
      · simp [alook, AV.map, cs_map, wws_map]
      simp only [Out.ret.injEq] at hR
      obtain ⟨rfl, rfl, rfl⟩ := hR
      refine ⟨rfl, by simp, ?_⟩
      simp only [St.behindG]
      refine AL_runR TB _ _ (fun D K hD hK => ?_)
      simp only [AwS, TS, AwD, aval, aIndex, aSlice, aLen, BN, BW, BS, Int.cast_ofNat_Int, spl, splice, bind, ↓reduceIte, simprocAttr, bws_map, fl_map]
      refine hD _ ?_
      clear hD hK D K
      simp only [seqQ]
      refine AW_false rfl (AW_skip ?_)
      refine hK1 _ ?_
      have w2 : IntKind.i64.wrap ((i : Int) + 1) = (i : Int) + 1 := wrap_i64 (by omega) (by omega)
      refine AW_regl TB (fun D K hD hK => ?_)
      simp only [AwS, TS, AwD, aval, aIndex, aSlice, aLen, BN, BW, BS, Int.cast_ofNat_Int, spl, splice, bind, ↓reduceIte, simprocAttr, w2]
      refine hD _ ?_
      clear hD hK D K
      refine ⟨i + 1, [(0, 0), (1, 1), (2, 2), (3, 60)], by omega, by dsimp only; omega, ?_⟩
      refine ⟨rfl, by simp [it1F, outG, outV, alook, AV.map, AVs.map, hKm, cs_map, bws_map, fl_map], ⟨rfl, rfl⟩, ?_, ?_, by simp [it1F, outG, outV], by simp [it1F, outG, outV, nmap], ?_⟩
      · simp [it1F, outG, outV, alook, AV.map, AVs.map, nmap, AVs_map_append, ivs_map, yvs_map, hKm, cs_map, bws_map, fl_map]
      · simp [it1F, outG, outV, blook, AV.map, AVs.map, nmap, AVs_map_append, ivs_map, yvs_map, hKm, cs_map, bws_map, fl_map]
      · intro k hk
        have hk2 : k < 3 := hk
        rcases k with _ | _ | _ | k <;> first | rfl | omega
  · have hge : i = N := by
      have : ¬ ((i : Nat) : Int) < (N : Int) := by simpa using hi1
      omega
    subst hge
    have hi0' : (i = 0) = False := by simp; omega
    simp only [seqQ, loopQ, blockQ, ↓reduceIte, RetX, outG, outV, hi0']
    refine ⟨.tup [], [[iv h], seed.map bw, [.sl 3 0 i 16 (some 23)]], [fl (pubs seed i)], [(0, 0), (1, 1), (2, 2), (3, 3)], rfl, ?_, ?_, rfl⟩
    · simp [resOf, resAll, resAV, alook, blook, AV.known, loadC, AwS, TS, TD.isAgg, AV.map, AVs.map, nmap]
    · refine ⟨rfl, by simp [leftSt], ⟨rfl, rfl⟩, by simp [leftSt], ?_, by simp [leftSt], by simp [leftSt, idx, nmap], ?_⟩
      · simp [leftSt, idx, blook, nmap, AVs.map, AV.map, bws_map, fl_map]
      · intro k hk
        have hk' : k < 3 := hk
        rcases (show k = 0 ∨ k = 1 ∨ k = 2 by omega) with rfl | rfl | rfl <;> rfl

end Go.Proofs.YtgbpgplkhifgiaaDoor

/- The walk of leaves. No condition. -/
set_option linter.unusedVariables false
set_option linter.unusedSimpArgs false
set_option maxRecDepth 100000
namespace Go.Proofs.YtgbpgplkhifgiaaDoor
open Go Go.RowKit

theorem outV_kept (b i : Nat) : AVs.kept (outV b i) = true := by
  unfold outV
  split <;> rfl
theorem outV_ne (b i : Nat) : outV b i ≠ [] := by
  unfold outV
  split <;> simp
theorem outG_kept (seed : List UInt8) (i : Nat) : ∀ cs ∈ outG seed i, AVs.kept cs = true := by
  intro cs hc
  unfold outG at hc
  split at hc
  · simp at hc
  · simp only [List.mem_singleton] at hc
    subst hc
    exact fl_kept _

theorem pubs_fl (seed : List UInt8) (i : Nat) : fl (pubs seed (i + 1)) = fl (pubs seed i) ++ (pubW seed i).map bw := by rw [pubs_succ, fl_app, fl_one]
theorem pubW_len (seed : List UInt8) (i : Int) : (pubW seed i).length = 16 := keyOf_len _

theorem leaves_spec (seed : List UInt8) (h : Nat) (hh : h ≤ 10) (hs : seed.length = 16) :
    Spec Tryd.prog glS 53 [.agg (seed.map bw), iv (h : Nat)] [] (fun o => o = .ret (.sl 0 0 (2 ^ h) 16 (some 23)) [] [fl (pubs seed (2 ^ h))]) := by
  refine spec_of_fn TB 16 [.tmp 4] Tryd.func53 rfl rfl rfl (Nat.le_of_ble_eq_true rfl) ?_
  intro X w0 E0 hro hE hX
  have hX0 : ∀ g, ¬ X g := fun g hg => by obtain ⟨q, hq, _⟩ := hX g hg; simp at hq
  have s1 : (16 ≤ seed.length) = True := by simp; omega
  have s2 : List.take 16 (seed.map bw) = seed.map bw := List.take_of_length_le (by simp; omega)
  simp only [idx, List.map_nil, List.length_nil]
  refine AW_reg TB (fun D K hD hK => ?_)
  simp only [AwS, TS, AwD, aval, aIndex, aSlice, aLen, BN, BW, BS, Int.cast_ofNat_Int, spl, splice, bind, ↓reduceIte, simprocAttr]
  refine hD _ ?_
  clear hD hK D K
  refine AW_reg TB (fun D K hD hK => ?_)
  simp only [AwS, TS, AwD, aval, aIndex, aSlice, aLen, BN, BW, BS, Int.cast_ofNat_Int, spl, splice, bind, ↓reduceIte, simprocAttr]
  refine hD _ ?_
  clear hD hK D K
  refine AW_seqk (fun K1 hK1 => ?_)
  refine AW_reg TB (fun D K hD hK => ?_)
  simp only [AwS, TS, AwD, aval, aIndex, aSlice, aLen, BN, BW, BS, Int.cast_ofNat_Int, spl, splice, bind, ↓reduceIte, simprocAttr, s1, s2]
  refine hK _ _ ?_
  clear hD hK D K
  refine AL_callD rfl rfl rfl rfl en_89 (keys_spec seed h) [] [] rfl (by simp) (by simp) ?_ (by simp) (by simp) rfl (by simp) ?_
  · simp [evs, St.ev, cav, alook, lendA, lentBx, lendC, blook, AVs.map, AV.map, ioMap, bws_map]
  refine AL_runR TB _ _ (fun D K hD hK => ?_)
  simp only [AwS, TS, AwD, aval, aIndex, aSlice, aLen, BN, BW, BS, Int.cast_ofNat_Int, spl, splice, bind, ↓reduceIte, simprocAttr, bws_map]
  refine hD _ ?_
  clear hD hK D K
  refine AW_block ?_
  refine AW_rangeFunc1 hro rfl en_116 rfl rfl (keys1_spec ⟨10, 16, _, _, [5]⟩ seed h hh hs ?_) [40, 41, 16] [] [] rfl rfl (by simp) (by simp [outV]; exact fun h => by simp [h] at hs) rfl rfl (hio_of ?_) (by simp) ?_ (fun x io' nb hR _ => ?_)
  · intro i hle
    refine spec_yield TB (show 10 < 16 by omega) (by simp [AV.kept, bws_kept]) rfl (by simp [AV.kept, wws_kept, show AVs.kept HS.cs = true from rfl]) (fun cs hc => ?_) ?_
    · rcases List.mem_append.1 hc with hc | hc
      · simp only [List.mem_singleton] at hc
        subst hc
        exact outV_kept _ _
      · exact outG_kept _ _ _ hc
    intro X w0 E0 hE
    have p1 : (16 ≤ (pubW seed i).length) = True := by simp [pubW_len]
    have p2 : List.take 16 ((pubW seed i).map bw) = (pubW seed i).map bw := List.take_of_length_le (by simp [pubW_len])
    have hpl := pubW_len seed i
    have hsp : ∀ (z : List AV) (d : List UInt8), d.length = 16 → z.length = 16 → spl z 0 (d.map bw) = d.map bw := fun z d hd hz => spl_all (by simp [hd, hz]) (by simp [hd])
    have hfl : (fl (pubs seed i)).length = i * 16 := by rw [fl_len (pubs_16 seed i), pubs_len]
    have hfs := pubs_fl seed i
    have hp10 : 2 ^ h ≤ 2 ^ 10 := Nat.pow_le_pow_right (by omega) hh
    have hi4 : (i ≤ 4294967295) = True := by simp; omega
    have hp0 : fl (pubs seed 1) = (pubW seed 0).map bw := by rw [pubs_fl]; rfl
    rcases Nat.eq_zero_or_pos i with hi0 | hi0
    · subst hi0
      have p1 : (16 ≤ (pubW seed 0).length) = True := p1
      have p2 : List.take 16 ((pubW seed 0).map bw) = (pubW seed 0).map bw := p2
      have hpl : (pubW seed 0).length = 16 := hpl
      simp only [outG, outV, ↓reduceIte, Nat.add_eq_zero_iff, Nat.one_ne_zero, and_false, List.map_nil, List.append_nil, roundSt, zipT, idx, List.map_cons, List.length_cons, List.length_nil]
      refine AW_regl TB (fun D K hD hK => ?_)
      simp only [AwS, TS, AwD, aval, aIndex, aSlice, aLen, BN, BW, BS, Int.cast_ofNat_Int, spl, splice, bind, ↓reduceIte, simprocAttr, -spl]
      refine hD _ ?_
      clear hD hK D K
      rw [hsp _ _ (pubW_len seed _) rfl]
      simp only [AwS, TS, AwD, aval, aIndex, aSlice, aLen, BN, BW, BS, Int.cast_ofNat_Int, spl, splice, bind, ↓reduceIte, simprocAttr]
      intro w0
      refine AW_block ?_
      refine AW_regl TB (fun D K hD hK => ?_)
      simp only [AwS, TS, AwD, aval, aIndex, aSlice, aLen, BN, BW, BS, Int.cast_ofNat_Int, spl, splice, bind, ↓reduceIte, simprocAttr, p1, p2, hpl, hfl, hi4, bws_cell]
      refine hD _ ?_
      clear hD hK D K
      simp only [blockQ, RoundQ]
      refine ⟨[[.sl 1 0 (0 + 1) 16 (some 23)]], [fl (pubs seed (0 + 1))], [(0, 0), (1, 41)], rfl, ?_, rfl⟩
      refine ⟨rfl, by simp [leftSt], ⟨rfl, rfl⟩, by simp [leftSt], ?_, by simp [leftSt], by simp [leftSt, idx, nmap], ?_⟩
      · simp [leftSt, idx, blook, nmap, AVs.map, AV.map, bws_map, hp0, hfs]
      · intro k hk
        have hk' : k < 1 := hk
        rcases (show k = 0 by omega) with rfl
        rfl
    · have hi0' : (i = 0) = False := by simp; omega
      simp only [outG, outV, hi0', ↓reduceIte, Nat.add_eq_zero_iff, Nat.one_ne_zero, and_false, List.cons_append, List.nil_append, List.append_nil, roundSt, zipT, idx, List.map_cons, List.map_nil, List.length_cons, List.length_nil]
      refine AW_regl TB (fun D K hD hK => ?_)
      simp only [AwS, TS, AwD, aval, aIndex, aSlice, aLen, BN, BW, BS, Int.cast_ofNat_Int, spl, splice, bind, ↓reduceIte, simprocAttr, -spl]
      refine hD _ ?_
      clear hD hK D K
      rw [hsp _ _ (pubW_len seed _) rfl]
      simp only [AwS, TS, AwD, aval, aIndex, aSlice, aLen, BN, BW, BS, Int.cast_ofNat_Int, spl, splice, bind, ↓reduceIte, simprocAttr]
      intro w0
      refine AW_block ?_
      refine AW_regl TB (fun D K hD hK => ?_)
      simp only [AwS, TS, AwD, aval, aIndex, aSlice, aLen, BN, BW, BS, Int.cast_ofNat_Int, spl, splice, bind, ↓reduceIte, simprocAttr, p1, p2, hpl, hfl, hi4, bws_cell]
      refine hD _ ?_
      clear hD hK D K
      simp only [blockQ, RoundQ]
      refine ⟨[[.sl 1 0 (i + 1) 16 (some 23)]], [fl (pubs seed (i + 1))], [(0, 0), (1, 42)], rfl, ?_, rfl⟩
      refine ⟨rfl, by simp [leftSt], ⟨rfl, rfl⟩, by simp [leftSt], ?_, by simp [leftSt], by simp [leftSt, idx, nmap], ?_⟩
      · simp [leftSt, idx, blook, nmap, AVs.map, AV.map, bws_map, ← hfs, fl_map]
      · intro k hk
        have hk' : k < 1 := hk
        rcases (show k = 0 by omega) with rfl
        rfl
  · simp [blook, outV, bws_map, AVs.map, AV.map]
  · simp [alook, AV.map, cs_map, wws_map]
  simp only [Out.ret.injEq] at hR
  obtain ⟨rfl, rfl, rfl⟩ := hR
  have hp1 : 1 ≤ 2 ^ h := Nat.one_le_two_pow
  have hp0 : (2 ^ h = 0) = False := by simp
  simp only [outV, outG, hp0, ↓reduceIte]
  generalize hN : 2 ^ h = N at *
  refine ⟨by simp [keptAll, AV.kept, AVs.kept, bws_kept, fl_kept], by simp, ?_⟩
  simp only [blockQ, kQ]
  refine hK1 _ ?_
  simp only [St.behindG, zipIo, newIo, List.map_nil, List.nil_append, AVs.map, AV.map, bws_map, fl_map]
  refine AW_reg TB (fun D K hD hK => ?_)
  simp only [AwS, TS, AwD, aval, aIndex, aSlice, aLen, BN, BW, BS, Int.cast_ofNat_Int, spl, splice, bind, ↓reduceIte, simprocAttr]
  refine hD _ ?_
  clear hD hK D K
  refine AW_ret ?_
  simp only [Ret]
  refine ⟨.sl 0 0 N 16 (some 23), [], [fl (pubs seed N)], [(0, 48)], rfl, ?_, ?_, rfl⟩
  · simp [resOf, resAll, resAV, alook, blook, AV.known, loadC, AwS, TS, TD.isAgg, AV.map, AVs.map, nmap]
  · refine ⟨rfl, by simp [leftSt], ⟨rfl, rfl⟩, by simp [leftSt], ?_, by simp [leftSt], by simp [leftSt, idx, nmap], by simp⟩
    simp [leftSt, idx, blook, nmap, AVs.map, AV.map, fl_map]

end Go.Proofs.YtgbpgplkhifgiaaDoor

/- The walks of valid, treesig.Root. No condition. -/
set_option linter.unusedVariables false
set_option linter.unusedSimpArgs false
set_option maxRecDepth 100000
namespace Go.Proofs.YtgbpgplkhifgiaaDoor
open Go Go.RowKit

theorem valid_spec (h : Int) : Spec Tryd.prog [] 51 [iv h] [] (fun o => o = .ret (bv (decide (0 ≤ h) && decide (h ≤ 4))) [] []) := by
  refine spec_of TB 9 [.tmp 2] Tryd.func51 rfl rfl rfl (Nat.le_of_ble_eq_true rfl) ?_
  intro X w0 E0 hE hX
  simp only [idx, List.map_nil, List.length_nil]
  refine AW_reg TB (fun D K hD hK => ?_)
  simp only [AwS, TS, AwD, aval, aIndex, aSlice, aLen, BN, BW, BS, Int.cast_ofNat_Int, spl, splice, bind, ↓reduceIte, simprocAttr]
  refine hD _ ?_
  clear hD hK D K
  rcases Decidable.em (0 ≤ h) with h0 | h0
  · have h1 : (0 ≤ h) = True := by simp [h0]
    refine AW_reg TB (fun D K hD hK => ?_)
    simp only [AwS, TS, AwD, aval, aIndex, aSlice, aLen, BN, BW, BS, Int.cast_ofNat_Int, spl, splice, bind, ↓reduceIte, simprocAttr, h1]
    refine hD _ ?_
    clear hD hK D K
    refine AW_ret ?_
    simp only [Ret]
    refine retp (bv (decide (0 ≤ h) && decide (h ≤ 4))) rfl ?_ rfl rfl
    simp only [resOf, resAll, resAV, AwS, TS, AwD, aval, aIndex, aSlice, aLen, BN, BW, BS, Int.cast_ofNat_Int, spl, splice, bind, ↓reduceIte, simprocAttr, h1, decide_true, Bool.true_and]
  · have h1 : (0 ≤ h) = False := by simp [h0]
    refine AW_reg TB (fun D K hD hK => ?_)
    simp only [AwS, TS, AwD, aval, aIndex, aSlice, aLen, BN, BW, BS, Int.cast_ofNat_Int, spl, splice, bind, ↓reduceIte, simprocAttr, h1]
    refine hD _ ?_
    clear hD hK D K
    refine AW_ret ?_
    simp only [Ret]
    refine retp (bv (decide (0 ≤ h) && decide (h ≤ 4))) rfl ?_ rfl rfl
    simp only [resOf, resAll, resAV, AwS, TS, AwD, aval, aIndex, aSlice, aLen, BN, BW, BS, Int.cast_ofNat_Int, spl, splice, bind, ↓reduceIte, simprocAttr, h1, decide_false, Bool.false_and]

def rootW (seed : List UInt8) (h : Nat) : List UInt8 := mroot (pubs seed (2 ^ h))

theorem rootT_spec (seed : List UInt8) (h : Nat) (hh : h ≤ 4) (hs : seed.length = 16) :
    Spec Tryd.prog glS 17 [.agg (seed.map bw), iv (h : Nat)] [] (fun o => o = .ret (.tup [.agg ((rootW seed h).map bw), .val (.int .i64 0)]) [] []) := by
  refine spec_of TB 14 [.cell 4 23, .tmp 5] Tryd.func17 rfl rfl rfl (Nat.le_of_ble_eq_true rfl) ?_
  intro X w0 E0 hE hX
  have s1 : (16 ≤ seed.length) = True := by simp; omega
  have s2 : List.take 16 (seed.map bw) = seed.map bw := List.take_of_length_le (by simp; omega)
  have h4 : (decide ((0 : Int) ≤ (h : Int)) && decide ((h : Int) ≤ 4)) = true := by simp; omega
  simp only [idx, List.map_nil, List.length_nil]
  refine AW_reg TB (fun D K hD hK => ?_)
  simp only [AwS, TS, AwD, aval, aIndex, aSlice, aLen, BN, BW, BS, Int.cast_ofNat_Int, spl, splice, bind, ↓reduceIte, simprocAttr]
  refine hD _ ?_
  clear hD hK D K
  refine AW_seq ?_
  refine AW_reg TB (fun D K hD hK => ?_)
  simp only [AwS, TS, AwD, aval, aIndex, aSlice, aLen, BN, BW, BS, Int.cast_ofNat_Int, spl, splice, bind, ↓reduceIte, simprocAttr]
  refine hK _ _ ?_
  clear hD hK D K
  have vs := valid_spec h
  rw [h4] at vs
  refine AL_callD rfl rfl rfl rfl en_51 vs [] [] rfl (by simp) (by simp) ?_ (by simp) (by simp) rfl (by simp) ?_
  · simp [evs, St.ev, cav, alook, lendA, lentBx, lendC, blook, AVs.map, AV.map, ioMap]
  refine AL_runR TB _ _ (fun D K hD hK => ?_)
  simp only [AwS, TS, AwD, aval, aIndex, aSlice, aLen, BN, BW, BS, Int.cast_ofNat_Int, spl, splice, bind, ↓reduceIte, simprocAttr]
  refine hD _ ?_
  clear hD hK D K
  refine AW_false rfl (AW_skip ?_)
  simp only [seqQ]
  refine AW_reg TB (fun D K hD hK => ?_)
  simp only [AwS, TS, AwD, aval, aIndex, aSlice, aLen, BN, BW, BS, Int.cast_ofNat_Int, spl, splice, bind, ↓reduceIte, simprocAttr, s1, s2]
  refine hK _ _ ?_
  clear hD hK D K
  refine AL_call rfl rfl rfl rfl en_53 (leaves_spec seed h (by omega) hs) [] [] rfl (by simp) (by simp) ?_ (by simp) (by simp) (by simp [alook, AV.map, cs_map, wws_map]) (fun x io' nb hR _ => ?_) (fun v io2 hR _ => by simp at hR)
  · simp [evs, St.ev, cav, alook, lendA, lentBx, lendC, blook, AVs.map, AV.map, ioMap, bws_map]
  simp only [Out.ret.injEq] at hR
  obtain ⟨rfl, rfl, rfl⟩ := hR
  refine ⟨rfl, by simp, ?_⟩
  refine AL_runR TB _ _ (fun D K hD hK => ?_)
  simp only [AwS, TS, AwD, aval, aIndex, aSlice, aLen, BN, BW, BS, Int.cast_ofNat_Int, spl, splice, bind, ↓reduceIte, simprocAttr, bws_map, fl_map]
  have hpn : (pubs seed (2 ^ h)).length = 2 ^ h := pubs_len _ _
  have hp16 := pubs_16 seed (2 ^ h)
  have hp10 : 2 ^ h ≤ 2 ^ 4 := Nat.pow_le_pow_right (by omega) hh
  have hfl : (fl (pubs seed (2 ^ h))).length = 2 ^ h * 16 := by rw [fl_len hp16, hpn]
  have rs := root_spec (2 ^ h) false (pubs seed (2 ^ h)) (by omega) (by omega) hp16
  have hdl : (rootW seed h).length = 16 := by unfold rootW; exact mroot_len _
  have hrw : mroot (pubs seed (2 ^ h)) = rootW seed h := rfl
  rw [hrw, hpn] at rs
  have lendC_fl : ∀ f, List.map (lendC f) (fl (pubs seed (2 ^ h))) = fl (pubs seed (2 ^ h)) := fun f => lendC_bws f _
  have fl_tk : List.take (2 ^ h * 16) (fl (pubs seed (2 ^ h))) = fl (pubs seed (2 ^ h)) := List.take_of_length_le (by omega)
  generalize rootW seed h = d at *
  generalize hN : 2 ^ h = N at *
  refine hK _ _ ?_
  clear hD hK D K
  refine AL_callG rfl rfl rfl rfl en_52 rs [64] ?_ (by simp [blook]) (by simp [AV.kept, bws_kept]) (by simp [AV.map, bws_map]) (by simp [alook, AV.map, cs_map, wws_map]) ?_
  · simp [evs, St.ev, cav, alook, lendA, lentBx, lendC, blook, AVs.map, AV.map, ioMap, hfl, fl_map, -List.map_map, lendC_fl, fl_tk]
  have z1 : spl (List.replicate 16 (.val (.int .u8 0))) 0 (d.map bw) = d.map bw := spl_all (by simp [hdl]) (by simp [hdl])
  simp only [List.replicate] at z1
  have z2 : List.take 16 (d.map bw) = d.map bw := List.take_of_length_le (by simp [hdl])
  have z3 : (d.map bw).length = 16 := by simp [hdl]
  refine AL_runR TB _ _ (fun D K hD hK => ?_)
  simp only [AwS, TS, AwD, aval, aIndex, aSlice, aLen, BN, BW, BS, Int.cast_ofNat_Int, spl, splice, bind, ↓reduceIte, simprocAttr, z1, z3, bws_cell, bws_map, -spl]
  refine hD _ ?_
  clear hD hK D K
  refine AW_ret ?_
  simp only [Ret]
  refine retp (.tup [.agg (d.map bw), .val (.int .i64 0)]) rfl ?_ (by simp only [AV.map, AVs.map, bws_map]) rfl
  simp only [resOf, resAll, resAV, AwS, TS, AwD, aval, aIndex, aSlice, aLen, BN, BW, BS, Int.cast_ofNat_Int, spl, splice, bind, ↓reduceIte, simprocAttr, z2, z3]

theorem rootT_bad (seed : List UInt8) (h : Int) (hh : ¬ (0 ≤ h ∧ h ≤ 4)) :
    Spec Tryd.prog glS 17 [.agg (seed.map bw), iv h] [] (fun o => o = .ret (.tup [.agg (zB 16), .val (.int .i64 1)]) [] []) := by
  refine spec_of TB 14 [.cell 4 23, .tmp 5] Tryd.func17 rfl rfl rfl (Nat.le_of_ble_eq_true rfl) ?_
  intro X w0 E0 hE hX
  have h4 : (decide ((0 : Int) ≤ h) && decide (h ≤ 4)) = false := by
    rcases Decidable.em (0 ≤ h) with a | a
    · have : ¬ h ≤ 4 := fun b => hh ⟨a, b⟩
      simp [this]
    · simp [a]
  simp only [idx, List.map_nil, List.length_nil]
  refine AW_reg TB (fun D K hD hK => ?_)
  simp only [AwS, TS, AwD, aval, aIndex, aSlice, aLen, BN, BW, BS, Int.cast_ofNat_Int, spl, splice, bind, ↓reduceIte, simprocAttr]
  refine hD _ ?_
  clear hD hK D K
  refine AW_seq ?_
  refine AW_reg TB (fun D K hD hK => ?_)
  simp only [AwS, TS, AwD, aval, aIndex, aSlice, aLen, BN, BW, BS, Int.cast_ofNat_Int, spl, splice, bind, ↓reduceIte, simprocAttr]
  refine hK _ _ ?_
  clear hD hK D K
  have vs := valid_spec h
  rw [h4] at vs
  refine AL_callD rfl rfl rfl rfl en_51 vs [] [] rfl (by simp) (by simp) ?_ (by simp) (by simp) rfl (by simp) ?_
  · simp [evs, St.ev, cav, alook, lendA, lentBx, lendC, blook, AVs.map, AV.map, ioMap]
  refine AL_runR TB _ _ (fun D K hD hK => ?_)
  simp only [AwS, TS, AwD, aval, aIndex, aSlice, aLen, BN, BW, BS, Int.cast_ofNat_Int, spl, splice, bind, ↓reduceIte, simprocAttr]
  refine hD _ ?_
  clear hD hK D K
  refine AW_true rfl ?_
  refine AW_reg TB (fun D K hD hK => ?_)
  simp only [AwS, TS, AwD, aval, aIndex, aSlice, aLen, BN, BW, BS, Int.cast_ofNat_Int, spl, splice, bind, ↓reduceIte, simprocAttr]
  refine hD _ ?_
  clear hD hK D K
  refine AW_ret ?_
  simp only [seqQ, Ret]
  refine retp (.tup [.agg (zB 16), .val (.int .i64 1)]) rfl ?_ rfl rfl
  simp only [resOf, resAll, resAV, AwS, TS, AwD, aval, aIndex, aSlice, aLen, BN, BW, BS, Int.cast_ofNat_Int, spl, splice, bind, ↓reduceIte, simprocAttr]
  rfl

end Go.Proofs.YtgbpgplkhifgiaaDoor

/- Merkle's inclusion proofs as plain functions, and that a proof leads to the root. No condition. -/
set_option linter.unusedVariables false
set_option linter.unusedSimpArgs false
namespace Go.Proofs.YtgbpgplkhifgiaaDoor
open Go Go.RowKit

/-- The sides of the way from the root to leaf i of n. -/
def sidesOf (n i : Nat) : List Bool :=
  if h : 1 < n then
    (if i < splitM n then true :: sidesOf (splitM n) i else false :: sidesOf (n - splitM n) (i - splitM n))
  else []
termination_by n
decreasing_by
  · have := splitM_bd h; omega
  · have := splitM_bd h; omega
theorem sides_lt {n i : Nat} (h : 1 < n) (hi : i < splitM n) : sidesOf n i = true :: sidesOf (splitM n) i := by rw [sidesOf, dif_pos h, if_pos hi]
theorem sides_ge {n i : Nat} (h : 1 < n) (hi : ¬ i < splitM n) : sidesOf n i = false :: sidesOf (n - splitM n) (i - splitM n) := by rw [sidesOf, dif_pos h, if_neg hi]
theorem sides_one {n i : Nat} (h : ¬ 1 < n) : sidesOf n i = [] := by rw [sidesOf, dif_neg h]

/-- The inclusion proof of leaf i. -/
def proveM (ds : List (List UInt8)) (i : Nat) : List (List UInt8) :=
  if h : 1 < ds.length then
    (if i < splitM ds.length then proveM (ds.take (splitM ds.length)) i ++ [mroot (ds.drop (splitM ds.length))]
    else proveM (ds.drop (splitM ds.length)) (i - splitM ds.length) ++ [mroot (ds.take (splitM ds.length))])
  else []
termination_by ds.length
decreasing_by
  · have := splitM_bd h
    simp; omega
  · have := splitM_bd h
    simp; omega
theorem prove_lt {ds : List (List UInt8)} {i : Nat} (h : 1 < ds.length) (hi : i < splitM ds.length) : proveM ds i = proveM (ds.take (splitM ds.length)) i ++ [mroot (ds.drop (splitM ds.length))] := by rw [proveM, dif_pos h, if_pos hi]
theorem prove_ge {ds : List (List UInt8)} {i : Nat} (h : 1 < ds.length) (hi : ¬ i < splitM ds.length) : proveM ds i = proveM (ds.drop (splitM ds.length)) (i - splitM ds.length) ++ [mroot (ds.take (splitM ds.length))] := by rw [proveM, dif_pos h, if_neg hi]
theorem prove_one {ds : List (List UInt8)} {i : Nat} (h : ¬ 1 < ds.length) : proveM ds i = [] := by rw [proveM, dif_neg h]

def sib (b : Bool) (d p : List UInt8) : List UInt8 := if b then nodeD d p else nodeD p d
/-- The way up from digest d along the sides and the siblings. -/
def upD : List Bool → List (List UInt8) → List UInt8 → List UInt8
  | b :: bs, p :: ps, d => upD bs ps (sib b d p)
  | _, _, d => d
theorem upD_snoc : ∀ (bs : List Bool) (ps : List (List UInt8)) (d : List UInt8) (b : Bool) (p : List UInt8), bs.length = ps.length → upD (bs ++ [b]) (ps ++ [p]) d = sib b (upD bs ps d) p
  | [], [], d, b, p, _ => rfl
  | [], _ :: _, d, b, p, h => by simp at h
  | _ :: _, [], d, b, p, h => by simp at h
  | x :: bs, y :: ps, d, b, p, h => by
    have := upD_snoc bs ps (sib x d y) b p (by simpa using h)
    exact this

theorem prove_len : ∀ (m : Nat) (ds : List (List UInt8)) (i : Nat), ds.length ≤ m → (proveM ds i).length = (sidesOf ds.length i).length
  | m, ds, i, hm => by
    by_cases h : 1 < ds.length
    · have hb := splitM_bd h
      by_cases hi : i < splitM ds.length
      · rw [prove_lt h hi, sides_lt h hi]
        match m, hm with
        | m + 1, hm =>
          have := prove_len m (ds.take (splitM ds.length)) i (by simp; omega)
          rw [List.length_append, this]
          simp [Nat.min_eq_left (Nat.le_of_lt hb.2)]
        | 0, hm => omega
      · rw [prove_ge h hi, sides_ge h hi]
        match m, hm with
        | m + 1, hm =>
          have := prove_len m (ds.drop (splitM ds.length)) (i - splitM ds.length) (by simp; omega)
          rw [List.length_append, this]
          simp
        | 0, hm => omega
    · rw [prove_one h, sides_one h]; rfl

theorem prove_up : ∀ (m : Nat) (ds : List (List UInt8)) (i : Nat) (hi : i < ds.length), ds.length ≤ m → upD (sidesOf ds.length i).reverse (proveM ds i) (leafD ds[i]) = mroot ds
  | 0, ds, i, hi, hm => by omega
  | m + 1, ds, i, hi, hm => by
    by_cases h : 1 < ds.length
    · have hb := splitM_bd h
      rw [mroot_big h]
      by_cases hk : i < splitM ds.length
      · have hl : (ds.take (splitM ds.length)).length = splitM ds.length := by simp; omega
        have ih := prove_up m (ds.take (splitM ds.length)) i (by omega) (by omega)
        have hp := prove_len ds.length (ds.take (splitM ds.length)) i (by omega)
        rw [hl] at hp
        rw [prove_lt h hk, sides_lt h hk, List.reverse_cons, upD_snoc _ _ _ _ _ (by rw [hp]; simp)]
        simp only [List.getElem_take, hl] at ih
        rw [ih]
        rfl
      · have hl : (ds.drop (splitM ds.length)).length = ds.length - splitM ds.length := by simp
        have ih := prove_up m (ds.drop (splitM ds.length)) (i - splitM ds.length) (by omega) (by omega)
        have hp := prove_len ds.length (ds.drop (splitM ds.length)) (i - splitM ds.length) (by omega)
        rw [hl] at hp
        rw [prove_ge h hk, sides_ge h hk, List.reverse_cons, upD_snoc _ _ _ _ _ (by rw [hp]; simp)]
        simp only [List.getElem_drop, hl, show splitM ds.length + (i - splitM ds.length) = i by omega] at ih
        rw [ih]
        rfl
    · match ds, hi, h with
      | [d], hi, h =>
        have : i = 0 := by simpa using hi
        subst this
        rw [prove_one h, sides_one h, mroot_one]
        rfl
      | a :: b :: l, _, h => simp at h
theorem splitG_pow : ∀ (a j : Nat), splitG (2 ^ (j + a + 1)) (2 ^ j) = 2 ^ (j + a)
  | 0, j => by
    rw [splitG_ge]
    · rfl
    · rw [Nat.add_zero, Nat.pow_succ]; omega
  | a + 1, j => by
    have hp : 0 < 2 ^ j := Nat.two_pow_pos j
    rw [splitG_lt]
    · have := splitG_pow a (j + 1)
      rw [show 2 * 2 ^ j = 2 ^ (j + 1) by rw [Nat.pow_succ]; omega, show j + (a + 1) + 1 = j + 1 + a + 1 by omega, this, show j + 1 + a = j + (a + 1) by omega]
    · refine ⟨hp, ?_⟩
      rw [show j + (a + 1) + 1 = (j + 1) + (a + 1) by omega, Nat.pow_add, Nat.pow_succ 2 j]
      have : 2 ≤ 2 ^ (a + 1) := by rw [Nat.pow_succ]; have := Nat.two_pow_pos a; omega
      have h4 : 2 ^ j * 2 * 2 ≤ 2 ^ j * 2 * 2 ^ (a + 1) := Nat.mul_le_mul_left _ this
      omega
theorem splitM_pow (a : Nat) : splitM (2 ^ (a + 1)) = 2 ^ a := by
  have := splitG_pow a 0
  simpa [splitM] using this
theorem sides_pow : ∀ (a i : Nat), (sidesOf (2 ^ a) i).length = a
  | 0, i => by rw [sides_one (by simp)]; rfl
  | a + 1, i => by
    have hp := Nat.two_pow_pos a
    have h : 1 < 2 ^ (a + 1) := by rw [Nat.pow_succ]; omega
    by_cases hi : i < splitM (2 ^ (a + 1))
    · rw [sides_lt h hi, List.length_cons, splitM_pow, sides_pow a]
    · rw [sides_ge h hi, List.length_cons, splitM_pow, show 2 ^ (a + 1) - 2 ^ a = 2 ^ a by rw [Nat.pow_succ]; omega, sides_pow a]

theorem prove_le : ∀ (m : Nat) (ds : List (List UInt8)) (i : Nat), ds.length ≤ m → (proveM ds i).length ≤ ds.length
  | m, ds, i, hm => by
    by_cases h : 1 < ds.length
    · have hb := splitM_bd h
      by_cases hi : i < splitM ds.length
      · rw [prove_lt h hi]
        match m, hm with
        | m + 1, hm =>
          have := prove_le m (ds.take (splitM ds.length)) i (by simp; omega)
          simp at this ⊢
          omega
        | 0, hm => omega
      · rw [prove_ge h hi]
        match m, hm with
        | m + 1, hm =>
          have := prove_le m (ds.drop (splitM ds.length)) (i - splitM ds.length) (by simp; omega)
          simp at this ⊢
          omega
        | 0, hm => omega
    · rw [prove_one h]; simp
theorem prove_16 : ∀ (m : Nat) (ds : List (List UInt8)) (i : Nat), ds.length ≤ m → All16 (proveM ds i)
  | m, ds, i, hm => by
    by_cases h : 1 < ds.length
    · have hb := splitM_bd h
      by_cases hi : i < splitM ds.length
      · rw [prove_lt h hi]
        match m, hm with
        | m + 1, hm =>
          have := prove_16 m (ds.take (splitM ds.length)) i (by simp; omega)
          intro d hd
          rcases List.mem_append.1 hd with hd | hd
          · exact this d hd
          · simp only [List.mem_singleton] at hd
            subst hd
            exact mroot_len _
        | 0, hm => omega
      · rw [prove_ge h hi]
        match m, hm with
        | m + 1, hm =>
          have := prove_16 m (ds.drop (splitM ds.length)) (i - splitM ds.length) (by simp; omega)
          intro d hd
          rcases List.mem_append.1 hd with hd | hd
          · exact this d hd
          · simp only [List.mem_singleton] at hd
            subst hd
            exact mroot_len _
        | 0, hm => omega
    · rw [prove_one h]; intro d hd; simp at hd

end Go.Proofs.YtgbpgplkhifgiaaDoor

/- The walks of merkle's Prove and its closure. No condition. -/
set_option linter.unusedVariables false
set_option linter.unusedSimpArgs false
set_option maxRecDepth 100000
namespace Go.Proofs.YtgbpgplkhifgiaaDoor
open Go Go.RowKit

/-- What a variable holds in which digests are collected, and its backing box (named b). -/
def prV (b : Nat) (ps : List (List UInt8)) : List AV := if ps.length = 0 then [.val (.slice none 0 0)] else [.sl b 0 ps.length 16 (some 23)]
def prG (ps : List (List UInt8)) : List (List AV) := if ps.length = 0 then [] else [fl ps]
def proC : List AV := [.clo 99 [.ptr 0 0, .ptr 1 0]]



theorem prove1_spec : ∀ (n : Nat) (k : Bool) (ds : List (List UInt8)) (i : Nat), ds.length ≤ n → n ≤ 1000000 → All16 ds → i < ds.length →
    Spec Tryd.prog glS 99 [.ds k ds.length (fl ds), iv i, .ptr 0 0, .ptr 1 0] [proC, [.val (.slice none 0 0)]] (fun o => o = .ret (.tup []) [proC, prV 2 (proveM ds i)] (prG (proveM ds i))) := by
  intro n
  induction n using Nat.strongRecOn with
  | _ n ih =>
  intro k ds i hn hN h16 hi
  refine spec_of TB 48 [] Tryd.func99 rfl rfl rfl (Nat.le_of_ble_eq_true rfl) ?_
  intro X w0 E0 hE hX
  simp only [idx, List.map_cons, List.map_nil, List.length_cons, List.length_nil, proC]
  refine AW_reg TB (fun D K hD hK => ?_)
  simp only [AwS, TS, AwD, aval, aIndex, aSlice, aLen, BN, BW, BS, Int.cast_ofNat_Int, spl, splice, bind, ↓reduceIte, simprocAttr]
  refine hD _ ?_
  clear hD hK D K
  refine AW_seq ?_
  refine AW_reg TB (fun D K hD hK => ?_)
  simp only [AwS, TS, AwD, aval, aIndex, aSlice, aLen, BN, BW, BS, Int.cast_ofNat_Int, spl, splice, bind, ↓reduceIte, simprocAttr]
  refine hD _ ?_
  clear hD hK D K
  refine AW_cond rfl (fun h1 => ?_) (fun h1 => AW_skip ?_)
  · have hl1 : ¬ 1 < ds.length := by
      have : (ds.length : Int) = 1 := by simpa using h1
      omega
    rw [prove_one hl1]
    simp only [prV, prG, List.length_nil, ↓reduceIte]
    refine AW_ret ?_
    simp only [Ret, seqQ]
    refine ⟨.tup [], [[.clo 99 [.ptr 0 0, .ptr 1 0]], [.val (.slice none 0 0)]], [], [(0, 0), (1, 1)], rfl, ?_, ?_, rfl⟩
    · simp [resOf, resAll, resAV, alook, blook, AV.known, loadC, AwS, TS, TD.isAgg, AV.map, AVs.map, nmap]
    · refine ⟨rfl, by simp [leftSt], ⟨rfl, rfl⟩, by simp [leftSt], ?_, by simp [leftSt], by simp [leftSt, idx, nmap], ?_⟩
      · simp [leftSt, idx, blook, nmap, AVs.map, AV.map]
      · intro k hk
        have hk' : k < 2 := hk
        rcases (show k = 0 ∨ k = 1 by omega) with rfl | rfl <;> rfl
  · have hbig : 1 < ds.length := by
      have : ¬ (ds.length : Int) = 1 := by simpa using h1
      omega
    obtain ⟨hs0, hs1⟩ := splitM_bd hbig
    have hL := fl_take h16 (splitM ds.length) (by omega)
    have hR := fl_drop h16 (splitM ds.length) (by omega)
    have ll1 : (ds.take (splitM ds.length)).length = splitM ds.length := by simp; omega
    have ll2 : (ds.drop (splitM ds.length)).length = ds.length - splitM ds.length := by simp
    have r1 := root_spec (splitM ds.length) k (ds.take (splitM ds.length)) (by omega) (by omega) (h16.take _)
    have r2 := root_spec (ds.length - splitM ds.length) k (ds.drop (splitM ds.length)) (by omega) (by omega) (h16.drop _)
    rw [ll1] at r1
    rw [ll2] at r2
    have hRl : (fl (ds.drop (splitM ds.length))).length = (ds.length - splitM ds.length) * 16 := by rw [fl_len (h16.drop _), ll2]
    have ss := split_spec ds.length (by omega) (by omega)
    simp only [seqQ]
    refine AW_reg TB (fun D K hD hK => ?_)
    simp only [AwS, TS, AwD, aval, aIndex, aSlice, aLen, BN, BW, BS, Int.cast_ofNat_Int, spl, splice, bind, ↓reduceIte, simprocAttr]
    refine hK _ _ ?_
    clear hD hK D K
    refine AL_callP rfl rfl rfl rfl en_87 ss [] ?_ (by simp) rfl rfl ?_
    · simp [evs, St.ev, cav, alook, lendA, lentBx, lendC, blook, AVs.map, AV.map, ioMap]
    refine AL_runR TB _ _ (fun D K hD hK => ?_)
    simp only [AwS, TS, AwD, aval, aIndex, aSlice, aLen, BN, BW, BS, Int.cast_ofNat_Int, spl, splice, bind, ↓reduceIte, simprocAttr]
    refine hD _ ?_
    clear hD hK D K
    have y1 : (0 ≤ (splitM ds.length : Int)) = True := by simp
    have y2 : (splitM ds.length ≤ ds.length) = True := by simp; omega
    have y3 : (0 ≤ (ds.length : Int)) = True := by simp
    have y4 : List.take ((ds.length - splitM ds.length) * 16) (fl (ds.drop (splitM ds.length))) = fl (ds.drop (splitM ds.length)) := List.take_of_length_le (by omega)
    refine AW_dreg TB mx ([[], [], [], [0, 1, 2], [], [], [], [], [4, 5, 6, 7], [3, 0, 1, 2], [8, 4, 5, 6, 7, 9, 3, 0, 1, 2]]) (by kernel_rfl) (by kernel_rfl) (fun D K hD hK => ?_)
    simp only [AwS, TS, AwD, aval, aIndex, aSlice, aLen, BN, BW, BS, Int.cast_ofNat_Int, spl, splice, bind, ↓reduceIte, simprocAttr, Op.operands, Call.operands, List.toList_toArray, List.size_toArray, cmp, List.getD_cons_zero, List.getD_cons_succ, Array.toList_append, Option.toArray, List.append_toArray,  y1, y2, y3, y4, hL, hR, Int.toNat_natCast, implies_true, Nat.sub_zero]
    refine hD _ ?_
    clear hD hK D K
    refine AW_seq ?_
    refine AW_reg TB (fun D K hD hK => ?_)
    simp only [AwS, TS, AwD, aval, aIndex, aSlice, aLen, BN, BW, BS, Int.cast_ofNat_Int, spl, splice, bind, ↓reduceIte, simprocAttr]
    refine hD _ ?_
    clear hD hK D K
    refine AW_cond rfl (fun h2 => ?_) (fun h2 => AW_skip ?_)
    · have hlt : i < splitM ds.length := by simpa using h2
      have ir := ih (splitM ds.length) (by omega) k (ds.take (splitM ds.length)) i (by omega) (by omega) (h16.take _) (by omega)
      rw [ll1] at ir
      rw [prove_lt hbig hlt]
      have hp16 := prove_16 ds.length (ds.take (splitM ds.length)) i (by omega)
      have hple := prove_le ds.length (ds.take (splitM ds.length)) i (by omega)
      have hps : (proveM (ds.take (splitM ds.length)) i).length ≤ 1000000 := by omega
      generalize proveM (ds.take (splitM ds.length)) i = ps at *
      refine AW_reg TB (fun D K hD hK => ?_)
      simp only [AwS, TS, AwD, aval, aIndex, aSlice, aLen, BN, BW, BS, Int.cast_ofNat_Int, spl, splice, bind, ↓reduceIte, simprocAttr]
      refine hK _ _ ?_
      clear hD hK D K
      refine AL_call rfl rfl rfl rfl en_99 ir [0, 1] [] rfl (by simp) (by simp [proC]) ?_ (hio_of ?_) (by simp) (by simp [alook, AV.map, cs_map, wws_map]) (fun x io' nb hR _ => ?_) (fun v io2 hR _ => by simp at hR)
      · simp [evs, St.ev, cav, alook, lendA, lentBx, lendC, blook, AVs.map, AV.map, ioMap, fl_map]
      · simp [blook, proC, AVs.map, AV.map, ioMap]
      simp only [Out.ret.injEq] at hR
      obtain ⟨rfl, rfl, rfl⟩ := hR
      refine ⟨rfl, by unfold prG; split <;> simp, ?_⟩
      have hml := mroot_len (ds.drop (splitM ds.length))
      generalize hB : mroot (ds.drop (splitM ds.length)) = B at *
      have c1 : (ps.length + 1 ≤ 4294967296) = True := by simp; omega
      have hsl := fl_len hp16
      have z1 : spl (List.replicate 16 (.val (.int .u8 0))) 0 (B.map bw) = B.map bw := spl_all (by simp [hml]) (by simp [hml])
      have y5 : splice (List.replicate 16 (.val (.int .u8 0))) 0 (B.map bw) = B.map bw := by simp [splice, hml]
      simp only [List.replicate] at z1 y5
      have z2 : List.take 16 (B.map bw) = B.map bw := List.take_of_length_le (by simp [hml])
      have z3 : (B.map bw).length = 16 := by simp [hml]
      have hne1 : (ps.length + 1 = 0) = False := by simp
      rcases Nat.eq_zero_or_pos ps.length with h0 | h0
      · have : ps = [] := List.eq_nil_of_length_eq_zero h0
        subst this
        simp only [prV, prG, List.length_nil, ↓reduceIte, proC, List.nil_append, List.length_cons, hne1]
        refine AL_runR TB _ _ (fun D K hD hK => ?_)
        simp only [AwS, TS, AwD, aval, aIndex, aSlice, aLen, BN, BW, BS, Int.cast_ofNat_Int, spl, splice, bind, ↓reduceIte, simprocAttr]
        refine hD _ ?_
        clear hD hK D K
        simp only [seqQ]
        refine AW_dreg TB mx ([[], [], [1], [2, 1], [0, 3, 2, 1], [4, 0, 3, 2, 1]]) (by kernel_rfl) (by kernel_rfl) (fun D K hD hK => ?_)
        simp only [AwS, TS, AwD, aval, aIndex, aSlice, aLen, BN, BW, BS, Int.cast_ofNat_Int, spl, splice, bind, ↓reduceIte, simprocAttr, Op.operands, Call.operands, List.toList_toArray, List.size_toArray, cmp, List.getD_cons_zero, List.getD_cons_succ, Array.toList_append, Option.toArray, List.append_toArray,]
        refine hK _ _ _ _ ?_
        clear hD hK D K
        refine DL_call rfl rfl rfl rfl rfl en_52 r2 (fun out h => h) [] [] rfl rfl (by simp) (by simp) ?_ (by simp) (by simp) (by simp [alook, AV.map, cs_map, wws_map]) rfl (by simp) rfl ?_
        · simp [evs, St.ev, cav, alook, lendA, lentBx, lendC, blook, AVs.map, AV.map, ioMap, fl_map]
        refine DL_rest TB rfl (fun D K hD hK => ?_)
        simp only [AwS, TS, AwD, aval, aIndex, aSlice, aLen, BN, BW, BS, Int.cast_ofNat_Int, spl, splice, bind, ↓reduceIte, simprocAttr, Op.operands, Call.operands, List.toList_toArray, List.size_toArray, cmp, List.getD_cons_zero, List.getD_cons_succ, Array.toList_append, Option.toArray, List.append_toArray, z1, y5, z2, z3, bws_cell, bws_map, -spl, -splice]
        refine hD _ ?_
        clear hD hK D K
        try refine AW_ret ?_
        simp only [Ret, seqQ]
        refine ⟨.tup [], [[.clo 99 [.ptr 0 0, .ptr 1 0]], [.sl 2 0 1 16 (some 23)]], [fl [B]], [(0, 0), (1, 1), (2, 242)], rfl, ?_, ?_, rfl⟩
        · simp [resOf, resAll, resAV, alook, blook, AV.known, loadC, AwS, TS, TD.isAgg, AV.map, AVs.map, nmap]
        · refine ⟨rfl, by simp [leftSt], ⟨rfl, rfl⟩, by simp [leftSt], ?_, by simp [leftSt], by simp [leftSt, idx, nmap], ?_⟩
          · simp [leftSt, idx, blook, nmap, AVs.map, AV.map, bws_map, fl_map, fl_one, fl_app, AVs_map_append]
          · intro k hk
            have hk' : k < 2 := hk
            rcases (show k = 0 ∨ k = 1 by omega) with rfl | rfl <;> rfl
      · have h0' : (ps.length = 0) = False := eq_false (by omega)
        simp only [prV, prG, h0', List.length_append, List.length_cons, List.length_nil, ↓reduceIte, proC, hne1]
        refine AL_runR TB _ _ (fun D K hD hK => ?_)
        simp only [AwS, TS, AwD, aval, aIndex, aSlice, aLen, BN, BW, BS, Int.cast_ofNat_Int, spl, splice, bind, ↓reduceIte, simprocAttr, fl_map]
        refine hD _ ?_
        clear hD hK D K
        simp only [seqQ]
        refine AW_dreg TB mx ([[], [], [1], [2, 1], [0, 3, 2, 1], [4, 0, 3, 2, 1]]) (by kernel_rfl) (by kernel_rfl) (fun D K hD hK => ?_)
        simp only [AwS, TS, AwD, aval, aIndex, aSlice, aLen, BN, BW, BS, Int.cast_ofNat_Int, spl, splice, bind, ↓reduceIte, simprocAttr, Op.operands, Call.operands, List.toList_toArray, List.size_toArray, cmp, List.getD_cons_zero, List.getD_cons_succ, Array.toList_append, Option.toArray, List.append_toArray,]
        refine hK _ _ _ _ ?_
        clear hD hK D K
        refine DL_call rfl rfl rfl rfl rfl en_52 r2 (fun out h => h) [] [] rfl rfl (by simp) (by simp) ?_ (by simp) (by simp) (by simp [alook, AV.map, cs_map, wws_map]) rfl (by simp) rfl ?_
        · simp [evs, St.ev, cav, alook, lendA, lentBx, lendC, blook, AVs.map, AV.map, ioMap, fl_map]
        refine DL_rest TB rfl (fun D K hD hK => ?_)
        simp only [AwS, TS, AwD, aval, aIndex, aSlice, aLen, BN, BW, BS, Int.cast_ofNat_Int, spl, splice, bind, ↓reduceIte, simprocAttr, Op.operands, Call.operands, List.toList_toArray, List.size_toArray, cmp, List.getD_cons_zero, List.getD_cons_succ, Array.toList_append, Option.toArray, List.append_toArray, z1, y5, z2, z3, c1, hsl, bws_cell, bws_map, -spl, -splice]
        refine hD _ ?_
        clear hD hK D K
        try refine AW_ret ?_
        simp only [Ret, seqQ]
        refine ⟨.tup [], [[.clo 99 [.ptr 0 0, .ptr 1 0]], [.sl 2 0 (ps.length + 1) 16 (some 23)]], [fl (ps ++ [B])], [(0, 0), (1, 1), (2, 242)], rfl, ?_, ?_, rfl⟩
        · simp [resOf, resAll, resAV, alook, blook, AV.known, loadC, AwS, TS, TD.isAgg, AV.map, AVs.map, nmap]
        · refine ⟨rfl, by simp [leftSt], ⟨rfl, rfl⟩, by simp [leftSt], ?_, by simp [leftSt], by simp [leftSt, idx, nmap], ?_⟩
          · simp [leftSt, idx, blook, nmap, AVs.map, AV.map, bws_map, fl_map, fl_one, fl_app, AVs_map_append]
          · intro k hk
            have hk' : k < 2 := hk
            rcases (show k = 0 ∨ k = 1 by omega) with rfl | rfl <;> rfl
    · have hge : ¬ i < splitM ds.length := by simpa using h2
      have w1 : IntKind.i64.wrap ((i : Int) - (splitM ds.length : Int)) = ((i - splitM ds.length : Nat) : Int) := by rw [wrap_i64 (by omega) (by omega)]; omega
      have ir := ih (ds.length - splitM ds.length) (by omega) k (ds.drop (splitM ds.length)) (i - splitM ds.length) (by omega) (by omega) (h16.drop _) (by omega)
      rw [ll2] at ir
      rw [prove_ge hbig hge]
      have hp16 := prove_16 ds.length (ds.drop (splitM ds.length)) (i - splitM ds.length) (by omega)
      have hple := prove_le ds.length (ds.drop (splitM ds.length)) (i - splitM ds.length) (by omega)
      have hps : (proveM (ds.drop (splitM ds.length)) (i - splitM ds.length)).length ≤ 1000000 := by omega
      generalize proveM (ds.drop (splitM ds.length)) (i - splitM ds.length) = ps at *
      simp only [seqQ]
      refine AW_reg TB (fun D K hD hK => ?_)
      simp only [AwS, TS, AwD, aval, aIndex, aSlice, aLen, BN, BW, BS, Int.cast_ofNat_Int, spl, splice, bind, ↓reduceIte, simprocAttr, w1]
      refine hK _ _ ?_
      clear hD hK D K
      refine AL_call rfl rfl rfl rfl en_99 ir [0, 1] [] rfl (by simp) (by simp [proC]) ?_ (hio_of ?_) (by simp) (by simp [alook, AV.map, cs_map, wws_map]) (fun x io' nb hR _ => ?_) (fun v io2 hR _ => by simp at hR)
      · simp [evs, St.ev, cav, alook, lendA, lentBx, lendC, blook, AVs.map, AV.map, ioMap, fl_map]
      · simp [blook, proC, AVs.map, AV.map, ioMap]
      simp only [Out.ret.injEq] at hR
      obtain ⟨rfl, rfl, rfl⟩ := hR
      refine ⟨rfl, by unfold prG; split <;> simp, ?_⟩
      have hml := mroot_len (ds.take (splitM ds.length))
      generalize hB : mroot (ds.take (splitM ds.length)) = B at *
      have c1 : (ps.length + 1 ≤ 4294967296) = True := by simp; omega
      have hsl := fl_len hp16
      have z1 : spl (List.replicate 16 (.val (.int .u8 0))) 0 (B.map bw) = B.map bw := spl_all (by simp [hml]) (by simp [hml])
      have y5 : splice (List.replicate 16 (.val (.int .u8 0))) 0 (B.map bw) = B.map bw := by simp [splice, hml]
      simp only [List.replicate] at z1 y5
      have z2 : List.take 16 (B.map bw) = B.map bw := List.take_of_length_le (by simp [hml])
      have z3 : (B.map bw).length = 16 := by simp [hml]
      have hne1 : (ps.length + 1 = 0) = False := by simp
      rcases Nat.eq_zero_or_pos ps.length with h0 | h0
      · have : ps = [] := List.eq_nil_of_length_eq_zero h0
        subst this
        simp only [prV, prG, List.length_nil, ↓reduceIte, proC, List.nil_append, List.length_cons, hne1]
        refine AL_runR TB _ _ (fun D K hD hK => ?_)
        simp only [AwS, TS, AwD, aval, aIndex, aSlice, aLen, BN, BW, BS, Int.cast_ofNat_Int, spl, splice, bind, ↓reduceIte, simprocAttr]
        refine hD _ ?_
        clear hD hK D K
        simp only [seqQ]
        refine AW_dregl TB mx ([[], [], [1], [2, 1], [0, 3, 2, 1], [4, 0, 3, 2, 1]]) (by kernel_rfl) (by kernel_rfl) (fun D K hD hK => ?_)
        simp only [AwS, TS, AwD, aval, aIndex, aSlice, aLen, BN, BW, BS, Int.cast_ofNat_Int, spl, splice, bind, ↓reduceIte, simprocAttr, Op.operands, Call.operands, List.toList_toArray, List.size_toArray, cmp, List.getD_cons_zero, List.getD_cons_succ, Array.toList_append, Option.toArray, List.append_toArray,]
        refine hK _ _ _ _ ?_
        clear hD hK D K
        refine DL_call rfl rfl rfl rfl rfl en_52 r1 (fun out h => h) [] [] rfl rfl (by simp) (by simp) ?_ (by simp) (by simp) (by simp [alook, AV.map, cs_map, wws_map]) rfl (by simp) rfl ?_
        · simp [evs, St.ev, cav, alook, lendA, lentBx, lendC, blook, AVs.map, AV.map, ioMap, fl_map]
        refine DL_rest TB rfl (fun D K hD hK => ?_)
        simp only [AwS, TS, AwD, aval, aIndex, aSlice, aLen, BN, BW, BS, Int.cast_ofNat_Int, spl, splice, bind, ↓reduceIte, simprocAttr, Op.operands, Call.operands, List.toList_toArray, List.size_toArray, cmp, List.getD_cons_zero, List.getD_cons_succ, Array.toList_append, Option.toArray, List.append_toArray, z1, y5, z2, z3, bws_cell, bws_map, -spl, -splice]
        refine hD _ ?_
        clear hD hK D K
        try refine AW_ret ?_
        simp only [Ret, seqQ]
        refine ⟨.tup [], [[.clo 99 [.ptr 0 0, .ptr 1 0]], [.sl 2 0 1 16 (some 23)]], [fl [B]], [(0, 0), (1, 1), (2, 258)], rfl, ?_, ?_, rfl⟩
        · simp [resOf, resAll, resAV, alook, blook, AV.known, loadC, AwS, TS, TD.isAgg, AV.map, AVs.map, nmap]
        · refine ⟨rfl, by simp [leftSt], ⟨rfl, rfl⟩, by simp [leftSt], ?_, by simp [leftSt], by simp [leftSt, idx, nmap], ?_⟩
          · simp [leftSt, idx, blook, nmap, AVs.map, AV.map, bws_map, fl_map, fl_one, fl_app, AVs_map_append]
          · intro k hk
            have hk' : k < 2 := hk
            rcases (show k = 0 ∨ k = 1 by omega) with rfl | rfl <;> rfl
      · have h0' : (ps.length = 0) = False := eq_false (by omega)
        simp only [prV, prG, h0', List.length_append, List.length_cons, List.length_nil, ↓reduceIte, proC, hne1]
        refine AL_runR TB _ _ (fun D K hD hK => ?_)
        simp only [AwS, TS, AwD, aval, aIndex, aSlice, aLen, BN, BW, BS, Int.cast_ofNat_Int, spl, splice, bind, ↓reduceIte, simprocAttr, fl_map]
        refine hD _ ?_
        clear hD hK D K
        simp only [seqQ]
        refine AW_dregl TB mx ([[], [], [1], [2, 1], [0, 3, 2, 1], [4, 0, 3, 2, 1]]) (by kernel_rfl) (by kernel_rfl) (fun D K hD hK => ?_)
        simp only [AwS, TS, AwD, aval, aIndex, aSlice, aLen, BN, BW, BS, Int.cast_ofNat_Int, spl, splice, bind, ↓reduceIte, simprocAttr, Op.operands, Call.operands, List.toList_toArray, List.size_toArray, cmp, List.getD_cons_zero, List.getD_cons_succ, Array.toList_append, Option.toArray, List.append_toArray,]
        refine hK _ _ _ _ ?_
        clear hD hK D K
        refine DL_call rfl rfl rfl rfl rfl en_52 r1 (fun out h => h) [] [] rfl rfl (by simp) (by simp) ?_ (by simp) (by simp) (by simp [alook, AV.map, cs_map, wws_map]) rfl (by simp) rfl ?_
        · simp [evs, St.ev, cav, alook, lendA, lentBx, lendC, blook, AVs.map, AV.map, ioMap, fl_map]
        refine DL_rest TB rfl (fun D K hD hK => ?_)
        simp only [AwS, TS, AwD, aval, aIndex, aSlice, aLen, BN, BW, BS, Int.cast_ofNat_Int, spl, splice, bind, ↓reduceIte, simprocAttr, Op.operands, Call.operands, List.toList_toArray, List.size_toArray, cmp, List.getD_cons_zero, List.getD_cons_succ, Array.toList_append, Option.toArray, List.append_toArray, z1, y5, z2, z3, c1, hsl, bws_cell, bws_map, -spl, -splice]
        refine hD _ ?_
        clear hD hK D K
        try refine AW_ret ?_
        simp only [Ret, seqQ]
        refine ⟨.tup [], [[.clo 99 [.ptr 0 0, .ptr 1 0]], [.sl 2 0 (ps.length + 1) 16 (some 23)]], [fl (ps ++ [B])], [(0, 0), (1, 1), (2, 258)], rfl, ?_, ?_, rfl⟩
        · simp [resOf, resAll, resAV, alook, blook, AV.known, loadC, AwS, TS, TD.isAgg, AV.map, AVs.map, nmap]
        · refine ⟨rfl, by simp [leftSt], ⟨rfl, rfl⟩, by simp [leftSt], ?_, by simp [leftSt], by simp [leftSt, idx, nmap], ?_⟩
          · simp [leftSt, idx, blook, nmap, AVs.map, AV.map, bws_map, fl_map, fl_one, fl_app, AVs_map_append]
          · intro k hk
            have hk' : k < 2 := hk
            rcases (show k = 0 ∨ k = 1 by omega) with rfl | rfl <;> rfl
end Go.Proofs.YtgbpgplkhifgiaaDoor

/- The walk of merkle.Prove. No condition. -/
set_option linter.unusedVariables false
set_option linter.unusedSimpArgs false
set_option maxRecDepth 100000
namespace Go.Proofs.YtgbpgplkhifgiaaDoor
open Go Go.RowKit

/-- A list of digests that is handed back: nil if there is none. -/
def prA (b : Nat) (ps : List (List UInt8)) : AV := if ps.length = 0 then .val (.slice none 0 0) else .sl b 0 ps.length 16 (some 23)

theorem prove_spec (k : Bool) (ds : List (List UInt8)) (i : Nat) (hN : ds.length ≤ 1000000) (h16 : All16 ds) (hi : i < ds.length) :
    Spec Tryd.prog glS 59 [.ds k ds.length (fl ds), iv i] [] (fun o => o = .ret (.tup [prA 0 (proveM ds i), iv 0]) [] (prG (proveM ds i))) := by
  refine spec_of TB 22 [.tmp 4, .tmp 5] Tryd.func59 rfl rfl rfl (Nat.le_of_ble_eq_true rfl) ?_
  intro X w0 E0 hE hX
  have e1 : decide ((i : Int) < 0) = false := decide_eq_false (by omega)
  have e2 : decide ((ds.length : Int) ≤ (i : Int)) = false := decide_eq_false (by omega)
  simp only [idx, List.map_nil, List.length_nil]
  refine AW_reg TB (fun D K hD hK => ?_)
  simp only [AwS, TS, AwD, aval, aIndex, aSlice, aLen, BN, BW, BS, Int.cast_ofNat_Int, spl, splice, bind, ↓reduceIte, simprocAttr]
  refine hD _ ?_
  clear hD hK D K
  refine AW_seq ?_
  refine AW_reg TB (fun D K hD hK => ?_)
  simp only [AwS, TS, AwD, aval, aIndex, aSlice, aLen, BN, BW, BS, Int.cast_ofNat_Int, spl, splice, bind, ↓reduceIte, simprocAttr, e1, e2]
  refine hD _ ?_
  clear hD hK D K
  refine AW_false rfl (AW_skip ?_)
  simp only [seqQ]
  refine AW_reg TB (fun D K hD hK => ?_)
  simp only [AwS, TS, AwD, aval, aIndex, aSlice, aLen, BN, BW, BS, Int.cast_ofNat_Int, spl, splice, bind, ↓reduceIte, simprocAttr]
  refine hD _ ?_
  clear hD hK D K
  refine AW_reg TB (fun D K hD hK => ?_)
  simp only [AwS, TS, AwD, aval, aIndex, aSlice, aLen, BN, BW, BS, Int.cast_ofNat_Int, spl, splice, bind, ↓reduceIte, simprocAttr]
  refine hD _ ?_
  clear hD hK D K
  refine AW_reg TB (fun D K hD hK => ?_)
  simp only [AwS, TS, AwD, aval, aIndex, aSlice, aLen, BN, BW, BS, Int.cast_ofNat_Int, spl, splice, bind, ↓reduceIte, simprocAttr]
  refine hD _ ?_
  clear hD hK D K
  refine AW_reg TB (fun D K hD hK => ?_)
  simp only [AwS, TS, AwD, aval, aIndex, aSlice, aLen, BN, BW, BS, Int.cast_ofNat_Int, spl, splice, bind, ↓reduceIte, simprocAttr]
  refine hK _ _ ?_
  clear hD hK D K
  have ir := prove1_spec ds.length k ds i (by omega) hN h16 hi
  generalize proveM ds i = ps at *

  refine AL_call rfl rfl rfl rfl en_99 ir [88, 80] [] rfl (by simp) (by simp [proC]) ?_ (hio_of ?_) (by simp) (by simp [alook, AV.map, cs_map, wws_map]) (fun x io' nb hR _ => ?_) (fun v io2 hR _ => by simp at hR)
  · simp [evs, St.ev, cav, alook, lendA, lentBx, lendC, blook, AVs.map, AV.map, ioMap, fl_map]
  · simp [blook, proC, AVs.map, AV.map, ioMap]
    trace_state
  simp only [Out.ret.injEq] at hR
  obtain ⟨rfl, rfl, rfl⟩ := hR
  refine ⟨rfl, by unfold prG; split <;> simp, ?_⟩
  rcases Nat.eq_zero_or_pos ps.length with h0 | h0
  · have : ps = [] := List.eq_nil_of_length_eq_zero h0
    subst this
    simp only [prV, prG, prA, List.length_nil, ↓reduceIte, proC]
    refine AL_runR TB _ _ (fun D K hD hK => ?_)
    simp only [AwS, TS, AwD, aval, aIndex, aSlice, aLen, BN, BW, BS, Int.cast_ofNat_Int, spl, splice, bind, ↓reduceIte, simprocAttr]
    refine hD _ ?_
    clear hD hK D K
    refine AW_reg TB (fun D K hD hK => ?_)
    simp only [AwS, TS, AwD, aval, aIndex, aSlice, aLen, BN, BW, BS, Int.cast_ofNat_Int, spl, splice, bind, ↓reduceIte, simprocAttr]
    refine hD _ ?_
    clear hD hK D K
    refine AW_ret ?_
    simp only [Ret]
    refine retp (.tup [.val (.slice none 0 0), iv 0]) rfl ?_ rfl rfl
    simp [resOf, resAll, resAV, alook, blook, AV.known, loadC, AwS, TS, TD.isAgg]
  · have h0' : (ps.length = 0) = False := eq_false (by omega)
    simp only [prV, prG, prA, h0', ↓reduceIte, proC]
    refine AL_runR TB _ _ (fun D K hD hK => ?_)
    simp only [AwS, TS, AwD, aval, aIndex, aSlice, aLen, BN, BW, BS, Int.cast_ofNat_Int, spl, splice, bind, ↓reduceIte, simprocAttr, fl_map]
    refine hD _ ?_
    clear hD hK D K
    refine AW_reg TB (fun D K hD hK => ?_)
    simp only [AwS, TS, AwD, aval, aIndex, aSlice, aLen, BN, BW, BS, Int.cast_ofNat_Int, spl, splice, bind, ↓reduceIte, simprocAttr]
    refine hD _ ?_
    clear hD hK D K
    refine AW_ret ?_
    simp only [Ret]
    trace_state
    refine ⟨.tup [.sl 0 0 ps.length 16 (some 23), iv 0], [], [fl ps], [(0, 136)], rfl, ?_, ?_, rfl⟩
    · simp [resOf, resAll, resAV, alook, blook, AV.known, loadC, AwS, TS, TD.isAgg, AV.map, AVs.map, nmap]
    · refine ⟨rfl, by simp [leftSt], ⟨rfl, rfl⟩, by simp [leftSt], ?_, by simp [leftSt], by simp [leftSt, idx, nmap], by simp⟩
      simp [leftSt, idx, blook, nmap, AVs.map, AV.map, fl_map]
end Go.Proofs.YtgbpgplkhifgiaaDoor
