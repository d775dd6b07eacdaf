/- FnChains: its first loop, over a frame of letters. -/
import Derived.Test.YtbmgmolnknnaiaaChnF
import Derived.Deep.DeepCutAuto
namespace Go.Proofs.Ytbmgmolnknnaiaa
open Go.RowKit

set_option maxRecDepth 1000000 in
set_option maxHeartbeats 40000000 in
theorem chnLoop1 {PB pb po pc xb xo xc wb wo cw : Nat} {ps X : List (Int × Int)} {xs ys : List Int} {k : Nat} {x O N NX R : Int} {W7 : World} (HW7 : Hid (ChW W7 PB pb po pc xb xo xc ps xs)) (HYC7 : Hid (IntsAt W7 wb wo ys)) (HF : Hid (ChFacts ps X xs ys k x O N NX R)) (HXL : Hid (xs.length = ps.length)) (_hx6 : (xs.length : Int) ≤ 6) (hyl : ys.length ≤ 10) (hy1 : 1 ≤ ys.length) {c0 c1 c2 c4 c5 c6 c7 c8 c9 c12 c13 c14 c15 c16 c17 c18 c19 c20 c21 c22 c23 c24 c25 c26 c27 c28 c29 c30 c31 c32 c33 c34 c35 c36 c37 c38 c39 c40 c41 c42 c43 c44 c45 c46 c47 c48 c49 c50 c51 c52 c53 c54 c55 c56 c57 c58 c59 c60 c61 c62 c63 c64 c65 c66 c67 c68 c69 c70 c71 c72 c73 c74 c75 c76 c77 c78 c79 c80 c81 c82 c83 c84 c85 c86 c87 c88 c89 c90 c91 c92 c93 c94 c95 c96 c97 c98 c99 c100 c101 c102 c103 c104 c105 c106 c107 c108 c109 c110 c111 c112 c113 c114 c115 c116 c117 c118 c119 c120 c121 c122 c123 c124 c125 c126 c127 c128 c129 c130 c131 c132 c133 c134 c135 c136 c137 c138 c139 c140 c141 c142 c143 c144 c145 c146 c147 c148 c149 c150 c151 c152 c153 c154 c155 c156 c157 c158 c159 c160 c161 c162 c163 c164 c165 c166 c167 c168 c169 c170 c171 c172 c173 c174 c175 c176 c177 c178 c179 c180 c181 c182 c183 c184 c185 c186 c187 c188 c189 c190 c191 c192 c193 c194 c195 c196 c197 c198 c199 c200 c201 c202 c203 c204 c205 c206 c207 c208 c209 c210 c211 c212 c213 c214 c215 c216 c217 c218 c219 c220 c221 c222 c223 c224 c225 c226 c227 c228 c229 c230 c231 c232 c233 c234 c235 c236 c237 c238 c239 c240 c241 c242 c243 c244 c245 c246 : Value} {Q : Exit → Act → World → Prop}
    (hexit : Hid (∀ (wr : World), Gr W7 wr none → ∀ (u2 u11 u88 u89 u90 u91 u92 u93 u94 u95 u96 u97 u98 u99 u100 u101 u102 u103 u104 u105 u106 u107 u108 u109 u110 u111 u112 u113 u114 u115 u116 u117 u118 u119 u120 u121 u122 u123 u124 u125 u126 u127 u128 u129 u130 u131 u132 u133 u134 u135 u136 u137 u138 u139 u140 u141 u142 u143 u144 u145 u146 u147 u148 u149 : Value), Q (.exit 0) ⟨List.toArray (c0 :: c1 :: u2 :: .pointer (some ⟨PB, 0, none⟩) :: c4 :: c5 :: c6 :: c7 :: c8 :: c9 :: .slice (some ⟨wb, wo, none⟩) ys.length cw :: u11 :: c12 :: c13 :: c14 :: c15 :: c16 :: c17 :: c18 :: c19 :: c20 :: c21 :: c22 :: c23 :: c24 :: c25 :: c26 :: c27 :: c28 :: c29 :: c30 :: c31 :: c32 :: c33 :: c34 :: c35 :: c36 :: c37 :: c38 :: c39 :: c40 :: c41 :: c42 :: c43 :: c44 :: c45 :: c46 :: c47 :: c48 :: c49 :: c50 :: c51 :: c52 :: c53 :: c54 :: c55 :: c56 :: c57 :: c58 :: c59 :: c60 :: c61 :: c62 :: c63 :: c64 :: c65 :: c66 :: c67 :: c68 :: c69 :: c70 :: c71 :: c72 :: c73 :: c74 :: c75 :: c76 :: c77 :: c78 :: c79 :: c80 :: c81 :: c82 :: c83 :: c84 :: c85 :: c86 :: c87 :: u88 :: u89 :: u90 :: u91 :: u92 :: u93 :: u94 :: u95 :: u96 :: u97 :: u98 :: u99 :: u100 :: u101 :: u102 :: u103 :: u104 :: u105 :: u106 :: u107 :: u108 :: u109 :: u110 :: u111 :: u112 :: u113 :: u114 :: u115 :: u116 :: u117 :: u118 :: u119 :: u120 :: u121 :: u122 :: u123 :: u124 :: u125 :: u126 :: u127 :: u128 :: u129 :: u130 :: u131 :: u132 :: u133 :: u134 :: u135 :: u136 :: u137 :: u138 :: u139 :: u140 :: u141 :: u142 :: u143 :: u144 :: u145 :: u146 :: u147 :: u148 :: u149 :: c150 :: c151 :: c152 :: c153 :: c154 :: c155 :: c156 :: c157 :: c158 :: c159 :: c160 :: c161 :: c162 :: c163 :: c164 :: c165 :: c166 :: c167 :: c168 :: c169 :: c170 :: c171 :: c172 :: c173 :: c174 :: c175 :: c176 :: c177 :: c178 :: c179 :: c180 :: c181 :: c182 :: c183 :: c184 :: c185 :: c186 :: c187 :: c188 :: c189 :: c190 :: c191 :: c192 :: c193 :: c194 :: c195 :: c196 :: c197 :: c198 :: c199 :: c200 :: c201 :: c202 :: c203 :: c204 :: c205 :: c206 :: c207 :: c208 :: c209 :: c210 :: c211 :: c212 :: c213 :: c214 :: c215 :: c216 :: c217 :: c218 :: c219 :: c220 :: c221 :: c222 :: c223 :: c224 :: c225 :: c226 :: c227 :: c228 :: c229 :: c230 :: c231 :: c232 :: c233 :: c234 :: c235 :: c236 :: c237 :: c238 :: c239 :: c240 :: c241 :: c242 :: c243 :: c244 :: c245 :: c246 :: []), []⟩ wr)) :
    Code.wp Try.prog (Code.loop ((Try.f5.body.bind fun c => (loopsOf c)[0]?).getD .skip)) Q ⟨List.toArray (c0 :: c1 :: c2 :: .pointer (some ⟨PB, 0, none⟩) :: c4 :: c5 :: c6 :: c7 :: c8 :: c9 :: .slice (some ⟨wb, wo, none⟩) ys.length cw :: .int .i64 0 :: c12 :: c13 :: c14 :: c15 :: c16 :: c17 :: c18 :: c19 :: c20 :: c21 :: c22 :: c23 :: c24 :: c25 :: c26 :: c27 :: c28 :: c29 :: c30 :: c31 :: c32 :: c33 :: c34 :: c35 :: c36 :: c37 :: c38 :: c39 :: c40 :: c41 :: c42 :: c43 :: c44 :: c45 :: c46 :: c47 :: c48 :: c49 :: c50 :: c51 :: c52 :: c53 :: c54 :: c55 :: c56 :: c57 :: c58 :: c59 :: c60 :: c61 :: c62 :: c63 :: c64 :: c65 :: c66 :: c67 :: c68 :: c69 :: c70 :: c71 :: c72 :: c73 :: c74 :: c75 :: c76 :: c77 :: c78 :: c79 :: c80 :: c81 :: c82 :: c83 :: c84 :: c85 :: c86 :: c87 :: c88 :: c89 :: c90 :: c91 :: c92 :: c93 :: c94 :: c95 :: c96 :: c97 :: c98 :: c99 :: c100 :: c101 :: c102 :: c103 :: c104 :: c105 :: c106 :: c107 :: c108 :: c109 :: c110 :: c111 :: c112 :: c113 :: c114 :: c115 :: c116 :: c117 :: c118 :: c119 :: c120 :: c121 :: c122 :: c123 :: c124 :: c125 :: c126 :: c127 :: c128 :: c129 :: c130 :: c131 :: c132 :: c133 :: c134 :: c135 :: c136 :: c137 :: c138 :: c139 :: c140 :: c141 :: c142 :: c143 :: c144 :: c145 :: c146 :: c147 :: c148 :: c149 :: c150 :: c151 :: c152 :: c153 :: c154 :: c155 :: c156 :: c157 :: c158 :: c159 :: c160 :: c161 :: c162 :: c163 :: c164 :: c165 :: c166 :: c167 :: c168 :: c169 :: c170 :: c171 :: c172 :: c173 :: c174 :: c175 :: c176 :: c177 :: c178 :: c179 :: c180 :: c181 :: c182 :: c183 :: c184 :: c185 :: c186 :: c187 :: c188 :: c189 :: c190 :: c191 :: c192 :: c193 :: c194 :: c195 :: c196 :: c197 :: c198 :: c199 :: c200 :: c201 :: c202 :: c203 :: c204 :: c205 :: c206 :: c207 :: c208 :: c209 :: c210 :: c211 :: c212 :: c213 :: c214 :: c215 :: c216 :: c217 :: c218 :: c219 :: c220 :: c221 :: c222 :: c223 :: c224 :: c225 :: c226 :: c227 :: c228 :: c229 :: c230 :: c231 :: c232 :: c233 :: c234 :: c235 :: c236 :: c237 :: c238 :: c239 :: c240 :: c241 :: c242 :: c243 :: c244 :: c245 :: c246 :: []), []⟩ W7 := by
  conv => arg 2; arg 1; whnf
  go_loopw [11] (fun i wr => ∃ j : Nat, j ≤ ys.length ∧ i = .int .i64 j ∧ Gr W7 wr none) (fun i _ => ys.length - (intOf i).toNat)
  case atStart => exact ⟨0, Nat.zero_le _, rfl, gr_refl _ _⟩
  case round =>
    obtain ⟨j, hj, rfl, hg⟩ := hrel
    by_cases hlt : j < ys.length
    · have hlt' : (j : Int) < ys.length := by omega
      obtain ⟨ha0, ha1⟩ := HF.out.inn j hlt
      obtain ⟨i, hi⟩ := Int.eq_ofNat_of_zero_le ha0
      have c1 := cell_on hg HW7.out.c1
      have hcy := HYC7.out.kept hg (by simp) j hlt
      have hix : i < xs.length := by have := HXL.out; omega
      have hcx := HW7.out.xa.kept hg (by simp) i hix
      have hix' : (i : Int) < xs.length := by omega
      have e1 : decide ((i : Int) < 0) = false := by simp
      have e2 : decide ((xs.length : Int) ≤ (i : Int)) = false := by simp; omega
      have e2' : decide (xs.length ≤ i) = false := by simp; omega
      have HG := hid hg
      rw [hi] at hcy
      have c1s := fun s : Gw wr => cell_on s.h c1
      have hys := fun s : Gw wr => cell_on s.h hcy
      clear ha0 ha1 hg c1 hcy
      by_cases hL : j + 1 < ys.length
      · have hnx := HF.out.next j hL
        have hcz := HYC7.out.kept HG.out (by simp) (j + 1) hL
        rw [hi, Int.toNat_natCast] at hnx
        rw [hnx] at hcx
        generalize gi ys (j + 1) = z at hcx hcz
        have e3 : decide ((j : Int) + 1 < (ys.length : Int)) = true := by simp; omega
        have e3' : (j : Int) + 1 < (ys.length : Int) := by omega
        have e4 : ((j : Int) + 1 == (ys.length : Int)) = false := by rw [beq_eq_false_iff_ne]; omega
        have hxs := fun s : Gw wr => cell_on s.h hcx
        have hzs := fun s : Gw wr => cell_on s.h hcz
        clear hnx hi hL hcx hcz
        go_wp2_with fail
        try simp only [List.append_eq, List.cons_append, List.nil_append]
        refine region_gw (w0 := wr) (by kernel_rfl) (by kernel_rfl) (by kernel_rfl) ?_
        repeat (first | go_big_quiet_skip | (go_big_quiet_want; go_big_quiet_op; first | go_big_quiet_on | (apply Exists.intro; refine ⟨fun s => ?_, ?_⟩; (focus (first | (with_reducible exact gw_call s c1s))); go_big_quiet_on)))
        refine wpQuiet_nil ?_
        rintro wq ⟨⟨_, gq⟩, rfl⟩
        try dsimp only
        go_wp2
        go_roundw
        case rel => exact ⟨j + 1, by omega, by go_num, gr_then HG.out gq⟩
        case measure => simp [intOf]; omega
      · have hnx := HF.out.last j (by omega)
        rw [hi, Int.toNat_natCast] at hnx
        rw [hnx] at hcx
        have e3' : decide ((j : Int) + 1 < (ys.length : Int)) = false := by simp; omega
        have e4 : ((j : Int) + 1 == (ys.length : Int)) = true := by simp; omega
        have hxs := fun s : Gw wr => cell_on s.h hcx
        clear hnx hi hL hcx
        go_wp2_with fail
        try simp only [List.append_eq, List.cons_append, List.nil_append]
        refine region_gw (w0 := wr) (by kernel_rfl) (by kernel_rfl) (by kernel_rfl) ?_
        repeat (first | go_big_quiet_skip | (go_big_quiet_want; go_big_quiet_op; first | go_big_quiet_on | (apply Exists.intro; refine ⟨fun s => ?_, ?_⟩; (focus (first | (with_reducible exact gw_call s c1s))); go_big_quiet_on)))
        refine wpQuiet_nil ?_
        rintro wq ⟨⟨_, gq⟩, rfl⟩
        try dsimp only
        go_wp2
        go_roundw
        case rel => exact ⟨j + 1, by omega, by go_num, gr_then HG.out gq⟩
        case measure => simp [intOf]; omega
    · have hlt' : ¬ (j : Int) < ys.length := by omega
      have HGX := hid hg
      clear hg
      go_wp2_with fail
      apply hexit.out
      exact HGX.out
end Go.Proofs.Ytbmgmolnknnaiaa
