/- FnChains: its second loop, over a frame of letters. -/
import Derived.Test.YtbmgmolnknnaiaaChnF
import Derived.Deep.DeepCutAuto
namespace Go.Proofs.Ytbmgmolnknnaiaa
open Go.RowKit

set_option maxRecDepth 1000000 in
set_option maxHeartbeats 40000000 in
theorem chnLoop2 {PB pb po pc xb xo xc PX qb qo qc yb yo yc wb wo cw : Nat} {ps X : List (Int × Int)} {xs ys : List Int} {k : Nat} {x O N NX R : Int} {W8 : World} (HW8 : Hid (ChW W8 PB pb po pc xb xo xc ps xs)) (HX8 : Hid (ChW W8 PX qb qo qc yb yo yc X xs)) (HY8 : Hid (Ints W8 (.slice (some ⟨wb, wo, none⟩) ys.length cw) ys)) (HF : Hid (ChFacts ps X xs ys k x O N NX R)) (hpl : ps.length ≤ 6) (_hyl : ys.length ≤ 10) {c0 c1 c2 c4 c5 c7 c8 c9 c11 c13 c14 c15 c16 c17 c18 c19 c20 c21 c22 c23 c24 c25 c26 c27 c28 c29 c30 c31 c32 c33 c34 c35 c36 c37 c38 c39 c40 c41 c42 c43 c44 c45 c46 c47 c48 c49 c50 c51 c52 c53 c54 c55 c56 c57 c58 c59 c60 c61 c62 c63 c64 c65 c66 c67 c68 c69 c70 c71 c72 c73 c74 c75 c76 c77 c78 c79 c80 c81 c82 c83 c84 c85 c86 c87 c88 c89 c90 c91 c92 c93 c94 c95 c96 c97 c98 c99 c100 c101 c102 c103 c104 c105 c106 c107 c108 c109 c110 c111 c112 c113 c114 c115 c116 c117 c118 c119 c120 c121 c122 c123 c124 c125 c126 c127 c128 c129 c130 c131 c132 c133 c134 c135 c136 c137 c138 c139 c140 c141 c142 c143 c144 c145 c146 c147 c148 c149 c150 c151 c152 c153 c154 c155 c156 c157 c158 c159 c160 c161 c162 c163 c164 c165 c166 c167 c168 c169 c170 c171 c172 c173 c174 c175 c176 c177 c178 c179 c180 c181 c182 c183 c184 c185 c186 c187 c188 c189 c190 c191 c192 c193 c194 c195 c196 c197 c198 c199 c200 c201 c202 c203 c204 c205 c206 c207 c208 c209 c210 c211 c212 c213 c214 c215 c216 c217 c218 c219 c220 c221 c222 c223 c224 c225 c226 c227 c228 c229 c230 c231 c232 c233 c234 c235 c236 c237 c238 c239 c240 c241 c242 c243 c244 c245 c246 : Value} {Q : Exit → Act → World → Prop}
    (hexit : Hid (∀ (wr : World), Gr W8 wr none → ∀ (u2 u12 u150 u151 u152 u153 u154 u155 u156 u157 u158 u159 u160 u161 u162 u163 u164 u165 u166 u167 u168 u169 u170 u171 u172 u173 u174 u175 u176 u177 u178 u179 u180 u181 u182 u183 u184 u185 u186 u187 u188 u189 u190 : Value), Q (.exit 2) ⟨List.toArray (c0 :: c1 :: u2 :: .pointer (some ⟨PB, 0, none⟩) :: c4 :: c5 :: .pointer (some ⟨PX, 0, none⟩) :: c7 :: c8 :: c9 :: .slice (some ⟨wb, wo, none⟩) ys.length cw :: c11 :: u12 :: c13 :: c14 :: c15 :: c16 :: c17 :: c18 :: c19 :: c20 :: c21 :: c22 :: c23 :: c24 :: c25 :: c26 :: c27 :: c28 :: c29 :: c30 :: c31 :: c32 :: c33 :: c34 :: c35 :: c36 :: c37 :: c38 :: c39 :: c40 :: c41 :: c42 :: c43 :: c44 :: c45 :: c46 :: c47 :: c48 :: c49 :: c50 :: c51 :: c52 :: c53 :: c54 :: c55 :: c56 :: c57 :: c58 :: c59 :: c60 :: c61 :: c62 :: c63 :: c64 :: c65 :: c66 :: c67 :: c68 :: c69 :: c70 :: c71 :: c72 :: c73 :: c74 :: c75 :: c76 :: c77 :: c78 :: c79 :: c80 :: c81 :: c82 :: c83 :: c84 :: c85 :: c86 :: c87 :: c88 :: c89 :: c90 :: c91 :: c92 :: c93 :: c94 :: c95 :: c96 :: c97 :: c98 :: c99 :: c100 :: c101 :: c102 :: c103 :: c104 :: c105 :: c106 :: c107 :: c108 :: c109 :: c110 :: c111 :: c112 :: c113 :: c114 :: c115 :: c116 :: c117 :: c118 :: c119 :: c120 :: c121 :: c122 :: c123 :: c124 :: c125 :: c126 :: c127 :: c128 :: c129 :: c130 :: c131 :: c132 :: c133 :: c134 :: c135 :: c136 :: c137 :: c138 :: c139 :: c140 :: c141 :: c142 :: c143 :: c144 :: c145 :: c146 :: c147 :: c148 :: c149 :: u150 :: u151 :: u152 :: u153 :: u154 :: u155 :: u156 :: u157 :: u158 :: u159 :: u160 :: u161 :: u162 :: u163 :: u164 :: u165 :: u166 :: u167 :: u168 :: u169 :: u170 :: u171 :: u172 :: u173 :: u174 :: u175 :: u176 :: u177 :: u178 :: u179 :: u180 :: u181 :: u182 :: u183 :: u184 :: u185 :: u186 :: u187 :: u188 :: u189 :: u190 :: c191 :: c192 :: c193 :: c194 :: c195 :: c196 :: c197 :: c198 :: c199 :: c200 :: c201 :: c202 :: c203 :: c204 :: c205 :: c206 :: c207 :: c208 :: c209 :: c210 :: c211 :: c212 :: c213 :: c214 :: c215 :: c216 :: c217 :: c218 :: c219 :: c220 :: c221 :: c222 :: c223 :: c224 :: c225 :: c226 :: c227 :: c228 :: c229 :: c230 :: c231 :: c232 :: c233 :: c234 :: c235 :: c236 :: c237 :: c238 :: c239 :: c240 :: c241 :: c242 :: c243 :: c244 :: c245 :: c246 :: []), []⟩ wr)) :
    Code.wp Try.prog (Code.loop ((Try.f5.body.bind fun c => (loopsOf c)[1]?).getD .skip)) Q ⟨List.toArray (c0 :: c1 :: c2 :: .pointer (some ⟨PB, 0, none⟩) :: c4 :: c5 :: .pointer (some ⟨PX, 0, none⟩) :: c7 :: c8 :: c9 :: .slice (some ⟨wb, wo, none⟩) ys.length cw :: c11 :: .int .i64 0 :: c13 :: c14 :: c15 :: c16 :: c17 :: c18 :: c19 :: c20 :: c21 :: c22 :: c23 :: c24 :: c25 :: c26 :: c27 :: c28 :: c29 :: c30 :: c31 :: c32 :: c33 :: c34 :: c35 :: c36 :: c37 :: c38 :: c39 :: c40 :: c41 :: c42 :: c43 :: c44 :: c45 :: c46 :: c47 :: c48 :: c49 :: c50 :: c51 :: c52 :: c53 :: c54 :: c55 :: c56 :: c57 :: c58 :: c59 :: c60 :: c61 :: c62 :: c63 :: c64 :: c65 :: c66 :: c67 :: c68 :: c69 :: c70 :: c71 :: c72 :: c73 :: c74 :: c75 :: c76 :: c77 :: c78 :: c79 :: c80 :: c81 :: c82 :: c83 :: c84 :: c85 :: c86 :: c87 :: c88 :: c89 :: c90 :: c91 :: c92 :: c93 :: c94 :: c95 :: c96 :: c97 :: c98 :: c99 :: c100 :: c101 :: c102 :: c103 :: c104 :: c105 :: c106 :: c107 :: c108 :: c109 :: c110 :: c111 :: c112 :: c113 :: c114 :: c115 :: c116 :: c117 :: c118 :: c119 :: c120 :: c121 :: c122 :: c123 :: c124 :: c125 :: c126 :: c127 :: c128 :: c129 :: c130 :: c131 :: c132 :: c133 :: c134 :: c135 :: c136 :: c137 :: c138 :: c139 :: c140 :: c141 :: c142 :: c143 :: c144 :: c145 :: c146 :: c147 :: c148 :: c149 :: c150 :: c151 :: c152 :: c153 :: c154 :: c155 :: c156 :: c157 :: c158 :: c159 :: c160 :: c161 :: c162 :: c163 :: c164 :: c165 :: c166 :: c167 :: c168 :: c169 :: c170 :: c171 :: c172 :: c173 :: c174 :: c175 :: c176 :: c177 :: c178 :: c179 :: c180 :: c181 :: c182 :: c183 :: c184 :: c185 :: c186 :: c187 :: c188 :: c189 :: c190 :: c191 :: c192 :: c193 :: c194 :: c195 :: c196 :: c197 :: c198 :: c199 :: c200 :: c201 :: c202 :: c203 :: c204 :: c205 :: c206 :: c207 :: c208 :: c209 :: c210 :: c211 :: c212 :: c213 :: c214 :: c215 :: c216 :: c217 :: c218 :: c219 :: c220 :: c221 :: c222 :: c223 :: c224 :: c225 :: c226 :: c227 :: c228 :: c229 :: c230 :: c231 :: c232 :: c233 :: c234 :: c235 :: c236 :: c237 :: c238 :: c239 :: c240 :: c241 :: c242 :: c243 :: c244 :: c245 :: c246 :: []), []⟩ W8 := by
  conv => arg 2; arg 1; whnf
  go_loopw [12] (fun i wr => ∃ i' : Nat, i' ≤ ps.length ∧ i = .int .i64 i' ∧ Gr W8 wr none) (fun i _ => ps.length - (intOf i).toNat)
  case atStart => exact ⟨0, Nat.zero_le _, rfl, gr_refl _ _⟩
  case round =>
    obtain ⟨i, hi, rfl, hg⟩ := hrel
    have c0 := cell_on hg HW8.out.c0
    by_cases hlt : i < ps.length
    · have hlt' : (i : Int) < ps.length := by omega
      have hltX : i < X.length := by rw [HF.out.lenX]; exact hlt
      have hltX' : (i : Int) < X.length := by omega
      have x0 := cell_on hg HX8.out.c0
      have hcc := (HW8.out.pa.kept hg (by simp) i hlt).2
      have hcx := (HX8.out.pa.kept hg (by simp) i hltX).2
      have hup := HF.out.up i hlt
      have hsame := HF.out.same i hlt
      have HY := hid (HY8.out.on hg)
      have HHas : Hid (∀ W, Gr wr W none → Calls Try.prog 23 #[.slice (some ⟨wb, wo, none⟩) ys.length cw, .int .i64 i] W fun e w' => e = .returned (.bool (hasB ys i)) ∧ Gr W w' none) := fun W g => (has_any (i : Int) W (HY.out.on g)).mono fun e w' hh => ⟨hh.1, by rw [← hh.2]; exact gr_refl _ _⟩
      have HG := hid hg
      generalize (gp X i).2 = lx at *
      generalize (gp ps i).2 = lc at *
      have e1 : decide (lx < lc) = false := by simp; omega
      have c0s := fun s : Gw wr => cell_on s.h c0
      have x0s := fun s : Gw wr => cell_on s.h x0
      cases hb : hasB ys i
      · have e2 : lx = lc := hsame (hasB_get hb)
        subst e2
        rw [hb] at HHas
        have hccs := fun s : Gw wr => cell_on s.h hcc
        have hcxs := fun s : Gw wr => cell_on s.h hcx
        clear hb hsame hup hg x0 hcc hcx HY
        go_wp2_with fail
        try simp only [List.append_eq, List.cons_append, List.nil_append]
        refine region_gw (w0 := wr) (by kernel_rfl) (by kernel_rfl) (by kernel_rfl) ?_
        repeat (first | go_big_quiet_skip | (go_big_quiet_want; go_big_quiet_op; first | go_big_quiet_on | (apply Exists.intro; refine ⟨fun s => ?_, ?_⟩; (focus (first | (with_reducible exact gw_call s (HHas.out s.w s.h)))); go_big_quiet_on)))
        refine wpQuiet_nil ?_
        rintro wq ⟨⟨_, gq⟩, rfl⟩
        try dsimp only
        go_wp2
        go_roundw
        case rel => exact ⟨i + 1, by omega, by go_num, gr_then HG.out gq⟩
        case measure => simp [intOf]; omega
      · rw [hb] at HHas
        have hccs := fun s : Gw wr => cell_on s.h hcc
        have hcxs := fun s : Gw wr => cell_on s.h hcx
        clear hb hsame hup hg x0 hcc hcx HY
        go_wp2_with fail
        try simp only [List.append_eq, List.cons_append, List.nil_append]
        refine region_gw (w0 := wr) (by kernel_rfl) (by kernel_rfl) (by kernel_rfl) ?_
        repeat (first | go_big_quiet_skip | (go_big_quiet_want; go_big_quiet_op; first | go_big_quiet_on | (apply Exists.intro; refine ⟨fun s => ?_, ?_⟩; (focus (first | (with_reducible exact gw_call s (HHas.out s.w s.h)))); go_big_quiet_on)))
        refine wpQuiet_nil ?_
        rintro wq ⟨⟨_, gq⟩, rfl⟩
        try dsimp only
        go_wp2
        go_roundw
        case rel => exact ⟨i + 1, by omega, by go_num, gr_then HG.out gq⟩
        case measure => simp [intOf]; omega
    · have hlt' : ¬ (i : Int) < ps.length := by omega
      have HGX := hid hg
      clear hg
      go_wp2_with fail
      apply hexit.out
      exact HGX.out
end Go.Proofs.Ytbmgmolnknnaiaa
