/- FnChains: its third loop, over a frame of letters. -/
import Derived.Test.YtbmgmolnknnaiaaChnF
import Derived.Deep.DeepCutAuto
namespace Go.Proofs.Ytbmgmolnknnaiaa
open Go.RowKit

set_option maxRecDepth 1000000 in
set_option maxHeartbeats 40000000 in
theorem chnLoop3 {PB pb po pc xb xo xc PX qb qo qc yb yo yc wb wo cw : Nat} {ps X : List (Int × Int)} {xs ys : List Int} {k : Nat} {x O N NX R : Int} {W9 : World} (HW9 : Hid (ChW W9 PB pb po pc xb xo xc ps xs)) (HX9 : Hid (ChW W9 PX qb qo qc yb yo yc X xs)) (HYC9 : Hid (IntsAt W9 wb wo ys)) (HF : Hid (ChFacts ps X xs ys k x O N NX R)) (hpl : ps.length ≤ 6) (hyl : ys.length ≤ 10) (hy1 : 1 ≤ ys.length) {c0 c1 c2 c4 c5 c7 c8 c9 c11 c12 c14 c15 c16 c17 c18 c19 c20 c21 c22 c23 c24 c25 c26 c27 c28 c29 c30 c31 c32 c33 c34 c35 c36 c37 c38 c39 c40 c41 c42 c43 c44 c45 c46 c47 c48 c49 c50 c51 c52 c53 c54 c55 c56 c57 c58 c59 c60 c61 c62 c63 c64 c65 c66 c67 c68 c69 c70 c71 c72 c73 c74 c75 c76 c77 c78 c79 c80 c81 c82 c83 c84 c85 c86 c87 c88 c89 c90 c91 c92 c93 c94 c95 c96 c97 c98 c99 c100 c101 c102 c103 c104 c105 c106 c107 c108 c109 c110 c111 c112 c113 c114 c115 c116 c117 c118 c119 c120 c121 c122 c123 c124 c125 c126 c127 c128 c129 c130 c131 c132 c133 c134 c135 c136 c137 c138 c139 c140 c141 c142 c143 c144 c145 c146 c147 c148 c149 c150 c151 c152 c153 c154 c155 c156 c157 c158 c159 c160 c161 c162 c163 c164 c165 c166 c167 c168 c169 c170 c171 c172 c173 c174 c175 c176 c177 c178 c179 c180 c181 c182 c183 c184 c185 c186 c187 c188 c189 c190 c191 c192 c193 c194 c195 c196 c197 c198 c199 c200 c201 c202 c203 c204 c205 c206 c207 c208 c209 c210 c211 c212 c213 c214 c215 c216 c217 c218 c219 c220 c221 c222 c223 c224 c225 c226 c227 c228 c229 c230 c231 c232 c233 c234 c235 c236 c237 c238 c239 c240 c241 c242 c243 c244 c245 c246 : Value} {Q : Exit → Act → World → Prop}
    (hexit : Hid (∀ (wr : World), Gr W9 wr none → ∀ (u2 u13 u14 u191 u192 u193 u194 u195 u196 u197 u198 u199 u200 u201 u202 u203 u204 u205 u206 u207 u208 u209 u210 u211 u212 u213 u214 u215 u216 u217 u218 u219 u220 u221 u222 u223 u224 u225 u226 u227 u228 u229 u230 u231 : Value), Q (.exit 4) ⟨List.toArray (c0 :: c1 :: u2 :: .pointer (some ⟨PB, 0, none⟩) :: c4 :: c5 :: .pointer (some ⟨PX, 0, none⟩) :: c7 :: c8 :: c9 :: .slice (some ⟨wb, wo, none⟩) ys.length cw :: c11 :: c12 :: u13 :: u14 :: c15 :: c16 :: c17 :: c18 :: c19 :: c20 :: c21 :: c22 :: c23 :: c24 :: c25 :: c26 :: c27 :: c28 :: c29 :: c30 :: c31 :: c32 :: c33 :: c34 :: c35 :: c36 :: c37 :: c38 :: c39 :: c40 :: c41 :: c42 :: c43 :: c44 :: c45 :: c46 :: c47 :: c48 :: c49 :: c50 :: c51 :: c52 :: c53 :: c54 :: c55 :: c56 :: c57 :: c58 :: c59 :: c60 :: c61 :: c62 :: c63 :: c64 :: c65 :: c66 :: c67 :: c68 :: c69 :: c70 :: c71 :: c72 :: c73 :: c74 :: c75 :: c76 :: c77 :: c78 :: c79 :: c80 :: c81 :: c82 :: c83 :: c84 :: c85 :: c86 :: c87 :: c88 :: c89 :: c90 :: c91 :: c92 :: c93 :: c94 :: c95 :: c96 :: c97 :: c98 :: c99 :: c100 :: c101 :: c102 :: c103 :: c104 :: c105 :: c106 :: c107 :: c108 :: c109 :: c110 :: c111 :: c112 :: c113 :: c114 :: c115 :: c116 :: c117 :: c118 :: c119 :: c120 :: c121 :: c122 :: c123 :: c124 :: c125 :: c126 :: c127 :: c128 :: c129 :: c130 :: c131 :: c132 :: c133 :: c134 :: c135 :: c136 :: c137 :: c138 :: c139 :: c140 :: c141 :: c142 :: c143 :: c144 :: c145 :: c146 :: c147 :: c148 :: c149 :: c150 :: c151 :: c152 :: c153 :: c154 :: c155 :: c156 :: c157 :: c158 :: c159 :: c160 :: c161 :: c162 :: c163 :: c164 :: c165 :: c166 :: c167 :: c168 :: c169 :: c170 :: c171 :: c172 :: c173 :: c174 :: c175 :: c176 :: c177 :: c178 :: c179 :: c180 :: c181 :: c182 :: c183 :: c184 :: c185 :: c186 :: c187 :: c188 :: c189 :: c190 :: u191 :: u192 :: u193 :: u194 :: u195 :: u196 :: u197 :: u198 :: u199 :: u200 :: u201 :: u202 :: u203 :: u204 :: u205 :: u206 :: u207 :: u208 :: u209 :: u210 :: u211 :: u212 :: u213 :: u214 :: u215 :: u216 :: u217 :: u218 :: u219 :: u220 :: u221 :: u222 :: u223 :: u224 :: u225 :: u226 :: u227 :: u228 :: u229 :: u230 :: u231 :: c232 :: c233 :: c234 :: c235 :: c236 :: c237 :: c238 :: c239 :: c240 :: c241 :: c242 :: c243 :: c244 :: c245 :: c246 :: []), []⟩ wr)) :
    Code.wp Try.prog (Code.loop ((Try.f5.body.bind fun c => (loopsOf c)[2]?).getD .skip)) Q ⟨List.toArray (c0 :: c1 :: c2 :: .pointer (some ⟨PB, 0, none⟩) :: c4 :: c5 :: .pointer (some ⟨PX, 0, none⟩) :: c7 :: c8 :: c9 :: .slice (some ⟨wb, wo, none⟩) ys.length cw :: c11 :: c12 :: .int .i64 1 :: c14 :: c15 :: c16 :: c17 :: c18 :: c19 :: c20 :: c21 :: c22 :: c23 :: c24 :: c25 :: c26 :: c27 :: c28 :: c29 :: c30 :: c31 :: c32 :: c33 :: c34 :: c35 :: c36 :: c37 :: c38 :: c39 :: c40 :: c41 :: c42 :: c43 :: c44 :: c45 :: c46 :: c47 :: c48 :: c49 :: c50 :: c51 :: c52 :: c53 :: c54 :: c55 :: c56 :: c57 :: c58 :: c59 :: c60 :: c61 :: c62 :: c63 :: c64 :: c65 :: c66 :: c67 :: c68 :: c69 :: c70 :: c71 :: c72 :: c73 :: c74 :: c75 :: c76 :: c77 :: c78 :: c79 :: c80 :: c81 :: c82 :: c83 :: c84 :: c85 :: c86 :: c87 :: c88 :: c89 :: c90 :: c91 :: c92 :: c93 :: c94 :: c95 :: c96 :: c97 :: c98 :: c99 :: c100 :: c101 :: c102 :: c103 :: c104 :: c105 :: c106 :: c107 :: c108 :: c109 :: c110 :: c111 :: c112 :: c113 :: c114 :: c115 :: c116 :: c117 :: c118 :: c119 :: c120 :: c121 :: c122 :: c123 :: c124 :: c125 :: c126 :: c127 :: c128 :: c129 :: c130 :: c131 :: c132 :: c133 :: c134 :: c135 :: c136 :: c137 :: c138 :: c139 :: c140 :: c141 :: c142 :: c143 :: c144 :: c145 :: c146 :: c147 :: c148 :: c149 :: c150 :: c151 :: c152 :: c153 :: c154 :: c155 :: c156 :: c157 :: c158 :: c159 :: c160 :: c161 :: c162 :: c163 :: c164 :: c165 :: c166 :: c167 :: c168 :: c169 :: c170 :: c171 :: c172 :: c173 :: c174 :: c175 :: c176 :: c177 :: c178 :: c179 :: c180 :: c181 :: c182 :: c183 :: c184 :: c185 :: c186 :: c187 :: c188 :: c189 :: c190 :: c191 :: c192 :: c193 :: c194 :: c195 :: c196 :: c197 :: c198 :: c199 :: c200 :: c201 :: c202 :: c203 :: c204 :: c205 :: c206 :: c207 :: c208 :: c209 :: c210 :: c211 :: c212 :: c213 :: c214 :: c215 :: c216 :: c217 :: c218 :: c219 :: c220 :: c221 :: c222 :: c223 :: c224 :: c225 :: c226 :: c227 :: c228 :: c229 :: c230 :: c231 :: c232 :: c233 :: c234 :: c235 :: c236 :: c237 :: c238 :: c239 :: c240 :: c241 :: c242 :: c243 :: c244 :: c245 :: c246 :: []), []⟩ W9 := by
  conv => arg 2; arg 1; whnf
  go_loopw [13, 14] (fun i _ wr => ∃ m : Nat, m + 1 ≤ ys.length ∧ i = .int .i64 ((m : Int) + 1) ∧ Gr W9 wr none) (fun i _ _ => ys.length - (intOf i).toNat)
  case atStart => exact ⟨0, hy1, rfl, gr_refl _ _⟩
  case round =>
    obtain ⟨m, hm, rfl, hg⟩ := hrel
    by_cases hlt : m + 1 < ys.length
    · have hlt' : (m : Int) + 1 < ys.length := by omega
      have hlm : (m : Int) < ys.length := by omega
      have hwm : IntKind.i64.wrap (m : Int) = m := IntWalk.i64_in _ (by omega)
      obtain ⟨a0', a1'⟩ := HF.out.inn m (by omega)
      obtain ⟨b0', b1'⟩ := HF.out.inn (m + 1) hlt
      have hfull := HF.out.full m hlt
      have hya := HYC9.out.kept hg (by simp) m (by omega)
      have hyb := HYC9.out.kept hg (by simp) (m + 1) hlt
      obtain ⟨a, ha⟩ := Int.eq_ofNat_of_zero_le a0'
      obtain ⟨b, hb⟩ := Int.eq_ofNat_of_zero_le b0'
      rw [ha] at hya hfull
      rw [hb] at hyb hfull
      rw [Int.toNat_natCast, Int.toNat_natCast] at hfull
      have haX : a < X.length := by rw [HF.out.lenX]; omega
      have hbX : b < X.length := by rw [HF.out.lenX]; omega
      have hbp : b < ps.length := by omega
      have haX' : (a : Int) < X.length := by omega
      have hbX' : (b : Int) < X.length := by omega
      have hbp' : (b : Int) < ps.length := by omega
      obtain ⟨xa1, xa2⟩ := HX9.out.pa.kept hg (by simp) a haX
      obtain ⟨-, xb2⟩ := HX9.out.pa.kept hg (by simp) b hbX
      obtain ⟨-, cb2⟩ := HW9.out.pa.kept hg (by simp) b hbp
      have x0 := cell_on hg HX9.out.c0
      have c0 := cell_on hg HW9.out.c0
      have HG := hid hg
      generalize (gp X a).1 = ra at *
      generalize (gp X a).2 = la at *
      generalize (gp X b).2 = lx at *
      generalize (gp ps b).2 = lc at *
      have HFULL := hid hfull
      clear hfull ha hb a0' a1' b0' b1' hg
      have HON : Hid (∀ W : World, Gr wr W none → (W.cell? ⟨PX, 0, none⟩ = some (.slice (some ⟨qb, qo, none⟩) X.length qc) ∧ W.cell? ⟨wb, wo + m, none⟩ = some (.int .i64 a) ∧ W.cell? ⟨qb, qo + a * 2, none⟩ = some (.int .i64 ra) ∧ W.cell? ⟨qb, qo + a * 2 + 1, none⟩ = some (.int .i64 la) ∧ Gr wr W none)) := fun W g => ⟨cell_on g x0, cell_on g hya, cell_on g xa1, cell_on g xa2, g⟩
      go_upto_region 25 with fail
      go_cut [14] from 191 to 231 (fun p wx => ∃ D, p = .pointer (some ⟨D, 0, none⟩) ∧ wx.cell? ⟨D, 0, none⟩ = some (.int .i64 ra) ∧ wx.cell? ⟨D, 1, none⟩ = some (.int .i64 la) ∧ Gr wr wx none)
      case first =>
        obtain ⟨s0, s1, s2, s3, -⟩ := HON.out wr (gr_refl _ _)
        obtain ⟨q0, q1, q2, q3, -⟩ := HON.out (wr.alloc (.cells #[.int .i64 0, .int .i64 0] 24)) (gr_alloc (gr_refl _ _) _)
        go_region
        go_wp2_with fail
        go_meet
        exact ⟨wr.heap.size, rfl, by simp [go_sem], by simp [go_sem], gr_drew (gr_alloc (gr_refl _ _) _)⟩
      case rest =>
      obtain ⟨D, rfl, d0, d1, gc⟩ := hcut
      have c0s := fun s : Gw wc => cell_on s.h (cell_on gc c0)
      have x0s := fun s : Gw wc => cell_on s.h (cell_on gc x0)
      have ybs := fun s : Gw wc => cell_on s.h (cell_on gc hyb)
      have xbs := fun s : Gw wc => cell_on s.h (cell_on gc xb2)
      have cbs := fun s : Gw wc => cell_on s.h (cell_on gc cb2)
      have d0s := fun s : Gw wc => cell_on s.h d0
      have d1s := fun s : Gw wc => cell_on s.h d1
      have HGc := hid (gr_then HG.out gc)
      clear c0 x0 hya hyb xa1 xa2 xb2 cb2 d0 d1 gc HON HG
      by_cases hgt : lc < lx
      · have e1 : la = ra := HFULL.out hgt
        subst e1
        have e2 : decide (lc < lx) = true := by simpa using hgt
        clear HFULL
        go_wp2_with fail
        try simp only [List.append_eq, List.cons_append, List.nil_append]
        refine region_gw (w0 := wc) (by kernel_rfl) (by kernel_rfl) (by kernel_rfl) ?_
        repeat (first | go_big_quiet_skip | (go_big_quiet_want; go_big_quiet_op; first | go_big_quiet_on | (apply Exists.intro; refine ⟨fun s => ?_, ?_⟩; (focus (first | (with_reducible exact gw_call s c0s))); go_big_quiet_on)))
        refine wpQuiet_nil ?_
        rintro wq ⟨⟨_, gq⟩, rfl⟩
        try dsimp only
        go_wp2
        go_roundw
        case rel => (repeat apply Exists.intro); exact ⟨hlt, by go_num, gr_then HGc.out gq⟩
        case measure => simp [intOf]; omega
      · have e2 : decide (lc < lx) = false := by simpa using hgt
        clear HFULL
        go_wp2_with fail
        try simp only [List.append_eq, List.cons_append, List.nil_append]
        refine region_gw (w0 := wc) (by kernel_rfl) (by kernel_rfl) (by kernel_rfl) ?_
        repeat (first | go_big_quiet_skip | (go_big_quiet_want; go_big_quiet_op; first | go_big_quiet_on | (apply Exists.intro; refine ⟨fun s => ?_, ?_⟩; (focus (first | (with_reducible exact gw_call s c0s))); go_big_quiet_on)))
        refine wpQuiet_nil ?_
        rintro wq ⟨⟨_, gq⟩, rfl⟩
        try dsimp only
        go_wp2
        go_roundw
        case rel => (repeat apply Exists.intro); exact ⟨hlt, by go_num, gr_then HGc.out gq⟩
        case measure => simp [intOf]; omega
    · have hlt' : ¬ (m : Int) + 1 < ys.length := by omega
      have HGX := hid hg
      clear hg
      go_wp2_with fail
      apply hexit.out
      exact HGX.out
end Go.Proofs.Ytbmgmolnknnaiaa
