/- TopDescribed: the walk. -/
import Derived.Test.YthjdpcgkkmfodaaDescR0
import Derived.Test.YthjdpcgkkmfodaaDescR1
import Derived.Test.YthjdpcgkkmfodaaDescR2
import Derived.Test.YthjdpcgkkmfodaaDescR3
import Derived.Laws.AppendOwnNone
import Derived.Deep.DeepCutAuto
import Derived.Deep.CutBlock
namespace Go.Proofs.Ythjdpcgkkmfodaa.Desc
open Go.RowKit Go.Proofs.Ythjdpcgkkmfodaa.Base
set_option linter.unusedVariables false
set_option linter.unusedSimpArgs false

theorem info42 : (Try.prog.info? 42).map (fun i => (i.zero, i.size, i.bytes)) = some (some (.agg #[.int .u8 0, .int .u8 0]), 2, 2) := by kernel_rfl

def known : List Int := [0, 0, 2, 0, 1, 9, 3, 0, 3, 0, 0, 5, 3, 1]

set_option maxRecDepth 100000 in
set_option maxHeartbeats 1600000 in
theorem head_any (ao : Option Addr) (len cap n : Nat) (w : World) (hle : n ≤ cap) (hm : cap ≤ maxLen) (hs : n ≤ 150)
    (hmin : (if (150 : Int) < (len : Int) then 150 else (len : Int)) = (n : Int)) (hao : ao = none → n = 0 ∧ cap = 0)
    (X : List Int) (hXb : ∀ x ∈ X, 0 ≤ x ∧ x ≤ 255) (hX : X.length = n * 2) (hcells : ∀ ad, ao = some ad → ∀ j u, (X.map (Value.int .u8))[j]? = some u → w.cell? (ad.add j) = some u) (had : ∀ ad, ao = some ad → 0 < n → ad.block < w.heap.size) :
    Calls Try.prog 4 #[.slice ao len cap] w (New w (.bool true)) := by
  unfold maxLen at hm
  obtain ⟨i0, hi, hz0, hz1, hz2⟩ := info_parts info42
  have HX := Lib.hid hX; have HA := Lib.hid hao; have HC := Lib.hid hcells; have HD := Lib.hid had; clear hX hao hcells had
  go_enter Try.func4, Try.ntmps4
  go_wp2_with (first | (go_at_call 15; refine (new_any _).mono ?_; rintro e w' ⟨rfl, rfl⟩) | (at_builtin; go_loud (refine wpList_append_src rfl _ _ 37 rfl w.heap.size 42 i0 (.agg #[.int .u8 0, .int .u8 0]) 2 2 Try.underlying37 hi hz0 hz1 hz2 rfl (by decide) _ 7 (known.map (Value.int .u8)) rfl ?c0 ao n cap (X.map (Value.int .u8)) rfl HA.out ?c3 ?c4 ?c5 ?c6 ?c7 ?c8 ?_)))
  case c0 => exact own_lit _ _ _ _ (by simp) rfl (by simp; omega) (by decide) rfl
  case c3 => rw [List.length_map]; exact HX.out
  case c4 =>
    intro ad e j u hu
    have h1 := HC.out ad e j u hu
    have hb := World.block_lt_of_cell? w _ h1
    have hb2 : (ad.add j).block < w.heap.size := hb
    rw [World.cell?_alloc_lt _ _ _ (by simp; omega), World.cell?_alloc_lt _ _ _ (by simp; omega), World.cell?_alloc_lt _ _ _ (by omega)]
    exact h1
  case c5 => intro u hu; obtain ⟨x, _, rfl⟩ := List.mem_map.1 hu; rfl
  case c6 => unfold maxLen; omega
  case c7 => omega
  case c8 => simp; omega
  intro v' w1 hown hgrow
  rw [← List.map_append] at hown
  have hXK : ∀ x ∈ known ++ X, 0 ≤ x ∧ x ≤ 255 := by
    intro x hx
    rcases List.mem_append.1 hx with h | h
    · clear hx; revert x; decide
    · exact hXb x h
  have hXL : (known ++ X).length = (7 + n) * 2 := by rw [List.length_append, HX.out]; simp [known]; omega
  obtain ⟨g, cap', cur, rfl, hgB, hrow, hMc, _, _, htake⟩ : ∃ g cap cur, v' = .slice (some ⟨g, 0, none⟩) (7 + n) cap ∧ w.heap.size ≤ g ∧ w1.heap[g]? = some (.cells cur 42 (0, 0)) ∧ (7 + n) ≤ cap ∧ cap ≤ maxLen ∧ cur.size = cap * 2 ∧ cur.toList.take ((7 + n) * 2) = (known ++ X).map (Value.int .u8) := by
    rcases hown.2 with ⟨_, h⟩ | h
    · omega
    · exact h
  generalize known ++ X = XS at *
  have hB1 : Below w.heap.size w w1 := by
    refine Below.grown (w := _) ?_ hgrow ?_ ?_
    · exact ((((Below.refl _ _).alloc (Nat.le_refl _) _).alloc (by simp) _).alloc (by simp; omega) _)
    · simp; omega
    · intro k hk; simp [Value.ownBlock] at hk; omega
  have hT0 : Tab 72 w.heap.size w1 nilTab := by
    unfold Tab
    rw [hgrow.block _ (by simp; omega) (by simp [Value.ownBlock]; omega), Below.heap_alloc _ _ _ (by simp; omega), Below.heap_alloc _ _ _ (by simp)]
    exact heap_alloc_new w _
  have hN0 : Tab 41 (w.heap.size + 1) w1 nilTab := by
    unfold Tab
    rw [hgrow.block _ (by simp) (by simp [Value.ownBlock]), Below.heap_alloc _ _ _ (by simp)]
    have := heap_alloc_new (w.alloc (.cells (eight nilTab) 72)) (.cells (eight nilTab) 41)
    rw [World.size_alloc] at this; exact this
  have hI0 : Inv w.heap.size (w.heap.size + 1) nilTab nilTab w1 := ⟨hT0, hN0, fun _ _ => Iff.rfl, fun _ _ _ _ h => by simp [nilTab] at h, fun _ _ _ _ _ _ _ _ h => by simp [nilTab] at h, fun _ _ _ _ _ _ h => by simp [nilTab] at h⟩
  obtain ⟨B, hBe⟩ : ∃ B, B = w.heap.size := ⟨_, rfl⟩
  rw [← hBe] at hI0 hB1 ⊢
  have HB := Lib.hid hBe
  have HK := Lib.hid hXK; have HL := Lib.hid hXL; have HT := Lib.hid htake
  clear hT0 hN0 hgrow hown hXK hXL htake hBe HX HA HC HD hXb hmin hle hm hgB hMc hi hz0 hz1 hz2
  have hM1 : 7 + n ≤ 157 := by omega
  generalize 7 + n = M at *
  go_wp2_with fail
  have hF0 : Fin w B g cur w1 := ⟨_, _, hI0, hrow, by rw [HB.out] at hB1; exact hB1, by rw [HB.out]; exact Nat.le_refl _, fun _ _ _ h => by simp [nilTab] at h⟩
  go_loopw [45] (fun i wr => ∃ k : Nat, k ≤ M ∧ i = .int .i64 k ∧ Fin w B g cur wr) (fun i _ => M - (intOf i).toNat)
  case atStart => exact ⟨0, by omega, rfl, hF0⟩
  case round =>
    clear hI0 hrow hB1 hF0
    obtain ⟨k, hk, rfl, tf, nf, hS⟩ := hrel
    by_cases hlt : k < M
    · obtain ⟨a, b, e0, e1, a0, a1, b0, b1⟩ := row_at HT.out HL.out HK.out hlt
      rcases (show a % 4 = 0 ∨ a % 4 = 1 ∨ a % 4 = 2 ∨ a % 4 = 3 from by omega) with ha | ha | ha | ha
      · refine round_0 _ _ _ _ _ _ _ _ _ _ _ _ _ _ _ _ _ _ _ _ _ _ _ _ _ _ _ _ _ _ _ _ _ _ _ _ _ _ _ _ _ _ _ _ _ _ _ _ _ _ _ _ _ _ _ _ _ _ _ _ _ _ _ _ _ _ _ _ _ _ _ _ _ _ _ _ _ _ _ _ _ _ _ _ _ _ _ _ _ _ _ _ _ _ _ _ _ _ _ _ _ _ _ _ _ _ _ _ _ _ _ _ _ _ _ _ _ _ _ _ _ _ _ _ _ _ _ _ _ _ _ _ _ _ _ _ _ _ _ _ _ _ _ _ _ _ _ _ _ _ _ _ _ _ _ _ _ _ _ _ _ _ _ _ _ _ _ _ _ _ _ _ _ _ _ _ _ _ _ _ _ _ _ _ _ _ _ _ _ _ _ _ _ _ _ _ _ _ _ _ _ _ _ _ _ _ _ _ _ _ _ _ _ _ _ _ _ _ _ _ _ _ _ B g M cap' k cur w wr tf nf a b hM1 hlt hS e0 e1 a0 a1 b0 b1 ha ?_
        intro v2 v7 v8 v9 v10 v11 v12 v13 v14 v15 v16 v17 v18 v19 v20 v21 v22 v23 v24 v25 v45 v46 v47 v48 v49 v50 v51 v52 v53 v54 v55 v56 v57 v58 v59 v60 v61 v62 v63 v64 v65 v66 v67 v68 v69 v70 v71 v72 v73 v74 v75 v76 v77 v78 v79 v80 v81 v82 v83 v84 v85 v86 v87 v88 v89 v90 v91 v92 v93 v94 v95 v96 v97 v98 v99 v100 v101 v102 v103 v104 v105 v106 v107 v108 v109 v110 v111 v112 v113 v114 v115 v116 v117 v118 v119 v120 v121 v122 v123 v124 v125 v126 v127 v128 v129 v130 v131 v132 v133 v134 v135 v136 v137 v138 v139 v140 v141 v142 v143 v144 v145 v146 v147 v148 v149 v150 v151 v152 v153 v154 v155 v156 v157 v158 v159 v160 v161 v162 v163 v164 v165 v166 v167 v168 v169 v170 v171 v172 v173 v174 v175 v176 v177 v178 v179 v180 v181 v182 v183 v184 v185 v186 v187 v188 v189 v190 v191 v192 v193 v194 v195 v196 v197 v198 v199 v200 v201 v202 v203 v204 v205 v206 v207 v208 v209 v210 v211 v212 v213 v214 v215 v216 v217 v218 v219 v220 v221 v222 v223 v224 v225 v226 v227 w' hv
        obtain ⟨rfl, hF⟩ := hv
        dsimp only
        go_roundw
        case rel => exact ⟨k + 1, by omega, rfl, hF⟩
        case measure => simp [intOf]; omega
      · refine round_1 _ _ _ _ _ _ _ _ _ _ _ _ _ _ _ _ _ _ _ _ _ _ _ _ _ _ _ _ _ _ _ _ _ _ _ _ _ _ _ _ _ _ _ _ _ _ _ _ _ _ _ _ _ _ _ _ _ _ _ _ _ _ _ _ _ _ _ _ _ _ _ _ _ _ _ _ _ _ _ _ _ _ _ _ _ _ _ _ _ _ _ _ _ _ _ _ _ _ _ _ _ _ _ _ _ _ _ _ _ _ _ _ _ _ _ _ _ _ _ _ _ _ _ _ _ _ _ _ _ _ _ _ _ _ _ _ _ _ _ _ _ _ _ _ _ _ _ _ _ _ _ _ _ _ _ _ _ _ _ _ _ _ _ _ _ _ _ _ _ _ _ _ _ _ _ _ _ _ _ _ _ _ _ _ _ _ _ _ _ _ _ _ _ _ _ _ _ _ _ _ _ _ _ _ _ _ _ _ _ _ _ _ _ _ _ _ _ _ _ _ _ _ _ B g M cap' k cur w wr tf nf a b hM1 hlt hS e0 e1 a0 a1 b0 b1 ha ?_
        intro v2 v7 v8 v9 v10 v11 v12 v13 v14 v15 v16 v17 v18 v19 v20 v21 v22 v23 v24 v25 v45 v46 v47 v48 v49 v50 v51 v52 v53 v54 v55 v56 v57 v58 v59 v60 v61 v62 v63 v64 v65 v66 v67 v68 v69 v70 v71 v72 v73 v74 v75 v76 v77 v78 v79 v80 v81 v82 v83 v84 v85 v86 v87 v88 v89 v90 v91 v92 v93 v94 v95 v96 v97 v98 v99 v100 v101 v102 v103 v104 v105 v106 v107 v108 v109 v110 v111 v112 v113 v114 v115 v116 v117 v118 v119 v120 v121 v122 v123 v124 v125 v126 v127 v128 v129 v130 v131 v132 v133 v134 v135 v136 v137 v138 v139 v140 v141 v142 v143 v144 v145 v146 v147 v148 v149 v150 v151 v152 v153 v154 v155 v156 v157 v158 v159 v160 v161 v162 v163 v164 v165 v166 v167 v168 v169 v170 v171 v172 v173 v174 v175 v176 v177 v178 v179 v180 v181 v182 v183 v184 v185 v186 v187 v188 v189 v190 v191 v192 v193 v194 v195 v196 v197 v198 v199 v200 v201 v202 v203 v204 v205 v206 v207 v208 v209 v210 v211 v212 v213 v214 v215 v216 v217 v218 v219 v220 v221 v222 v223 v224 v225 v226 v227 w' hv
        obtain ⟨rfl, hF⟩ := hv
        dsimp only
        go_roundw
        case rel => exact ⟨k + 1, by omega, rfl, hF⟩
        case measure => simp [intOf]; omega
      · refine round_2 _ _ _ _ _ _ _ _ _ _ _ _ _ _ _ _ _ _ _ _ _ _ _ _ _ _ _ _ _ _ _ _ _ _ _ _ _ _ _ _ _ _ _ _ _ _ _ _ _ _ _ _ _ _ _ _ _ _ _ _ _ _ _ _ _ _ _ _ _ _ _ _ _ _ _ _ _ _ _ _ _ _ _ _ _ _ _ _ _ _ _ _ _ _ _ _ _ _ _ _ _ _ _ _ _ _ _ _ _ _ _ _ _ _ _ _ _ _ _ _ _ _ _ _ _ _ _ _ _ _ _ _ _ _ _ _ _ _ _ _ _ _ _ _ _ _ _ _ _ _ _ _ _ _ _ _ _ _ _ _ _ _ _ _ _ _ _ _ _ _ _ _ _ _ _ _ _ _ _ _ _ _ _ _ _ _ _ _ _ _ _ _ _ _ _ _ _ _ _ _ _ _ _ _ _ _ _ _ _ _ _ _ _ _ _ _ _ _ _ _ _ _ _ B g M cap' k cur w wr tf nf a b hM1 hlt hS e0 e1 a0 a1 b0 b1 ha ?_
        intro v2 v7 v8 v9 v10 v11 v12 v13 v14 v15 v16 v17 v18 v19 v20 v21 v22 v23 v24 v25 v45 v46 v47 v48 v49 v50 v51 v52 v53 v54 v55 v56 v57 v58 v59 v60 v61 v62 v63 v64 v65 v66 v67 v68 v69 v70 v71 v72 v73 v74 v75 v76 v77 v78 v79 v80 v81 v82 v83 v84 v85 v86 v87 v88 v89 v90 v91 v92 v93 v94 v95 v96 v97 v98 v99 v100 v101 v102 v103 v104 v105 v106 v107 v108 v109 v110 v111 v112 v113 v114 v115 v116 v117 v118 v119 v120 v121 v122 v123 v124 v125 v126 v127 v128 v129 v130 v131 v132 v133 v134 v135 v136 v137 v138 v139 v140 v141 v142 v143 v144 v145 v146 v147 v148 v149 v150 v151 v152 v153 v154 v155 v156 v157 v158 v159 v160 v161 v162 v163 v164 v165 v166 v167 v168 v169 v170 v171 v172 v173 v174 v175 v176 v177 v178 v179 v180 v181 v182 v183 v184 v185 v186 v187 v188 v189 v190 v191 v192 v193 v194 v195 v196 v197 v198 v199 v200 v201 v202 v203 v204 v205 v206 v207 v208 v209 v210 v211 v212 v213 v214 v215 v216 v217 v218 v219 v220 v221 v222 v223 v224 v225 v226 v227 w' hv
        obtain ⟨rfl, hF⟩ := hv
        dsimp only
        go_roundw
        case rel => exact ⟨k + 1, by omega, rfl, hF⟩
        case measure => simp [intOf]; omega
      · refine round_3 _ _ _ _ _ _ _ _ _ _ _ _ _ _ _ _ _ _ _ _ _ _ _ _ _ _ _ _ _ _ _ _ _ _ _ _ _ _ _ _ _ _ _ _ _ _ _ _ _ _ _ _ _ _ _ _ _ _ _ _ _ _ _ _ _ _ _ _ _ _ _ _ _ _ _ _ _ _ _ _ _ _ _ _ _ _ _ _ _ _ _ _ _ _ _ _ _ _ _ _ _ _ _ _ _ _ _ _ _ _ _ _ _ _ _ _ _ _ _ _ _ _ _ _ _ _ _ _ _ _ _ _ _ _ _ _ _ _ _ _ _ _ _ _ _ _ _ _ _ _ _ _ _ _ _ _ _ _ _ _ _ _ _ _ _ _ _ _ _ _ _ _ _ _ _ _ _ _ _ _ _ _ _ _ _ _ _ _ _ _ _ _ _ _ _ _ _ _ _ _ _ _ _ _ _ _ _ _ _ _ _ _ _ _ _ _ _ _ _ _ _ _ _ B g M cap' k cur w wr tf nf a b hM1 hlt hS e0 e1 a0 a1 b0 b1 ha ?_
        intro v2 v7 v8 v9 v10 v11 v12 v13 v14 v15 v16 v17 v18 v19 v20 v21 v22 v23 v24 v25 v45 v46 v47 v48 v49 v50 v51 v52 v53 v54 v55 v56 v57 v58 v59 v60 v61 v62 v63 v64 v65 v66 v67 v68 v69 v70 v71 v72 v73 v74 v75 v76 v77 v78 v79 v80 v81 v82 v83 v84 v85 v86 v87 v88 v89 v90 v91 v92 v93 v94 v95 v96 v97 v98 v99 v100 v101 v102 v103 v104 v105 v106 v107 v108 v109 v110 v111 v112 v113 v114 v115 v116 v117 v118 v119 v120 v121 v122 v123 v124 v125 v126 v127 v128 v129 v130 v131 v132 v133 v134 v135 v136 v137 v138 v139 v140 v141 v142 v143 v144 v145 v146 v147 v148 v149 v150 v151 v152 v153 v154 v155 v156 v157 v158 v159 v160 v161 v162 v163 v164 v165 v166 v167 v168 v169 v170 v171 v172 v173 v174 v175 v176 v177 v178 v179 v180 v181 v182 v183 v184 v185 v186 v187 v188 v189 v190 v191 v192 v193 v194 v195 v196 v197 v198 v199 v200 v201 v202 v203 v204 v205 v206 v207 v208 v209 v210 v211 v212 v213 v214 v215 v216 v217 v218 v219 v220 v221 v222 v223 v224 v225 v226 v227 w' hv
        obtain ⟨rfl, hF⟩ := hv
        dsimp only
        go_roundw
        case rel => exact ⟨k + 1, by omega, rfl, hF⟩
        case measure => simp [intOf]; omega
    · have hke : k = M := by omega
      have HE := Lib.hid hke
      have HBL := Lib.hid hS.below
      clear hke hS
      go_wp2_with fail
      go_ret
      exact ⟨rfl, HBL.out⟩
end Go.Proofs.Ythjdpcgkkmfodaa.Desc
