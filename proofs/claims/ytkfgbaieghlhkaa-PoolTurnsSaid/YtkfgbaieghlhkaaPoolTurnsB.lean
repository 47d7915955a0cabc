/- PoolTurns: the arms of a turn, each for itself. -/
import Derived.Test.YtkfgbaieghlhkaaPoolTurnsA
namespace Go.Proofs.Ytkfgbaieghlhkaa
open Go.RowKit

theorem own_below {w w' : World} {base : Nat} {e : TypeId} {size : Nat} {v : Value} {m : Nat} {xs : List Value} (h : w.ownsRow base e size v m xs) (g : Below w.heap.size w w') : w'.ownsRow base e size v m xs := by
  refine ⟨h.1, ?_⟩
  rcases h.2 with h2 | ⟨b, c, cur, h3, h4, h5, h6⟩
  · exact Or.inl h2
  · exact Or.inr ⟨b, c, cur, h3, h4, (g.block b (Array.getElem?_eq_some_iff.1 h5).1).trans h5, h6⟩
theorem freeN_sub (l : List Buf) (n : Nat) : (n : Int) - (freeN l n : Int) = ((heldL l n).length : Int) := by
  have := heldL_le l n
  unfold freeN; omega
def findBlock (n : Nat) : Code → Option Code
  | .block m c => if m = n then some (.block m c) else findBlock n c
  | .seq a b => match findBlock n a with
    | some c => some c
    | none => findBlock n b
  | .loop c => findBlock n c
  | .scope c => findBlock n c
  | .cond _ a b => match findBlock n a with
    | some c => some c
    | none => findBlock n b
  | _ => none
noncomputable def blk2 : Code := ((Try.f7.body.bind (findBlock 2)).getD .skip)
/-- What a turn leaves. -/
def Left (w : World) (pb B rb n k : Nat) (s8 : Value) (wx : World) : Prop := ∃ (l' : List Buf) (ev' : Nat), s8 = .int .u64 ev' ∧ ev' ≤ k + 1 ∧ PoolAt wx pb B n l' ev' ∧ RefAt wx rb n l' ∧ Below w.heap.size w wx

set_option maxHeartbeats 4000000 in
set_option maxRecDepth 20000 in
theorem arm2 (w W1 : World) (pb B rb A n k ev r d : Nat) (i : Int) (t : ByteArray) (l : List Buf) (c0 c1 c2 c3 c4 c6 c9 c11 c12 c13 c14 c15 c16 c17 c18 c19 c20 c21 c22 c23 c24 c25 c26 c27 c28 c29 c30 c31 c32 c33 c34 c35 c36 c37 c38 c39 c40 c41 c42 c43 c44 c45 c46 c47 c48 c49 c50 c51 c52 c53 c54 c55 c56 c57 c58 c59 c60 c62 c63 c64 c65 c66 c67 c68 c69 c70 c71 c72 c73 c74 c75 c76 c77 c78 c79 c80 c81 c82 c83 c84 c85 c86 c87 c88 c89 c90 c91 c92 c93 c94 c95 c96 c97 c98 c99 c100 c101 c102 c103 c104 c105 c106 c107 c108 c109 c110 c111 c112 c113 c114 c115 c116 c117 c118 c119 c120 c121 c122 c123 c124 c125 c126 c127 c128 c129 c130 c131 c132 c133 c134 c135 c136 c137 c138 c139 c140 c141 c142 c143 c144 c145 c146 c147 c148 c149 c150 c151 c152 c153 c154 c155 c156 c157 c158 c159 c160 c161 c162 c163 c164 c165 c166 c167 c168 c169 c170 c171 c172 c173 c174 c175 c176 c177 c178 c179 c180 c181 c182 c183 c184 c185 c186 c187 c188 c189 c190 c191 c192 c193 c194 c195 c196 c197 c198 c199 c200 c201 c202 c203 c204 c205 c206 c207 c208 c209 c210 c211 c212 c213 c214 c215 c216 c217 c218 c219 c220 c221 c222 c223 c224 c225 c226 c227 c228 c229 c230 c231 c232 c233 c234 c235 c236 c237 c238 c239 c240 c241 c242 c243 c244 c245 c246 c247 c248 c249 c250 c251 c252 c253 c254 c255 c256 c257 c258 c259 c260 c261 c262 c263 c264 c265 c266 c267 c268 c269 : Value) (Q : Exit → Act → World → Prop) (h1 : 1 ≤ n) (h2 : n ≤ 256) (hk80 : k ≤ 80) (hev : ev ≤ k) (hd : d ≤ 255)
    (hr1 : (d : Int) % 5 = (r : Int)) (hr2 : (d : Int).tmod 5 = (r : Int)) (hr5 : r < 5) (hr : r = 2) (hbig : ¬ 600 < t.size) (hAl : A < W1.heap.size) (hPl : B < A) (hPl2 : pb < A) (hRl : rb < A)
    (hS : Hid (St w W1 pb B rb A n l l ev #[.int .u8 d, .int .i64 i, .string t]))
    (hQ : ∀ (s8 x4 x11 x12 x13 x14 x15 x16 x17 x18 x19 x62 x63 x64 x65 x66 x67 x68 x69 x70 x71 x72 x73 x74 x75 x76 x77 x78 x79 x80 x81 x82 x83 x84 x85 x86 x87 x88 x89 x90 x91 x92 x93 x94 x95 x96 x97 x98 x99 x100 x101 x102 x103 x104 x105 x106 x107 x108 x109 x110 x111 x112 x113 x114 x115 x116 x117 x118 x119 x120 x121 x122 x123 x124 x125 x126 x127 x128 x129 x130 x131 x132 x133 x134 x135 x136 x137 x138 x139 x140 x141 x142 x143 x144 x145 x146 x147 x148 x149 x150 x151 x152 x153 x154 x155 x156 x157 x158 x159 x160 x161 x162 x163 x164 x165 x166 x167 x168 x169 x170 x171 x172 x173 x174 x175 x176 x177 x178 x179 x180 x181 : Value) (wx : World), Left w pb B rb n k s8 wx → Q .normal ⟨#[c0, c1, c2, c3, x4, .pointer (some ⟨pb, 0, none⟩), c6, .slice (some ⟨rb, 0, none⟩) n n, s8, c9, .pointer (some ⟨A, 0, none⟩), x11, x12, x13, x14, x15, x16, x17, x18, x19, c20, c21, c22, c23, c24, c25, c26, c27, c28, c29, c30, c31, c32, c33, c34, c35, c36, c37, c38, c39, c40, c41, c42, c43, c44, c45, c46, c47, c48, c49, c50, c51, c52, c53, c54, c55, c56, c57, c58, c59, c60, .int .u8 r, x62, x63, x64, x65, x66, x67, x68, x69, x70, x71, x72, x73, x74, x75, x76, x77, x78, x79, x80, x81, x82, x83, x84, x85, x86, x87, x88, x89, x90, x91, x92, x93, x94, x95, x96, x97, x98, x99, x100, x101, x102, x103, x104, x105, x106, x107, x108, x109, x110, x111, x112, x113, x114, x115, x116, x117, x118, x119, x120, x121, x122, x123, x124, x125, x126, x127, x128, x129, x130, x131, x132, x133, x134, x135, x136, x137, x138, x139, x140, x141, x142, x143, x144, x145, x146, x147, x148, x149, x150, x151, x152, x153, x154, x155, x156, x157, x158, x159, x160, x161, x162, x163, x164, x165, x166, x167, x168, x169, x170, x171, x172, x173, x174, x175, x176, x177, x178, x179, x180, x181, c182, c183, c184, c185, c186, c187, c188, c189, c190, c191, c192, c193, c194, c195, c196, c197, c198, c199, c200, c201, c202, c203, c204, c205, c206, c207, c208, c209, c210, c211, c212, c213, c214, c215, c216, c217, c218, c219, c220, c221, c222, c223, c224, c225, c226, c227, c228, c229, c230, c231, c232, c233, c234, c235, c236, c237, c238, c239, c240, c241, c242, c243, c244, c245, c246, c247, c248, c249, c250, c251, c252, c253, c254, c255, c256, c257, c258, c259, c260, c261, c262, c263, c264, c265, c266, c267, c268, c269], []⟩ wx) :
    Code.wp Try.prog blk2 Q ⟨#[c0, c1, c2, c3, c4, .pointer (some ⟨pb, 0, none⟩), c6, .slice (some ⟨rb, 0, none⟩) n n, .int .u64 ev, c9, .pointer (some ⟨A, 0, none⟩), c11, c12, c13, c14, c15, c16, c17, c18, c19, c20, c21, c22, c23, c24, c25, c26, c27, c28, c29, c30, c31, c32, c33, c34, c35, c36, c37, c38, c39, c40, c41, c42, c43, c44, c45, c46, c47, c48, c49, c50, c51, c52, c53, c54, c55, c56, c57, c58, c59, c60, .int .u8 r, c62, c63, c64, c65, c66, c67, c68, c69, c70, c71, c72, c73, c74, c75, c76, c77, c78, c79, c80, c81, c82, c83, c84, c85, c86, c87, c88, c89, c90, c91, c92, c93, c94, c95, c96, c97, c98, c99, c100, c101, c102, c103, c104, c105, c106, c107, c108, c109, c110, c111, c112, c113, c114, c115, c116, c117, c118, c119, c120, c121, c122, c123, c124, c125, c126, c127, c128, c129, c130, c131, c132, c133, c134, c135, c136, c137, c138, c139, c140, c141, c142, c143, c144, c145, c146, c147, c148, c149, c150, c151, c152, c153, c154, c155, c156, c157, c158, c159, c160, c161, c162, c163, c164, c165, c166, c167, c168, c169, c170, c171, c172, c173, c174, c175, c176, c177, c178, c179, c180, c181, c182, c183, c184, c185, c186, c187, c188, c189, c190, c191, c192, c193, c194, c195, c196, c197, c198, c199, c200, c201, c202, c203, c204, c205, c206, c207, c208, c209, c210, c211, c212, c213, c214, c215, c216, c217, c218, c219, c220, c221, c222, c223, c224, c225, c226, c227, c228, c229, c230, c231, c232, c233, c234, c235, c236, c237, c238, c239, c240, c241, c242, c243, c244, c245, c246, c247, c248, c249, c250, c251, c252, c253, c254, c255, c256, c257, c258, c259, c260, c261, c262, c263, c264, c265, c266, c267, c268, c269], []⟩ W1 := by
  have hlen : l.length = n := hS.out.P.len
  conv => arg 2; whnf
  obtain rfl : r = 2 := by omega
  have e1 : (d : Int) % 5 = 2 := by omega
  have e2 : (d : Int).tmod 5 = 2 := by rw [hr2]; rfl
  clear hr1 hr2
  rcases own_cases l n i with ⟨q, rfl, hq, hh⟩ | hbad
  · have S := hS.out; have hA := S.BA.cell; have hAf := S.BA.frozen
    have hq1 : (q : Int) < n := by omega
    obtain ⟨s, hs⟩ : ∃ s, (l.getD q default).text = s := ⟨_, rfl⟩
    go_wp2_with fail
    refine (read_ok pb B n ev q l s _ S.P hq hh hs).mono ?_
    rintro e w5 ⟨rfl, hb⟩
    have S2 := S.below hb
    clear S hb hA hAf
    have hA := S2.BA.cell; have hAf := S2.BA.frozen
    go_wp2_with fail
    refine (owner_ok rb n q l _ S2.R hq hh).mono ?_
    rintro e w6 ⟨rfl, hb⟩
    have S3 := S2.below hb
    clear S2 hb hA hAf
    have hA := S3.BA.cell; have hAf := S3.BA.frozen
    have hrt := S3.R.text q hq
    rw [hs] at hrt
    clear hs
    go_wp2_with fail
    exact ⟨l, ev, by simp, by omega, S3.P, S3.R, S3.HB⟩
  · have S := hS.out; have hA := S.BA.cell; have hAf := S.BA.frozen
    go_wp2_with fail
    refine (read_bad pb B n ev i l _ S.P hbad).mono ?_
    rintro e w5 ⟨rfl, hb⟩
    have S2 := S.below hb
    clear S hb hA hAf
    have hA := S2.BA.cell; have hAf := S2.BA.frozen
    go_wp2_with fail
    refine (owner_bad rb n i l _ S2.R hbad).mono ?_
    rintro e w6 ⟨rfl, hb⟩
    have S3 := S2.below hb
    clear S2 hb hA hAf
    have hA := S3.BA.cell; have hAf := S3.BA.frozen
    go_wp2_with fail
    exact ⟨l, ev, by simp, by omega, S3.P, S3.R, S3.HB⟩

set_option maxHeartbeats 4000000 in
set_option maxRecDepth 20000 in
theorem arm3 (w W1 : World) (pb B rb A n k ev r d : Nat) (i : Int) (t : ByteArray) (l : List Buf) (c0 c1 c2 c3 c4 c6 c9 c11 c12 c13 c14 c15 c16 c17 c18 c19 c20 c21 c22 c23 c24 c25 c26 c27 c28 c29 c30 c31 c32 c33 c34 c35 c36 c37 c38 c39 c40 c41 c42 c43 c44 c45 c46 c47 c48 c49 c50 c51 c52 c53 c54 c55 c56 c57 c58 c59 c60 c62 c63 c64 c65 c66 c67 c68 c69 c70 c71 c72 c73 c74 c75 c76 c77 c78 c79 c80 c81 c82 c83 c84 c85 c86 c87 c88 c89 c90 c91 c92 c93 c94 c95 c96 c97 c98 c99 c100 c101 c102 c103 c104 c105 c106 c107 c108 c109 c110 c111 c112 c113 c114 c115 c116 c117 c118 c119 c120 c121 c122 c123 c124 c125 c126 c127 c128 c129 c130 c131 c132 c133 c134 c135 c136 c137 c138 c139 c140 c141 c142 c143 c144 c145 c146 c147 c148 c149 c150 c151 c152 c153 c154 c155 c156 c157 c158 c159 c160 c161 c162 c163 c164 c165 c166 c167 c168 c169 c170 c171 c172 c173 c174 c175 c176 c177 c178 c179 c180 c181 c182 c183 c184 c185 c186 c187 c188 c189 c190 c191 c192 c193 c194 c195 c196 c197 c198 c199 c200 c201 c202 c203 c204 c205 c206 c207 c208 c209 c210 c211 c212 c213 c214 c215 c216 c217 c218 c219 c220 c221 c222 c223 c224 c225 c226 c227 c228 c229 c230 c231 c232 c233 c234 c235 c236 c237 c238 c239 c240 c241 c242 c243 c244 c245 c246 c247 c248 c249 c250 c251 c252 c253 c254 c255 c256 c257 c258 c259 c260 c261 c262 c263 c264 c265 c266 c267 c268 c269 : Value) (Q : Exit → Act → World → Prop) (h1 : 1 ≤ n) (h2 : n ≤ 256) (hk80 : k ≤ 80) (hev : ev ≤ k) (hd : d ≤ 255)
    (hr1 : (d : Int) % 5 = (r : Int)) (hr2 : (d : Int).tmod 5 = (r : Int)) (hr5 : r < 5) (hr : r = 3) (hbig : ¬ 600 < t.size) (hAl : A < W1.heap.size) (hPl : B < A) (hPl2 : pb < A) (hRl : rb < A)
    (hS : Hid (St w W1 pb B rb A n l l ev #[.int .u8 d, .int .i64 i, .string t]))
    (hQ : ∀ (s8 x4 x11 x12 x13 x14 x15 x16 x17 x18 x19 x62 x63 x64 x65 x66 x67 x68 x69 x70 x71 x72 x73 x74 x75 x76 x77 x78 x79 x80 x81 x82 x83 x84 x85 x86 x87 x88 x89 x90 x91 x92 x93 x94 x95 x96 x97 x98 x99 x100 x101 x102 x103 x104 x105 x106 x107 x108 x109 x110 x111 x112 x113 x114 x115 x116 x117 x118 x119 x120 x121 x122 x123 x124 x125 x126 x127 x128 x129 x130 x131 x132 x133 x134 x135 x136 x137 x138 x139 x140 x141 x142 x143 x144 x145 x146 x147 x148 x149 x150 x151 x152 x153 x154 x155 x156 x157 x158 x159 x160 x161 x162 x163 x164 x165 x166 x167 x168 x169 x170 x171 x172 x173 x174 x175 x176 x177 x178 x179 x180 x181 : Value) (wx : World), Left w pb B rb n k s8 wx → Q .normal ⟨#[c0, c1, c2, c3, x4, .pointer (some ⟨pb, 0, none⟩), c6, .slice (some ⟨rb, 0, none⟩) n n, s8, c9, .pointer (some ⟨A, 0, none⟩), x11, x12, x13, x14, x15, x16, x17, x18, x19, c20, c21, c22, c23, c24, c25, c26, c27, c28, c29, c30, c31, c32, c33, c34, c35, c36, c37, c38, c39, c40, c41, c42, c43, c44, c45, c46, c47, c48, c49, c50, c51, c52, c53, c54, c55, c56, c57, c58, c59, c60, .int .u8 r, x62, x63, x64, x65, x66, x67, x68, x69, x70, x71, x72, x73, x74, x75, x76, x77, x78, x79, x80, x81, x82, x83, x84, x85, x86, x87, x88, x89, x90, x91, x92, x93, x94, x95, x96, x97, x98, x99, x100, x101, x102, x103, x104, x105, x106, x107, x108, x109, x110, x111, x112, x113, x114, x115, x116, x117, x118, x119, x120, x121, x122, x123, x124, x125, x126, x127, x128, x129, x130, x131, x132, x133, x134, x135, x136, x137, x138, x139, x140, x141, x142, x143, x144, x145, x146, x147, x148, x149, x150, x151, x152, x153, x154, x155, x156, x157, x158, x159, x160, x161, x162, x163, x164, x165, x166, x167, x168, x169, x170, x171, x172, x173, x174, x175, x176, x177, x178, x179, x180, x181, c182, c183, c184, c185, c186, c187, c188, c189, c190, c191, c192, c193, c194, c195, c196, c197, c198, c199, c200, c201, c202, c203, c204, c205, c206, c207, c208, c209, c210, c211, c212, c213, c214, c215, c216, c217, c218, c219, c220, c221, c222, c223, c224, c225, c226, c227, c228, c229, c230, c231, c232, c233, c234, c235, c236, c237, c238, c239, c240, c241, c242, c243, c244, c245, c246, c247, c248, c249, c250, c251, c252, c253, c254, c255, c256, c257, c258, c259, c260, c261, c262, c263, c264, c265, c266, c267, c268, c269], []⟩ wx) :
    Code.wp Try.prog blk2 Q ⟨#[c0, c1, c2, c3, c4, .pointer (some ⟨pb, 0, none⟩), c6, .slice (some ⟨rb, 0, none⟩) n n, .int .u64 ev, c9, .pointer (some ⟨A, 0, none⟩), c11, c12, c13, c14, c15, c16, c17, c18, c19, c20, c21, c22, c23, c24, c25, c26, c27, c28, c29, c30, c31, c32, c33, c34, c35, c36, c37, c38, c39, c40, c41, c42, c43, c44, c45, c46, c47, c48, c49, c50, c51, c52, c53, c54, c55, c56, c57, c58, c59, c60, .int .u8 r, c62, c63, c64, c65, c66, c67, c68, c69, c70, c71, c72, c73, c74, c75, c76, c77, c78, c79, c80, c81, c82, c83, c84, c85, c86, c87, c88, c89, c90, c91, c92, c93, c94, c95, c96, c97, c98, c99, c100, c101, c102, c103, c104, c105, c106, c107, c108, c109, c110, c111, c112, c113, c114, c115, c116, c117, c118, c119, c120, c121, c122, c123, c124, c125, c126, c127, c128, c129, c130, c131, c132, c133, c134, c135, c136, c137, c138, c139, c140, c141, c142, c143, c144, c145, c146, c147, c148, c149, c150, c151, c152, c153, c154, c155, c156, c157, c158, c159, c160, c161, c162, c163, c164, c165, c166, c167, c168, c169, c170, c171, c172, c173, c174, c175, c176, c177, c178, c179, c180, c181, c182, c183, c184, c185, c186, c187, c188, c189, c190, c191, c192, c193, c194, c195, c196, c197, c198, c199, c200, c201, c202, c203, c204, c205, c206, c207, c208, c209, c210, c211, c212, c213, c214, c215, c216, c217, c218, c219, c220, c221, c222, c223, c224, c225, c226, c227, c228, c229, c230, c231, c232, c233, c234, c235, c236, c237, c238, c239, c240, c241, c242, c243, c244, c245, c246, c247, c248, c249, c250, c251, c252, c253, c254, c255, c256, c257, c258, c259, c260, c261, c262, c263, c264, c265, c266, c267, c268, c269], []⟩ W1 := by
  have hlen : l.length = n := hS.out.P.len
  conv => arg 2; whnf
  obtain rfl : r = 3 := by omega
  have e1 : (d : Int) % 5 = 3 := by omega
  have e2 : (d : Int).tmod 5 = 3 := by rw [hr2]; rfl
  clear hr1 hr2
  rcases own_cases l n i with ⟨q, rfl, hq, hh⟩ | hbad
  · have S := hS.out; have hA := S.BA.cell; have hAf := S.BA.frozen
    have hq1 : (q : Int) < n := by omega
    by_cases hlong : 512 < t.size
    · have hlong1 : (512 : Int) < t.size := by omega
      go_wp2_with fail
      refine (owner_ok rb n q l _ S.R hq hh).mono ?_
      rintro e w5 ⟨rfl, hb⟩
      have S2 := S.below hb
      clear S hb hA hAf
      have hA := S2.BA.cell; have hAf := S2.BA.frozen
      go_wp2_with fail
      refine (write_long pb B n ev q l t _ S2.P hq hh hlong).mono ?_
      rintro e w6 ⟨rfl, hb⟩
      have S3 := S2.below hb
      clear S2 hb hA hAf
      have hA := S3.BA.cell; have hAf := S3.BA.frozen
      go_wp2_with fail
      exact ⟨l, ev, by simp, by omega, S3.P, S3.R, S3.HB⟩
    · have hlong1 : ¬ (512 : Int) < t.size := by omega
      go_wp2_with fail
      refine (owner_ok rb n q l _ S.R hq hh).mono ?_
      rintro e w5 ⟨rfl, hb⟩
      have S2 := S.below hb
      clear S hb hA hAf
      have hA := S2.BA.cell; have hAf := S2.BA.frozen
      go_wp2_with fail
      refine (write_ok pb B n ev q l t _ S2.P hq hh (by omega)).mono ?_
      rintro e w6 ⟨rfl, T, P5⟩
      have S3 := S2.turn T P5
      clear S2 T P5 hA hAf
      have hA := S3.BA.cell; have hAf := S3.BA.frozen
      have hrt := S3.R.text q hq
      have hrf := S3.R.frozen
      go_wp2_with fail
      have S4 := S3.sets (q * 2 + 1) (.string t) ((World.rowIs.set S3.R (q * 2 + 1) (.string t)).congr (fun o _ => ref_text l q n hq hlen hh t o))
      exact ⟨_, ev, by simp, by omega, S4.P, S4.R, S4.HB⟩
  · have S := hS.out; have hA := S.BA.cell; have hAf := S.BA.frozen
    go_wp2_with fail
    refine (owner_bad rb n i l _ S.R hbad).mono ?_
    rintro e w5 ⟨rfl, hb⟩
    have S2 := S.below hb
    clear S hb hA hAf
    have hA := S2.BA.cell; have hAf := S2.BA.frozen
    go_wp2_with fail
    refine (write_bad pb B n ev i l t _ S2.P hbad).mono ?_
    rintro e w6 ⟨rfl, hb⟩
    have S3 := S2.below hb
    clear S2 hb hA hAf
    have hA := S3.BA.cell; have hAf := S3.BA.frozen
    go_wp2_with fail
    exact ⟨l, ev, by simp, by omega, S3.P, S3.R, S3.HB⟩

set_option maxHeartbeats 4000000 in
set_option maxRecDepth 20000 in
theorem arm4 (w W1 : World) (pb B rb A n k ev r d : Nat) (i : Int) (t : ByteArray) (l : List Buf) (c0 c1 c2 c3 c4 c6 c9 c11 c12 c13 c14 c15 c16 c17 c18 c19 c20 c21 c22 c23 c24 c25 c26 c27 c28 c29 c30 c31 c32 c33 c34 c35 c36 c37 c38 c39 c40 c41 c42 c43 c44 c45 c46 c47 c48 c49 c50 c51 c52 c53 c54 c55 c56 c57 c58 c59 c60 c62 c63 c64 c65 c66 c67 c68 c69 c70 c71 c72 c73 c74 c75 c76 c77 c78 c79 c80 c81 c82 c83 c84 c85 c86 c87 c88 c89 c90 c91 c92 c93 c94 c95 c96 c97 c98 c99 c100 c101 c102 c103 c104 c105 c106 c107 c108 c109 c110 c111 c112 c113 c114 c115 c116 c117 c118 c119 c120 c121 c122 c123 c124 c125 c126 c127 c128 c129 c130 c131 c132 c133 c134 c135 c136 c137 c138 c139 c140 c141 c142 c143 c144 c145 c146 c147 c148 c149 c150 c151 c152 c153 c154 c155 c156 c157 c158 c159 c160 c161 c162 c163 c164 c165 c166 c167 c168 c169 c170 c171 c172 c173 c174 c175 c176 c177 c178 c179 c180 c181 c182 c183 c184 c185 c186 c187 c188 c189 c190 c191 c192 c193 c194 c195 c196 c197 c198 c199 c200 c201 c202 c203 c204 c205 c206 c207 c208 c209 c210 c211 c212 c213 c214 c215 c216 c217 c218 c219 c220 c221 c222 c223 c224 c225 c226 c227 c228 c229 c230 c231 c232 c233 c234 c235 c236 c237 c238 c239 c240 c241 c242 c243 c244 c245 c246 c247 c248 c249 c250 c251 c252 c253 c254 c255 c256 c257 c258 c259 c260 c261 c262 c263 c264 c265 c266 c267 c268 c269 : Value) (Q : Exit → Act → World → Prop) (h1 : 1 ≤ n) (h2 : n ≤ 256) (hk80 : k ≤ 80) (hev : ev ≤ k) (hd : d ≤ 255)
    (hr1 : (d : Int) % 5 = (r : Int)) (hr2 : (d : Int).tmod 5 = (r : Int)) (hr5 : r < 5) (hr : r = 4) (hbig : ¬ 600 < t.size) (hAl : A < W1.heap.size) (hPl : B < A) (hPl2 : pb < A) (hRl : rb < A)
    (hS : Hid (St w W1 pb B rb A n l l ev #[.int .u8 d, .int .i64 i, .string t]))
    (hQ : ∀ (s8 x4 x11 x12 x13 x14 x15 x16 x17 x18 x19 x62 x63 x64 x65 x66 x67 x68 x69 x70 x71 x72 x73 x74 x75 x76 x77 x78 x79 x80 x81 x82 x83 x84 x85 x86 x87 x88 x89 x90 x91 x92 x93 x94 x95 x96 x97 x98 x99 x100 x101 x102 x103 x104 x105 x106 x107 x108 x109 x110 x111 x112 x113 x114 x115 x116 x117 x118 x119 x120 x121 x122 x123 x124 x125 x126 x127 x128 x129 x130 x131 x132 x133 x134 x135 x136 x137 x138 x139 x140 x141 x142 x143 x144 x145 x146 x147 x148 x149 x150 x151 x152 x153 x154 x155 x156 x157 x158 x159 x160 x161 x162 x163 x164 x165 x166 x167 x168 x169 x170 x171 x172 x173 x174 x175 x176 x177 x178 x179 x180 x181 : Value) (wx : World), Left w pb B rb n k s8 wx → Q .normal ⟨#[c0, c1, c2, c3, x4, .pointer (some ⟨pb, 0, none⟩), c6, .slice (some ⟨rb, 0, none⟩) n n, s8, c9, .pointer (some ⟨A, 0, none⟩), x11, x12, x13, x14, x15, x16, x17, x18, x19, c20, c21, c22, c23, c24, c25, c26, c27, c28, c29, c30, c31, c32, c33, c34, c35, c36, c37, c38, c39, c40, c41, c42, c43, c44, c45, c46, c47, c48, c49, c50, c51, c52, c53, c54, c55, c56, c57, c58, c59, c60, .int .u8 r, x62, x63, x64, x65, x66, x67, x68, x69, x70, x71, x72, x73, x74, x75, x76, x77, x78, x79, x80, x81, x82, x83, x84, x85, x86, x87, x88, x89, x90, x91, x92, x93, x94, x95, x96, x97, x98, x99, x100, x101, x102, x103, x104, x105, x106, x107, x108, x109, x110, x111, x112, x113, x114, x115, x116, x117, x118, x119, x120, x121, x122, x123, x124, x125, x126, x127, x128, x129, x130, x131, x132, x133, x134, x135, x136, x137, x138, x139, x140, x141, x142, x143, x144, x145, x146, x147, x148, x149, x150, x151, x152, x153, x154, x155, x156, x157, x158, x159, x160, x161, x162, x163, x164, x165, x166, x167, x168, x169, x170, x171, x172, x173, x174, x175, x176, x177, x178, x179, x180, x181, c182, c183, c184, c185, c186, c187, c188, c189, c190, c191, c192, c193, c194, c195, c196, c197, c198, c199, c200, c201, c202, c203, c204, c205, c206, c207, c208, c209, c210, c211, c212, c213, c214, c215, c216, c217, c218, c219, c220, c221, c222, c223, c224, c225, c226, c227, c228, c229, c230, c231, c232, c233, c234, c235, c236, c237, c238, c239, c240, c241, c242, c243, c244, c245, c246, c247, c248, c249, c250, c251, c252, c253, c254, c255, c256, c257, c258, c259, c260, c261, c262, c263, c264, c265, c266, c267, c268, c269], []⟩ wx) :
    Code.wp Try.prog blk2 Q ⟨#[c0, c1, c2, c3, c4, .pointer (some ⟨pb, 0, none⟩), c6, .slice (some ⟨rb, 0, none⟩) n n, .int .u64 ev, c9, .pointer (some ⟨A, 0, none⟩), c11, c12, c13, c14, c15, c16, c17, c18, c19, c20, c21, c22, c23, c24, c25, c26, c27, c28, c29, c30, c31, c32, c33, c34, c35, c36, c37, c38, c39, c40, c41, c42, c43, c44, c45, c46, c47, c48, c49, c50, c51, c52, c53, c54, c55, c56, c57, c58, c59, c60, .int .u8 r, c62, c63, c64, c65, c66, c67, c68, c69, c70, c71, c72, c73, c74, c75, c76, c77, c78, c79, c80, c81, c82, c83, c84, c85, c86, c87, c88, c89, c90, c91, c92, c93, c94, c95, c96, c97, c98, c99, c100, c101, c102, c103, c104, c105, c106, c107, c108, c109, c110, c111, c112, c113, c114, c115, c116, c117, c118, c119, c120, c121, c122, c123, c124, c125, c126, c127, c128, c129, c130, c131, c132, c133, c134, c135, c136, c137, c138, c139, c140, c141, c142, c143, c144, c145, c146, c147, c148, c149, c150, c151, c152, c153, c154, c155, c156, c157, c158, c159, c160, c161, c162, c163, c164, c165, c166, c167, c168, c169, c170, c171, c172, c173, c174, c175, c176, c177, c178, c179, c180, c181, c182, c183, c184, c185, c186, c187, c188, c189, c190, c191, c192, c193, c194, c195, c196, c197, c198, c199, c200, c201, c202, c203, c204, c205, c206, c207, c208, c209, c210, c211, c212, c213, c214, c215, c216, c217, c218, c219, c220, c221, c222, c223, c224, c225, c226, c227, c228, c229, c230, c231, c232, c233, c234, c235, c236, c237, c238, c239, c240, c241, c242, c243, c244, c245, c246, c247, c248, c249, c250, c251, c252, c253, c254, c255, c256, c257, c258, c259, c260, c261, c262, c263, c264, c265, c266, c267, c268, c269], []⟩ W1 := by
  have hlen : l.length = n := hS.out.P.len
  conv => arg 2; whnf
  obtain rfl : r = 4 := by omega
  have e1 : (d : Int) % 5 = 4 := by omega
  have e2 : (d : Int).tmod 5 = 4 := by rw [hr2]; rfl
  clear hr1 hr2
  rcases own_cases l n i with ⟨q, rfl, hq, hh⟩ | hbad
  · have S := hS.out; have hA := S.BA.cell; have hAf := S.BA.frozen
    have hq1 : (q : Int) < n := by omega
    go_wp2_with fail
    refine (owner_ok rb n q l _ S.R hq hh).mono ?_
    rintro e w5 ⟨rfl, hb⟩
    have S2 := S.below hb
    clear S hb hA hAf
    have hA := S2.BA.cell; have hAf := S2.BA.frozen
    go_wp2_with fail
    refine (put_ok pb B n ev q l _ S2.P hq hh).mono ?_
    rintro e w6 ⟨rfl, T, P5⟩
    have S3 := S2.turn T P5
    clear S2 T P5 hA hAf
    have hA := S3.BA.cell; have hAf := S3.BA.frozen
    have hrt := S3.R.text q hq
    have hrh := S3.R.held q hq
    have hrf := S3.R.frozen
    go_wp2_with fail
    have S4 := S3.sets2 (q * 2) (q * 2 + 1) (.bool (⟨false, ⟨#[]⟩⟩ : Buf).held) (.string (⟨false, ⟨#[]⟩⟩ : Buf).text) ((World.rowIs.set (World.rowIs.set S3.R (q * 2) (.bool (⟨false, ⟨#[]⟩⟩ : Buf).held)) (q * 2 + 1) (.string (⟨false, ⟨#[]⟩⟩ : Buf).text)).congr (fun o _ => ref_row l q n hq hlen ⟨false, ⟨#[]⟩⟩ o))
    exact ⟨_, ev, by simp, by omega, S4.P, S4.R, S4.HB⟩
  · have S := hS.out; have hA := S.BA.cell; have hAf := S.BA.frozen
    go_wp2_with fail
    refine (owner_bad rb n i l _ S.R hbad).mono ?_
    rintro e w5 ⟨rfl, hb⟩
    have S2 := S.below hb
    clear S hb hA hAf
    have hA := S2.BA.cell; have hAf := S2.BA.frozen
    go_wp2_with fail
    refine (put_bad pb B n ev i l _ S2.P hbad).mono ?_
    rintro e w6 ⟨rfl, hb⟩
    have S3 := S2.below hb
    clear S2 hb hA hAf
    have hA := S3.BA.cell; have hAf := S3.BA.frozen
    go_wp2_with fail
    exact ⟨l, ev, by simp, by omega, S3.P, S3.R, S3.HB⟩

set_option maxHeartbeats 4000000 in
set_option maxRecDepth 20000 in
theorem armG (w W1 : World) (pb B rb A n k ev r d : Nat) (i : Int) (t : ByteArray) (l : List Buf) (c0 c1 c2 c3 c4 c6 c9 c11 c12 c13 c14 c15 c16 c17 c18 c19 c20 c21 c22 c23 c24 c25 c26 c27 c28 c29 c30 c31 c32 c33 c34 c35 c36 c37 c38 c39 c40 c41 c42 c43 c44 c45 c46 c47 c48 c49 c50 c51 c52 c53 c54 c55 c56 c57 c58 c59 c60 c62 c63 c64 c65 c66 c67 c68 c69 c70 c71 c72 c73 c74 c75 c76 c77 c78 c79 c80 c81 c82 c83 c84 c85 c86 c87 c88 c89 c90 c91 c92 c93 c94 c95 c96 c97 c98 c99 c100 c101 c102 c103 c104 c105 c106 c107 c108 c109 c110 c111 c112 c113 c114 c115 c116 c117 c118 c119 c120 c121 c122 c123 c124 c125 c126 c127 c128 c129 c130 c131 c132 c133 c134 c135 c136 c137 c138 c139 c140 c141 c142 c143 c144 c145 c146 c147 c148 c149 c150 c151 c152 c153 c154 c155 c156 c157 c158 c159 c160 c161 c162 c163 c164 c165 c166 c167 c168 c169 c170 c171 c172 c173 c174 c175 c176 c177 c178 c179 c180 c181 c182 c183 c184 c185 c186 c187 c188 c189 c190 c191 c192 c193 c194 c195 c196 c197 c198 c199 c200 c201 c202 c203 c204 c205 c206 c207 c208 c209 c210 c211 c212 c213 c214 c215 c216 c217 c218 c219 c220 c221 c222 c223 c224 c225 c226 c227 c228 c229 c230 c231 c232 c233 c234 c235 c236 c237 c238 c239 c240 c241 c242 c243 c244 c245 c246 c247 c248 c249 c250 c251 c252 c253 c254 c255 c256 c257 c258 c259 c260 c261 c262 c263 c264 c265 c266 c267 c268 c269 : Value) (Q : Exit → Act → World → Prop) (h1 : 1 ≤ n) (h2 : n ≤ 256) (hk80 : k ≤ 80) (hev : ev ≤ k) (hd : d ≤ 255)
    (hr1 : (d : Int) % 5 = (r : Int)) (hr2 : (d : Int).tmod 5 = (r : Int)) (hr5 : r < 5) (hr : r < 2) (hbig : ¬ 600 < t.size) (hAl : A < W1.heap.size) (hPl : B < A) (hPl2 : pb < A) (hRl : rb < A)
    (hS : Hid (St w W1 pb B rb A n l l ev #[.int .u8 d, .int .i64 i, .string t]))
    (hQ : ∀ (s8 x4 x11 x12 x13 x14 x15 x16 x17 x18 x19 x62 x63 x64 x65 x66 x67 x68 x69 x70 x71 x72 x73 x74 x75 x76 x77 x78 x79 x80 x81 x82 x83 x84 x85 x86 x87 x88 x89 x90 x91 x92 x93 x94 x95 x96 x97 x98 x99 x100 x101 x102 x103 x104 x105 x106 x107 x108 x109 x110 x111 x112 x113 x114 x115 x116 x117 x118 x119 x120 x121 x122 x123 x124 x125 x126 x127 x128 x129 x130 x131 x132 x133 x134 x135 x136 x137 x138 x139 x140 x141 x142 x143 x144 x145 x146 x147 x148 x149 x150 x151 x152 x153 x154 x155 x156 x157 x158 x159 x160 x161 x162 x163 x164 x165 x166 x167 x168 x169 x170 x171 x172 x173 x174 x175 x176 x177 x178 x179 x180 x181 : Value) (wx : World), Left w pb B rb n k s8 wx → Q .normal ⟨#[c0, c1, c2, c3, x4, .pointer (some ⟨pb, 0, none⟩), c6, .slice (some ⟨rb, 0, none⟩) n n, s8, c9, .pointer (some ⟨A, 0, none⟩), x11, x12, x13, x14, x15, x16, x17, x18, x19, c20, c21, c22, c23, c24, c25, c26, c27, c28, c29, c30, c31, c32, c33, c34, c35, c36, c37, c38, c39, c40, c41, c42, c43, c44, c45, c46, c47, c48, c49, c50, c51, c52, c53, c54, c55, c56, c57, c58, c59, c60, .int .u8 r, x62, x63, x64, x65, x66, x67, x68, x69, x70, x71, x72, x73, x74, x75, x76, x77, x78, x79, x80, x81, x82, x83, x84, x85, x86, x87, x88, x89, x90, x91, x92, x93, x94, x95, x96, x97, x98, x99, x100, x101, x102, x103, x104, x105, x106, x107, x108, x109, x110, x111, x112, x113, x114, x115, x116, x117, x118, x119, x120, x121, x122, x123, x124, x125, x126, x127, x128, x129, x130, x131, x132, x133, x134, x135, x136, x137, x138, x139, x140, x141, x142, x143, x144, x145, x146, x147, x148, x149, x150, x151, x152, x153, x154, x155, x156, x157, x158, x159, x160, x161, x162, x163, x164, x165, x166, x167, x168, x169, x170, x171, x172, x173, x174, x175, x176, x177, x178, x179, x180, x181, c182, c183, c184, c185, c186, c187, c188, c189, c190, c191, c192, c193, c194, c195, c196, c197, c198, c199, c200, c201, c202, c203, c204, c205, c206, c207, c208, c209, c210, c211, c212, c213, c214, c215, c216, c217, c218, c219, c220, c221, c222, c223, c224, c225, c226, c227, c228, c229, c230, c231, c232, c233, c234, c235, c236, c237, c238, c239, c240, c241, c242, c243, c244, c245, c246, c247, c248, c249, c250, c251, c252, c253, c254, c255, c256, c257, c258, c259, c260, c261, c262, c263, c264, c265, c266, c267, c268, c269], []⟩ wx) :
    Code.wp Try.prog blk2 Q ⟨#[c0, c1, c2, c3, c4, .pointer (some ⟨pb, 0, none⟩), c6, .slice (some ⟨rb, 0, none⟩) n n, .int .u64 ev, c9, .pointer (some ⟨A, 0, none⟩), c11, c12, c13, c14, c15, c16, c17, c18, c19, c20, c21, c22, c23, c24, c25, c26, c27, c28, c29, c30, c31, c32, c33, c34, c35, c36, c37, c38, c39, c40, c41, c42, c43, c44, c45, c46, c47, c48, c49, c50, c51, c52, c53, c54, c55, c56, c57, c58, c59, c60, .int .u8 r, c62, c63, c64, c65, c66, c67, c68, c69, c70, c71, c72, c73, c74, c75, c76, c77, c78, c79, c80, c81, c82, c83, c84, c85, c86, c87, c88, c89, c90, c91, c92, c93, c94, c95, c96, c97, c98, c99, c100, c101, c102, c103, c104, c105, c106, c107, c108, c109, c110, c111, c112, c113, c114, c115, c116, c117, c118, c119, c120, c121, c122, c123, c124, c125, c126, c127, c128, c129, c130, c131, c132, c133, c134, c135, c136, c137, c138, c139, c140, c141, c142, c143, c144, c145, c146, c147, c148, c149, c150, c151, c152, c153, c154, c155, c156, c157, c158, c159, c160, c161, c162, c163, c164, c165, c166, c167, c168, c169, c170, c171, c172, c173, c174, c175, c176, c177, c178, c179, c180, c181, c182, c183, c184, c185, c186, c187, c188, c189, c190, c191, c192, c193, c194, c195, c196, c197, c198, c199, c200, c201, c202, c203, c204, c205, c206, c207, c208, c209, c210, c211, c212, c213, c214, c215, c216, c217, c218, c219, c220, c221, c222, c223, c224, c225, c226, c227, c228, c229, c230, c231, c232, c233, c234, c235, c236, c237, c238, c239, c240, c241, c242, c243, c244, c245, c246, c247, c248, c249, c250, c251, c252, c253, c254, c255, c256, c257, c258, c259, c260, c261, c262, c263, c264, c265, c266, c267, c268, c269], []⟩ W1 := by
  have hlen : l.length = n := hS.out.P.len
  conv => arg 2; whnf
  have e0 : ((r : Int) == 2) = false := by simp; omega
  have e1 : ((r : Int) == 3) = false := by simp; omega
  have e2 : ((r : Int) == 4) = false := by simp; omega
  have e3 : ¬ (r : Int) = 2 := by omega
  have e4 : ¬ (r : Int) = 3 := by omega
  have e5 : ¬ (r : Int) = 4 := by omega
  by_cases hlong : 512 < t.size
  · have S := hS.out; have hA := S.BA.cell; have hAf := S.BA.frozen
    go_wp2_with fail
    refine (get_long pb t _ hlong).mono ?_
    rintro e w5 ⟨rfl, hb⟩
    have S2 := S.below hb
    clear S hb hA hAf
    have hA := S2.BA.cell; have hAf := S2.BA.frozen
    go_wp2_with fail
    refine (rget_long rb n t _ hlong).mono ?_
    rintro e w6 ⟨rfl, hb⟩
    have S3 := S2.below hb
    clear S2 hb hA hAf
    have hA := S3.BA.cell; have hAf := S3.BA.frozen
    go_wp2_with fail
    exact ⟨l, ev, by simp, by omega, S3.P, S3.R, S3.HB⟩
  obtain ⟨q, hq, hall, hat⟩ := first_free l n
  by_cases hqn : q = n
  · subst hqn
    have S := hS.out; have hA := S.BA.cell; have hAf := S.BA.frozen
    go_wp2_with fail
    refine (get_none pb B q ev l t _ S.P (by omega) hall).mono ?_
    rintro e w5 ⟨rfl, hb⟩
    have S2 := S.below hb
    clear S hb hA hAf
    have hA := S2.BA.cell; have hAf := S2.BA.frozen
    go_wp2_with fail
    refine (rget_none rb q l t _ S2.R h2 (by omega) hall).mono ?_
    rintro e w6 ⟨rfl, hb⟩
    have S3 := S2.below hb
    clear S2 hb hA hAf
    have hA := S3.BA.cell; have hAf := S3.BA.frozen
    go_wp2_with fail
    exact ⟨l, ev, by simp, by omega, S3.P, S3.R, S3.HB⟩
  · have S := hS.out; have hA := S.BA.cell; have hAf := S.BA.frozen
    have hq1 : (q : Int) < n := by omega
    have hev6 : ev ≤ 1000000 := by omega
    go_wp2_with fail
    refine (get_some pb B n ev q l t _ S.P (by omega) (by omega) hall (hat (by omega)) hev6).mono ?_
    rintro e w5 ⟨rfl, T, P5⟩
    have S2 := S.turn T P5
    clear S T P5 hA hAf
    have hA := S2.BA.cell; have hAf := S2.BA.frozen
    go_wp2_with fail
    refine (rget_some rb n q l t _ S2.R h2 (by omega) (by omega) hall (hat (by omega))).mono ?_
    rintro e w6 ⟨rfl, hb⟩
    have S3 := S2.below hb
    clear S2 hb hA hAf
    have hA := S3.BA.cell; have hAf := S3.BA.frozen
    have hqq : q < n := by omega
    have hrt := S3.R.text q hqq
    have hrh := S3.R.held q hqq
    have hrf := S3.R.frozen
    go_wp2_with fail
    have S4 := S3.sets2 (q * 2) (q * 2 + 1) (.bool (⟨true, t⟩ : Buf).held) (.string (⟨true, t⟩ : Buf).text) ((World.rowIs.set (World.rowIs.set S3.R (q * 2) (.bool (⟨true, t⟩ : Buf).held)) (q * 2 + 1) (.string (⟨true, t⟩ : Buf).text)).congr (fun o _ => ref_row l q n hqq hlen ⟨true, t⟩ o))
    exact ⟨_, ev + 1, by simp, by omega, S4.P, S4.R, S4.HB⟩
end Go.Proofs.Ytkfgbaieghlhkaa
