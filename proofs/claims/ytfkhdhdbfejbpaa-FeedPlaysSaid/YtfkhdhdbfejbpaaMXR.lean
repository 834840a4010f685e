/- The operations that read or compute: what each yields, by the slots and the parts of memory. No program in sight. -/
import Derived.Test.YtfkhdhdbfejbpaaMX
import Derived.IntWalk
namespace Go.Proofs.Ytfkhdhdbfejbpaa.MX
open Go Go.RowKit
set_option linter.unusedVariables false
set_option linter.unusedSimpArgs false
set_option linter.unusedVariables false

/-! ### Facts on types, for a table of instances -/
class HasU (P : Program) (t : TypeId) (d : outParam TypeDesc) : Prop where eq : P.underlying t = some d
class HasI (P : Program) (t : TypeId) (size bytes : outParam Nat) : Prop where eq : (P.info? t).map (fun i => (i.size, i.bytes)) = some (size, bytes)
class HasZ (P : Program) (t : TypeId) (z : outParam Value) : Prop where eq : ∀ w, (zeroValue t).run P w = .ok z w
class HasF (P : Program) (s f : Nat) (off : outParam Nat) : Prop where eq : ∀ a w, (Instr.fieldAt s (.pointer (some a)) f).run P w = .ok (.pointer (some (a.add off))) w
class IsAgg (P : Program) (t : TypeId) (b : outParam Bool) : Prop where eq : ∀ w, (isAgg t).run P w = .ok b w
class HasFn (P : Program) (f : Nat) : Prop where eq : ∀ args w, (callFunc f args).run P w = .ok (.enter f args) w
/-- A whole number that is none below 0. -/
class NatOf (e : Int) (n : outParam Nat) : Prop where eq : e = (n : Int)
instance (n : Nat) : NatOf (n : Int) n := ⟨rfl⟩
instance : NatOf 0 0 := ⟨rfl⟩
instance : NatOf 1 1 := ⟨rfl⟩
instance : NatOf 2 2 := ⟨rfl⟩
instance : NatOf 3 3 := ⟨rfl⟩
instance : NatOf 4 4 := ⟨rfl⟩
instance : NatOf 5 5 := ⟨rfl⟩
instance : NatOf 6 6 := ⟨rfl⟩
instance : NatOf 7 7 := ⟨rfl⟩
instance : NatOf 8 8 := ⟨rfl⟩
instance : NatOf 9 9 := ⟨rfl⟩
instance : NatOf 10 10 := ⟨rfl⟩
instance : NatOf 11 11 := ⟨rfl⟩
instance : NatOf 12 12 := ⟨rfl⟩
instance : NatOf 13 13 := ⟨rfl⟩
instance : NatOf 14 14 := ⟨rfl⟩
instance : NatOf 15 15 := ⟨rfl⟩
instance : NatOf 16 16 := ⟨rfl⟩
instance : NatOf 17 17 := ⟨rfl⟩
instance : NatOf 18 18 := ⟨rfl⟩
instance : NatOf 19 19 := ⟨rfl⟩
instance : NatOf 20 20 := ⟨rfl⟩
instance : NatOf 21 21 := ⟨rfl⟩
instance : NatOf 22 22 := ⟨rfl⟩
instance : NatOf 23 23 := ⟨rfl⟩
instance : NatOf 24 24 := ⟨rfl⟩
instance : NatOf 25 25 := ⟨rfl⟩
instance : NatOf 26 26 := ⟨rfl⟩
instance : NatOf 27 27 := ⟨rfl⟩
instance : NatOf 28 28 := ⟨rfl⟩
instance : NatOf 29 29 := ⟨rfl⟩
instance : NatOf 30 30 := ⟨rfl⟩
instance : NatOf 31 31 := ⟨rfl⟩
instance : NatOf 32 32 := ⟨rfl⟩
instance : NatOf 33 33 := ⟨rfl⟩
instance : NatOf 34 34 := ⟨rfl⟩
instance : NatOf 35 35 := ⟨rfl⟩
instance : NatOf 36 36 := ⟨rfl⟩
instance : NatOf 37 37 := ⟨rfl⟩
instance : NatOf 38 38 := ⟨rfl⟩
instance : NatOf 39 39 := ⟨rfl⟩
instance : NatOf 40 40 := ⟨rfl⟩
instance : NatOf 41 41 := ⟨rfl⟩
instance : NatOf 42 42 := ⟨rfl⟩
instance : NatOf 43 43 := ⟨rfl⟩
instance : NatOf 44 44 := ⟨rfl⟩
instance : NatOf 45 45 := ⟨rfl⟩
instance : NatOf 46 46 := ⟨rfl⟩
instance : NatOf 47 47 := ⟨rfl⟩
instance : NatOf 48 48 := ⟨rfl⟩
instance : NatOf 49 49 := ⟨rfl⟩
instance : NatOf 50 50 := ⟨rfl⟩
instance : NatOf 51 51 := ⟨rfl⟩
instance : NatOf 52 52 := ⟨rfl⟩
instance : NatOf 53 53 := ⟨rfl⟩
instance : NatOf 54 54 := ⟨rfl⟩
instance : NatOf 55 55 := ⟨rfl⟩
instance : NatOf 56 56 := ⟨rfl⟩
instance : NatOf 57 57 := ⟨rfl⟩
instance : NatOf 58 58 := ⟨rfl⟩
instance : NatOf 59 59 := ⟨rfl⟩
instance : NatOf 60 60 := ⟨rfl⟩
instance : NatOf 61 61 := ⟨rfl⟩
instance : NatOf 62 62 := ⟨rfl⟩
instance : NatOf 63 63 := ⟨rfl⟩
instance : NatOf 64 64 := ⟨rfl⟩
instance : NatOf 65 65 := ⟨rfl⟩
instance : NatOf 66 66 := ⟨rfl⟩
instance : NatOf 67 67 := ⟨rfl⟩
instance : NatOf 68 68 := ⟨rfl⟩
instance : NatOf 69 69 := ⟨rfl⟩
instance : NatOf 70 70 := ⟨rfl⟩
instance : NatOf 71 71 := ⟨rfl⟩
instance : NatOf 72 72 := ⟨rfl⟩
instance : NatOf 73 73 := ⟨rfl⟩
instance : NatOf 74 74 := ⟨rfl⟩
instance : NatOf 75 75 := ⟨rfl⟩
instance : NatOf 76 76 := ⟨rfl⟩
instance : NatOf 77 77 := ⟨rfl⟩
instance : NatOf 78 78 := ⟨rfl⟩
instance : NatOf 79 79 := ⟨rfl⟩
instance : NatOf 80 80 := ⟨rfl⟩
instance : NatOf 81 81 := ⟨rfl⟩
instance : NatOf 82 82 := ⟨rfl⟩
instance : NatOf 83 83 := ⟨rfl⟩
instance : NatOf 84 84 := ⟨rfl⟩
instance : NatOf 85 85 := ⟨rfl⟩
instance : NatOf 86 86 := ⟨rfl⟩
instance : NatOf 87 87 := ⟨rfl⟩
instance : NatOf 88 88 := ⟨rfl⟩
instance : NatOf 89 89 := ⟨rfl⟩
instance : NatOf 90 90 := ⟨rfl⟩
instance : NatOf 91 91 := ⟨rfl⟩
instance : NatOf 92 92 := ⟨rfl⟩
instance : NatOf 93 93 := ⟨rfl⟩
instance : NatOf 94 94 := ⟨rfl⟩
instance : NatOf 95 95 := ⟨rfl⟩
instance : NatOf 96 96 := ⟨rfl⟩
instance : NatOf 97 97 := ⟨rfl⟩
instance : NatOf 98 98 := ⟨rfl⟩
instance : NatOf 99 99 := ⟨rfl⟩
instance : NatOf 100 100 := ⟨rfl⟩
instance : NatOf 101 101 := ⟨rfl⟩
instance : NatOf 102 102 := ⟨rfl⟩
instance : NatOf 103 103 := ⟨rfl⟩
instance : NatOf 104 104 := ⟨rfl⟩
instance : NatOf 105 105 := ⟨rfl⟩
instance : NatOf 106 106 := ⟨rfl⟩
instance : NatOf 107 107 := ⟨rfl⟩
instance : NatOf 108 108 := ⟨rfl⟩
instance : NatOf 109 109 := ⟨rfl⟩
instance : NatOf 110 110 := ⟨rfl⟩
instance : NatOf 111 111 := ⟨rfl⟩
instance : NatOf 112 112 := ⟨rfl⟩
instance : NatOf 113 113 := ⟨rfl⟩
instance : NatOf 114 114 := ⟨rfl⟩
instance : NatOf 115 115 := ⟨rfl⟩
instance : NatOf 116 116 := ⟨rfl⟩
instance : NatOf 117 117 := ⟨rfl⟩
instance : NatOf 118 118 := ⟨rfl⟩
instance : NatOf 119 119 := ⟨rfl⟩
instance : NatOf 120 120 := ⟨rfl⟩
instance : NatOf 121 121 := ⟨rfl⟩
instance : NatOf 122 122 := ⟨rfl⟩
instance : NatOf 123 123 := ⟨rfl⟩
instance : NatOf 124 124 := ⟨rfl⟩
instance : NatOf 125 125 := ⟨rfl⟩
instance : NatOf 126 126 := ⟨rfl⟩
instance : NatOf 127 127 := ⟨rfl⟩
instance : NatOf 128 128 := ⟨rfl⟩
instance : NatOf 129 129 := ⟨rfl⟩
instance : NatOf 130 130 := ⟨rfl⟩
instance : NatOf 131 131 := ⟨rfl⟩
instance : NatOf 132 132 := ⟨rfl⟩
instance : NatOf 133 133 := ⟨rfl⟩
instance : NatOf 134 134 := ⟨rfl⟩
instance : NatOf 135 135 := ⟨rfl⟩
instance : NatOf 136 136 := ⟨rfl⟩
instance : NatOf 137 137 := ⟨rfl⟩
instance : NatOf 138 138 := ⟨rfl⟩
instance : NatOf 139 139 := ⟨rfl⟩
instance : NatOf 140 140 := ⟨rfl⟩
instance : NatOf 141 141 := ⟨rfl⟩
instance : NatOf 142 142 := ⟨rfl⟩
instance : NatOf 143 143 := ⟨rfl⟩
instance : NatOf 144 144 := ⟨rfl⟩
instance : NatOf 145 145 := ⟨rfl⟩
instance : NatOf 146 146 := ⟨rfl⟩
instance : NatOf 147 147 := ⟨rfl⟩
instance : NatOf 148 148 := ⟨rfl⟩
instance : NatOf 149 149 := ⟨rfl⟩
instance : NatOf 150 150 := ⟨rfl⟩
instance : NatOf 151 151 := ⟨rfl⟩
instance : NatOf 152 152 := ⟨rfl⟩
instance : NatOf 153 153 := ⟨rfl⟩
instance : NatOf 154 154 := ⟨rfl⟩
instance : NatOf 155 155 := ⟨rfl⟩
instance : NatOf 156 156 := ⟨rfl⟩
instance : NatOf 157 157 := ⟨rfl⟩
instance : NatOf 158 158 := ⟨rfl⟩
instance : NatOf 159 159 := ⟨rfl⟩
instance : NatOf 160 160 := ⟨rfl⟩
instance : NatOf 161 161 := ⟨rfl⟩
instance : NatOf 162 162 := ⟨rfl⟩
instance : NatOf 163 163 := ⟨rfl⟩
instance : NatOf 164 164 := ⟨rfl⟩
instance : NatOf 165 165 := ⟨rfl⟩
instance : NatOf 166 166 := ⟨rfl⟩
instance : NatOf 167 167 := ⟨rfl⟩
instance : NatOf 168 168 := ⟨rfl⟩
instance : NatOf 169 169 := ⟨rfl⟩
instance : NatOf 170 170 := ⟨rfl⟩
instance : NatOf 171 171 := ⟨rfl⟩
instance : NatOf 172 172 := ⟨rfl⟩
instance : NatOf 173 173 := ⟨rfl⟩
instance : NatOf 174 174 := ⟨rfl⟩
instance : NatOf 175 175 := ⟨rfl⟩
instance : NatOf 176 176 := ⟨rfl⟩
instance : NatOf 177 177 := ⟨rfl⟩
instance : NatOf 178 178 := ⟨rfl⟩
instance : NatOf 179 179 := ⟨rfl⟩
instance : NatOf 180 180 := ⟨rfl⟩
instance : NatOf 181 181 := ⟨rfl⟩
instance : NatOf 182 182 := ⟨rfl⟩
instance : NatOf 183 183 := ⟨rfl⟩
instance : NatOf 184 184 := ⟨rfl⟩
instance : NatOf 185 185 := ⟨rfl⟩
instance : NatOf 186 186 := ⟨rfl⟩
instance : NatOf 187 187 := ⟨rfl⟩
instance : NatOf 188 188 := ⟨rfl⟩
instance : NatOf 189 189 := ⟨rfl⟩
instance : NatOf 190 190 := ⟨rfl⟩
instance : NatOf 191 191 := ⟨rfl⟩
instance : NatOf 192 192 := ⟨rfl⟩
instance : NatOf 193 193 := ⟨rfl⟩
instance : NatOf 194 194 := ⟨rfl⟩
instance : NatOf 195 195 := ⟨rfl⟩
instance : NatOf 196 196 := ⟨rfl⟩
instance : NatOf 197 197 := ⟨rfl⟩
instance : NatOf 198 198 := ⟨rfl⟩
instance : NatOf 199 199 := ⟨rfl⟩
instance : NatOf 200 200 := ⟨rfl⟩
instance : NatOf 201 201 := ⟨rfl⟩
instance : NatOf 202 202 := ⟨rfl⟩
instance : NatOf 203 203 := ⟨rfl⟩
instance : NatOf 204 204 := ⟨rfl⟩
instance : NatOf 205 205 := ⟨rfl⟩
instance : NatOf 206 206 := ⟨rfl⟩
instance : NatOf 207 207 := ⟨rfl⟩
instance : NatOf 208 208 := ⟨rfl⟩
instance : NatOf 209 209 := ⟨rfl⟩
instance : NatOf 210 210 := ⟨rfl⟩
instance : NatOf 211 211 := ⟨rfl⟩
instance : NatOf 212 212 := ⟨rfl⟩
instance : NatOf 213 213 := ⟨rfl⟩
instance : NatOf 214 214 := ⟨rfl⟩
instance : NatOf 215 215 := ⟨rfl⟩
instance : NatOf 216 216 := ⟨rfl⟩
instance : NatOf 217 217 := ⟨rfl⟩
instance : NatOf 218 218 := ⟨rfl⟩
instance : NatOf 219 219 := ⟨rfl⟩
instance : NatOf 220 220 := ⟨rfl⟩
instance : NatOf 221 221 := ⟨rfl⟩
instance : NatOf 222 222 := ⟨rfl⟩
instance : NatOf 223 223 := ⟨rfl⟩
instance : NatOf 224 224 := ⟨rfl⟩
instance : NatOf 225 225 := ⟨rfl⟩
instance : NatOf 226 226 := ⟨rfl⟩
instance : NatOf 227 227 := ⟨rfl⟩
instance : NatOf 228 228 := ⟨rfl⟩
instance : NatOf 229 229 := ⟨rfl⟩
instance : NatOf 230 230 := ⟨rfl⟩
instance : NatOf 231 231 := ⟨rfl⟩
instance : NatOf 232 232 := ⟨rfl⟩
instance : NatOf 233 233 := ⟨rfl⟩
instance : NatOf 234 234 := ⟨rfl⟩
instance : NatOf 235 235 := ⟨rfl⟩
instance : NatOf 236 236 := ⟨rfl⟩
instance : NatOf 237 237 := ⟨rfl⟩
instance : NatOf 238 238 := ⟨rfl⟩
instance : NatOf 239 239 := ⟨rfl⟩
instance : NatOf 240 240 := ⟨rfl⟩
instance : NatOf 241 241 := ⟨rfl⟩
instance : NatOf 242 242 := ⟨rfl⟩
instance : NatOf 243 243 := ⟨rfl⟩
instance : NatOf 244 244 := ⟨rfl⟩
instance : NatOf 245 245 := ⟨rfl⟩
instance : NatOf 246 246 := ⟨rfl⟩
instance : NatOf 247 247 := ⟨rfl⟩
instance : NatOf 248 248 := ⟨rfl⟩
instance : NatOf 249 249 := ⟨rfl⟩
instance : NatOf 250 250 := ⟨rfl⟩
instance : NatOf 251 251 := ⟨rfl⟩
instance : NatOf 252 252 := ⟨rfl⟩
instance : NatOf 253 253 := ⟨rfl⟩
instance : NatOf 254 254 := ⟨rfl⟩
instance : NatOf 255 255 := ⟨rfl⟩
instance : NatOf 256 256 := ⟨rfl⟩
instance : NatOf 257 257 := ⟨rfl⟩
instance : NatOf 258 258 := ⟨rfl⟩
instance : NatOf 259 259 := ⟨rfl⟩
instance : NatOf 260 260 := ⟨rfl⟩
instance : NatOf 261 261 := ⟨rfl⟩
instance : NatOf 262 262 := ⟨rfl⟩
instance : NatOf 263 263 := ⟨rfl⟩
instance : NatOf 264 264 := ⟨rfl⟩
instance : NatOf 265 265 := ⟨rfl⟩
instance : NatOf 266 266 := ⟨rfl⟩
instance : NatOf 267 267 := ⟨rfl⟩
instance : NatOf 268 268 := ⟨rfl⟩
instance : NatOf 269 269 := ⟨rfl⟩
instance : NatOf 270 270 := ⟨rfl⟩
instance : NatOf 271 271 := ⟨rfl⟩
instance : NatOf 272 272 := ⟨rfl⟩
instance : NatOf 273 273 := ⟨rfl⟩
instance : NatOf 274 274 := ⟨rfl⟩
instance : NatOf 275 275 := ⟨rfl⟩
instance : NatOf 276 276 := ⟨rfl⟩
instance : NatOf 277 277 := ⟨rfl⟩
instance : NatOf 278 278 := ⟨rfl⟩
instance : NatOf 279 279 := ⟨rfl⟩
instance : NatOf 280 280 := ⟨rfl⟩
instance : NatOf 281 281 := ⟨rfl⟩
instance : NatOf 282 282 := ⟨rfl⟩
instance : NatOf 283 283 := ⟨rfl⟩
instance : NatOf 284 284 := ⟨rfl⟩
instance : NatOf 285 285 := ⟨rfl⟩
instance : NatOf 286 286 := ⟨rfl⟩
instance : NatOf 287 287 := ⟨rfl⟩
instance : NatOf 288 288 := ⟨rfl⟩
instance : NatOf 289 289 := ⟨rfl⟩
instance : NatOf 290 290 := ⟨rfl⟩
instance : NatOf 291 291 := ⟨rfl⟩
instance : NatOf 292 292 := ⟨rfl⟩
instance : NatOf 293 293 := ⟨rfl⟩
instance : NatOf 294 294 := ⟨rfl⟩
instance : NatOf 295 295 := ⟨rfl⟩
instance : NatOf 296 296 := ⟨rfl⟩
instance : NatOf 297 297 := ⟨rfl⟩
instance : NatOf 298 298 := ⟨rfl⟩
instance : NatOf 299 299 := ⟨rfl⟩
instance : NatOf 300 300 := ⟨rfl⟩
instance : NatOf 512 512 := ⟨rfl⟩
instance : NatOf 1000 1000 := ⟨rfl⟩
instance : NatOf 1024 1024 := ⟨rfl⟩
instance : NatOf 4096 4096 := ⟨rfl⟩
instance {a b : Int} {m n : Nat} [h : NatOf a m] [k : NatOf b n] : NatOf (a + b) (m + n) := ⟨by rw [h.eq, k.eq]; rfl⟩
instance {a b : Int} {m n : Nat} [h : NatOf a m] [k : NatOf b n] : NatOf (a * b) (m * n) := ⟨by rw [h.eq, k.eq]; rfl⟩
instance {a b : Int} {m n : Nat} [h : NatOf a m] [k : NatOf b n] : NatOf (a / b) (m / n) := ⟨by rw [h.eq, k.eq]; rfl⟩
instance {a b : Int} {m n : Nat} [h : NatOf a m] [k : NatOf b n] : NatOf (a % b) (m % n) := ⟨by rw [h.eq, k.eq]; rfl⟩
/-- Powers of 2, as numerals. -/
class P2 (s : Int) (p : outParam Int) : Prop where eq : 0 ≤ s ∧ s < 64 ∧ (2 : Int) ^ s.toNat = p
instance : P2 0 1 := ⟨by decide, by decide, by decide⟩
instance : P2 1 2 := ⟨by decide, by decide, by decide⟩
instance : P2 2 4 := ⟨by decide, by decide, by decide⟩
instance : P2 3 8 := ⟨by decide, by decide, by decide⟩
instance : P2 4 16 := ⟨by decide, by decide, by decide⟩
instance : P2 5 32 := ⟨by decide, by decide, by decide⟩
instance : P2 6 64 := ⟨by decide, by decide, by decide⟩
instance : P2 7 128 := ⟨by decide, by decide, by decide⟩
instance : P2 8 256 := ⟨by decide, by decide, by decide⟩
instance : P2 9 512 := ⟨by decide, by decide, by decide⟩
instance : P2 10 1024 := ⟨by decide, by decide, by decide⟩
instance : P2 11 2048 := ⟨by decide, by decide, by decide⟩
instance : P2 12 4096 := ⟨by decide, by decide, by decide⟩
instance : P2 13 8192 := ⟨by decide, by decide, by decide⟩
instance : P2 14 16384 := ⟨by decide, by decide, by decide⟩
instance : P2 15 32768 := ⟨by decide, by decide, by decide⟩
instance : P2 16 65536 := ⟨by decide, by decide, by decide⟩
instance : P2 17 131072 := ⟨by decide, by decide, by decide⟩
instance : P2 18 262144 := ⟨by decide, by decide, by decide⟩
instance : P2 19 524288 := ⟨by decide, by decide, by decide⟩
instance : P2 20 1048576 := ⟨by decide, by decide, by decide⟩
instance : P2 21 2097152 := ⟨by decide, by decide, by decide⟩
instance : P2 22 4194304 := ⟨by decide, by decide, by decide⟩
instance : P2 23 8388608 := ⟨by decide, by decide, by decide⟩
instance : P2 24 16777216 := ⟨by decide, by decide, by decide⟩
instance : P2 25 33554432 := ⟨by decide, by decide, by decide⟩
instance : P2 26 67108864 := ⟨by decide, by decide, by decide⟩
instance : P2 27 134217728 := ⟨by decide, by decide, by decide⟩
instance : P2 28 268435456 := ⟨by decide, by decide, by decide⟩
instance : P2 29 536870912 := ⟨by decide, by decide, by decide⟩
instance : P2 30 1073741824 := ⟨by decide, by decide, by decide⟩
instance : P2 31 2147483648 := ⟨by decide, by decide, by decide⟩
instance : P2 32 4294967296 := ⟨by decide, by decide, by decide⟩
instance : P2 33 8589934592 := ⟨by decide, by decide, by decide⟩
instance : P2 34 17179869184 := ⟨by decide, by decide, by decide⟩
instance : P2 35 34359738368 := ⟨by decide, by decide, by decide⟩
instance : P2 36 68719476736 := ⟨by decide, by decide, by decide⟩
instance : P2 37 137438953472 := ⟨by decide, by decide, by decide⟩
instance : P2 38 274877906944 := ⟨by decide, by decide, by decide⟩
instance : P2 39 549755813888 := ⟨by decide, by decide, by decide⟩
instance : P2 40 1099511627776 := ⟨by decide, by decide, by decide⟩
instance : P2 41 2199023255552 := ⟨by decide, by decide, by decide⟩
instance : P2 42 4398046511104 := ⟨by decide, by decide, by decide⟩
instance : P2 43 8796093022208 := ⟨by decide, by decide, by decide⟩
instance : P2 44 17592186044416 := ⟨by decide, by decide, by decide⟩
instance : P2 45 35184372088832 := ⟨by decide, by decide, by decide⟩
instance : P2 46 70368744177664 := ⟨by decide, by decide, by decide⟩
instance : P2 47 140737488355328 := ⟨by decide, by decide, by decide⟩
instance : P2 48 281474976710656 := ⟨by decide, by decide, by decide⟩
instance : P2 49 562949953421312 := ⟨by decide, by decide, by decide⟩
instance : P2 50 1125899906842624 := ⟨by decide, by decide, by decide⟩
instance : P2 51 2251799813685248 := ⟨by decide, by decide, by decide⟩
instance : P2 52 4503599627370496 := ⟨by decide, by decide, by decide⟩
instance : P2 53 9007199254740992 := ⟨by decide, by decide, by decide⟩
instance : P2 54 18014398509481984 := ⟨by decide, by decide, by decide⟩
instance : P2 55 36028797018963968 := ⟨by decide, by decide, by decide⟩
instance : P2 56 72057594037927936 := ⟨by decide, by decide, by decide⟩
instance : P2 57 144115188075855872 := ⟨by decide, by decide, by decide⟩
instance : P2 58 288230376151711744 := ⟨by decide, by decide, by decide⟩
instance : P2 59 576460752303423488 := ⟨by decide, by decide, by decide⟩
instance : P2 60 1152921504606846976 := ⟨by decide, by decide, by decide⟩
instance : P2 61 2305843009213693952 := ⟨by decide, by decide, by decide⟩
instance : P2 62 4611686018427387904 := ⟨by decide, by decide, by decide⟩
instance : P2 63 9223372036854775808 := ⟨by decide, by decide, by decide⟩

section
variable {P : Program} {n : Nat} {R : Regs} {M : World → Prop} {ty T T' : TypeId} {x y z : Operand} {v u : Value} {k k' : IntKind} {m l : Int} {b : Nat}
theorem r_move (hx : R.ev x = some v) : Res P n (.move x) ty R M v := ⟨fun a w hR hM => by simp [execOp, hR.ev hx]⟩
theorem r_assign (hx : R.ev x = some v) : Res P n (.assign x) ty R M v := ⟨fun a w hR hM => by simp [execOp, hR.ev hx]⟩
theorem eqGuard_int (op : BinOp) (w : World) : (eqGuard op T x y (.int k m) (.int k l)).run P w = .ok () w := by cases op <;> rfl
theorem eqGuard_int' (op : BinOp) (w : World) : (eqGuard op T x y (.int k m) (.int k' l)).run P w = .ok () w := by cases op <;> rfl
theorem eqGuard_bool (op : BinOp) (w : World) {p q : Bool} : (eqGuard op T x y (.bool p) (.bool q)).run P w = .ok () w := by cases op <;> rfl
theorem eqGuard_str (op : BinOp) (w : World) {p q : ByteArray} : (eqGuard op T x y (.string p) (.string q)).run P w = .ok () w := by cases op <;> rfl
theorem eqGuard_ptr (op : BinOp) (w : World) {p q : Option Addr} : (eqGuard op T x y (.pointer p) (.pointer q)).run P w = .ok () w := by cases op <;> rfl
theorem wrap64_eq (q : Int) : IntKind.i64.wrap q = wrap64 q := IntWalk.i64_left q
theorem beq_dec (m l : Int) : (m == l) = decide (m = l) := by rw [Bool.eq_iff_iff]; simp
theorem i64_id {q : Int} (h : -9223372036854775808 ≤ q) (h' : q ≤ 9223372036854775807) : IntKind.i64.wrap q = q := by
  rw [wrap64_eq]; unfold wrap64; omega
/-! #### sums, products -/
theorem r_add (hx : R.ev x = some (.int k m)) (hy : R.ev y = some (.int k l)) : Res P n (.binOp .add T x y T') ty R M (.int k (k.wrap (m + l))) :=
  ⟨fun a w hR hM => by simp [execOp, hR.ev hx, hR.ev hy, eqGuard_int, binOp, Op.intArith]⟩
theorem r_sub (hx : R.ev x = some (.int k m)) (hy : R.ev y = some (.int k l)) : Res P n (.binOp .sub T x y T') ty R M (.int k (k.wrap (m - l))) :=
  ⟨fun a w hR hM => by simp [execOp, hR.ev hx, hR.ev hy, eqGuard_int, binOp, Op.intArith]⟩
theorem r_mul (hx : R.ev x = some (.int k m)) (hy : R.ev y = some (.int k l)) : Res P n (.binOp .mul T x y T') ty R M (.int k (k.wrap (m * l))) :=
  ⟨fun a w hR hM => by simp [execOp, hR.ev hx, hR.ev hy, eqGuard_int, binOp, Op.intArith]⟩
theorem r_add64 (hx : R.ev x = some (.int .i64 m)) (hy : R.ev y = some (.int .i64 l)) (h : -9223372036854775808 ≤ m + l ∧ m + l ≤ 9223372036854775807) : Res P n (.binOp .add T x y T') ty R M (.int .i64 (m + l)) := by
  have := @r_add P n R M ty T T' x y .i64 m l hx hy; rwa [i64_id h.1 h.2] at this
theorem r_sub64 (hx : R.ev x = some (.int .i64 m)) (hy : R.ev y = some (.int .i64 l)) (h : -9223372036854775808 ≤ m - l ∧ m - l ≤ 9223372036854775807) : Res P n (.binOp .sub T x y T') ty R M (.int .i64 (m - l)) := by
  have := @r_sub P n R M ty T T' x y .i64 m l hx hy; rwa [i64_id h.1 h.2] at this
theorem r_mul64 (hx : R.ev x = some (.int .i64 m)) (hy : R.ev y = some (.int .i64 l)) (h : -9223372036854775808 ≤ m * l ∧ m * l ≤ 9223372036854775807) : Res P n (.binOp .mul T x y T') ty R M (.int .i64 (m * l)) := by
  have := @r_mul P n R M ty T T' x y .i64 m l hx hy; rwa [i64_id h.1 h.2] at this
theorem wrap_u8 (q : Int) : IntKind.u8.wrap q = q % 256 := by simp [IntKind.wrap, IntKind.bits, IntKind.signed]
theorem wrap_u32 (q : Int) : IntKind.u32.wrap q = q % 4294967296 := by simp [IntKind.wrap, IntKind.bits, IntKind.signed]
theorem wrap_u64 (q : Int) : IntKind.u64.wrap q = q % 18446744073709551616 := by simp [IntKind.wrap, IntKind.bits, IntKind.signed]
theorem r_add8 (hx : R.ev x = some (.int .u8 m)) (hy : R.ev y = some (.int .u8 l)) : Res P n (.binOp .add T x y T') ty R M (.int .u8 ((m + l) % 256)) := by rw [← wrap_u8]; exact r_add hx hy
theorem r_sub8 (hx : R.ev x = some (.int .u8 m)) (hy : R.ev y = some (.int .u8 l)) : Res P n (.binOp .sub T x y T') ty R M (.int .u8 ((m - l) % 256)) := by rw [← wrap_u8]; exact r_sub hx hy
theorem r_mul8 (hx : R.ev x = some (.int .u8 m)) (hy : R.ev y = some (.int .u8 l)) : Res P n (.binOp .mul T x y T') ty R M (.int .u8 ((m * l) % 256)) := by rw [← wrap_u8]; exact r_mul hx hy
theorem r_add32 (hx : R.ev x = some (.int .u32 m)) (hy : R.ev y = some (.int .u32 l)) : Res P n (.binOp .add T x y T') ty R M (.int .u32 ((m + l) % 4294967296)) := by rw [← wrap_u32]; exact r_add hx hy
theorem r_sub32 (hx : R.ev x = some (.int .u32 m)) (hy : R.ev y = some (.int .u32 l)) : Res P n (.binOp .sub T x y T') ty R M (.int .u32 ((m - l) % 4294967296)) := by rw [← wrap_u32]; exact r_sub hx hy
theorem r_mul32 (hx : R.ev x = some (.int .u32 m)) (hy : R.ev y = some (.int .u32 l)) : Res P n (.binOp .mul T x y T') ty R M (.int .u32 ((m * l) % 4294967296)) := by rw [← wrap_u32]; exact r_mul hx hy
theorem r_addu (hx : R.ev x = some (.int .u64 m)) (hy : R.ev y = some (.int .u64 l)) : Res P n (.binOp .add T x y T') ty R M (.int .u64 ((m + l) % 18446744073709551616)) := by rw [← wrap_u64]; exact r_add hx hy
theorem r_subu (hx : R.ev x = some (.int .u64 m)) (hy : R.ev y = some (.int .u64 l)) : Res P n (.binOp .sub T x y T') ty R M (.int .u64 ((m - l) % 18446744073709551616)) := by rw [← wrap_u64]; exact r_sub hx hy
theorem r_mulu (hx : R.ev x = some (.int .u64 m)) (hy : R.ev y = some (.int .u64 l)) : Res P n (.binOp .mul T x y T') ty R M (.int .u64 ((m * l) % 18446744073709551616)) := by rw [← wrap_u64]; exact r_mul hx hy
theorem r_quo (hx : R.ev x = some (.int .i64 m)) (hy : R.ev y = some (.int .i64 l)) (h : 0 ≤ m ∧ 0 < l ∧ m ≤ 9223372036854775807) : Res P n (.binOp .quo T x y T') ty R M (.int .i64 (m / l)) :=
  .mk fun a w hR hM => by
    have h1 : l ≠ 0 := by omega
    have h2 : m / l ≤ m := Int.ediv_le_self _ h.1
    have h3 : 0 ≤ m / l := Int.ediv_nonneg h.1 (by omega)
    simp [execOp, hR.ev hx, hR.ev hy, eqGuard_int, binOp, Op.intDiv, h1, Int.tdiv_eq_ediv_of_nonneg h.1, i64_id (q := m / l) (by omega) (by omega)]
theorem r_rem (hx : R.ev x = some (.int .i64 m)) (hy : R.ev y = some (.int .i64 l)) (h : 0 ≤ m ∧ l ≠ 0) : Res P n (.binOp .rem T x y T') ty R M (.int .i64 (m % l)) :=
  ⟨fun a w hR hM => by simp [execOp, hR.ev hx, hR.ev hy, eqGuard_int, binOp, Op.intDiv, h.2, Int.tmod_eq_emod_of_nonneg h.1]⟩
theorem r_rem' (hx : R.ev x = some (.int k m)) (hy : R.ev y = some (.int k l)) (h : l ≠ 0) : Res P n (.binOp .rem T x y T') ty R M (.int k (m.tmod l)) :=
  ⟨fun a w hR hM => by simp [execOp, hR.ev hx, hR.ev hy, eqGuard_int, binOp, Op.intDiv, h]⟩
theorem r_quo' (hx : R.ev x = some (.int k m)) (hy : R.ev y = some (.int k l)) (h : l ≠ 0) : Res P n (.binOp .quo T x y T') ty R M (.int k (k.wrap (m.tdiv l))) :=
  ⟨fun a w hR hM => by simp [execOp, hR.ev hx, hR.ev hy, eqGuard_int, binOp, Op.intDiv, h]⟩
/-! #### bits -/
theorem r_and (hx : R.ev x = some (.int k m)) (hy : R.ev y = some (.int k l)) : Res P n (.binOp .and T x y T') ty R M (.int k (bits .and k m l)) :=
  ⟨fun a w hR hM => by simp [execOp, hR.ev hx, hR.ev hy, eqGuard_int, binOp, intBits_and]⟩
theorem r_or (hx : R.ev x = some (.int k m)) (hy : R.ev y = some (.int k l)) : Res P n (.binOp .or T x y T') ty R M (.int k (bits .or k m l)) :=
  ⟨fun a w hR hM => by simp [execOp, hR.ev hx, hR.ev hy, eqGuard_int, binOp, intBits_or]⟩
theorem r_xor (hx : R.ev x = some (.int k m)) (hy : R.ev y = some (.int k l)) : Res P n (.binOp .xor T x y T') ty R M (.int k (bits .xor k m l)) :=
  ⟨fun a w hR hM => by simp [execOp, hR.ev hx, hR.ev hy, eqGuard_int, binOp, intBits_xor]⟩
theorem r_andNot (hx : R.ev x = some (.int k m)) (hy : R.ev y = some (.int k l)) : Res P n (.binOp .andNot T x y T') ty R M (.int k (bits .andNot k m l)) :=
  ⟨fun a w hR hM => by simp [execOp, hR.ev hx, hR.ev hy, eqGuard_int, binOp, intBits_andNot]⟩
/-- Not, bit by bit. -/
def notu (k : IntKind) (m : Int) : Int := bits .xor k (if k.signed then -1 else k.max) m
theorem r_not (hx : R.ev x = some (.int k m)) : Res P n (.unOp .xor T x) ty R M (.int k (notu k m)) :=
  ⟨fun a w hR hM => by simp [execOp, hR.ev hx, Op.unary, intBits_xor, notu]⟩
theorem shift_run (op : BinOp) (s p : Int) [h : P2 s p] (hk : s < k.bits) (w : World) :
    (Op.shift .shl k m k' s).run P w = .ok (.int k (k.wrap (m * p))) w ∧ (Op.shift .shr k m k' s).run P w = .ok (.int k (m / p)) w := by
  obtain ⟨h1, h2, h3⟩ := h.eq
  have h4 : ¬ s < 0 := by omega
  have h5 : min s.toNat k.bits = s.toNat := Nat.min_eq_left (by omega)
  simp [Op.shift, h4, h5, h3, Int.fdiv_eq_ediv_of_nonneg m (show (0 : Int) ≤ p by rw [← h3]; exact Int.le_of_lt (Int.pow_pos (by omega)))]
theorem r_shl {s p : Int} (hx : R.ev x = some (.int k m)) (hy : R.ev y = some (.int k' s)) [h : P2 s p] (hk : decide (s < k.bits) = true) : Res P n (.binOp .shl T x y T') ty R M (.int k (k.wrap (m * p))) :=
  ⟨fun a w hR hM => by simp [execOp, hR.ev hx, hR.ev hy, eqGuard_int', binOp, (shift_run (P := P) (m := m) (k' := k') .shl s p (of_decide_eq_true hk) w).1]⟩
theorem r_shr {s p : Int} (hx : R.ev x = some (.int k m)) (hy : R.ev y = some (.int k' s)) [h : P2 s p] (hk : decide (s < k.bits) = true) : Res P n (.binOp .shr T x y T') ty R M (.int k (m / p)) :=
  ⟨fun a w hR hM => by simp [execOp, hR.ev hx, hR.ev hy, eqGuard_int', binOp, (shift_run (P := P) (m := m) (k' := k') .shl s p (of_decide_eq_true hk) w).2]⟩
theorem r_shl32 {s p : Int} (hx : R.ev x = some (.int .u32 m)) (hy : R.ev y = some (.int k' s)) [h : P2 s p] (hk : decide (s < IntKind.u32.bits) = true) : Res P n (.binOp .shl T x y T') ty R M (.int .u32 (m * p % 4294967296)) := by
  rw [← wrap_u32]; exact r_shl hx hy hk
theorem r_shlu {s p : Int} (hx : R.ev x = some (.int .u64 m)) (hy : R.ev y = some (.int k' s)) [h : P2 s p] (hk : decide (s < IntKind.u64.bits) = true) : Res P n (.binOp .shl T x y T') ty R M (.int .u64 (m * p % 18446744073709551616)) := by
  rw [← wrap_u64]; exact r_shl hx hy hk
theorem r_shl64 {s p : Int} (hx : R.ev x = some (.int .i64 m)) (hy : R.ev y = some (.int k' s)) [h : P2 s p] (hk : decide (s < IntKind.i64.bits) = true) (hb : -9223372036854775808 ≤ m * p ∧ m * p ≤ 9223372036854775807) : Res P n (.binOp .shl T x y T') ty R M (.int .i64 (m * p)) := by
  have := @r_shl P n R M ty T T' x y .i64 k' m s p hx hy h hk; rwa [i64_id hb.1 hb.2] at this
/-- Shifts by a number that is told by a variable. -/
theorem r_shlV {s : Nat} {e : Int} (hx : R.ev x = some (.int k m)) (hy : R.ev y = some (.int k' e)) (he : e = (s : Int)) (hk : s < k.bits) : Res P n (.binOp .shl T x y T') ty R M (.int k (k.wrap (m * 2 ^ s))) :=
  .mk fun a w hR hM => by
    subst he
    have h5 : min s k.bits = s := Nat.min_eq_left (by omega)
    simp [execOp, hR.ev hx, hR.ev hy, eqGuard_int', binOp, Op.shift, h5, show ¬ ((s : Int) < 0) by omega]
theorem r_shrV {s : Nat} {e : Int} (hx : R.ev x = some (.int k m)) (hy : R.ev y = some (.int k' e)) (he : e = (s : Int)) (hk : s < k.bits) : Res P n (.binOp .shr T x y T') ty R M (.int k (m / 2 ^ s)) :=
  .mk fun a w hR hM => by
    subst he
    have h5 : min s k.bits = s := Nat.min_eq_left (by omega)
    simp [execOp, hR.ev hx, hR.ev hy, eqGuard_int', binOp, Op.shift, h5, show ¬ ((s : Int) < 0) by omega, Int.fdiv_eq_ediv_of_nonneg m (show (0 : Int) ≤ 2 ^ s from Int.le_of_lt (Int.pow_pos (by omega)))]
/-! #### tests -/
theorem r_lss (hx : R.ev x = some (.int k m)) (hy : R.ev y = some (.int k l)) : Res P n (.binOp .lss T x y T') ty R M (.bool (decide (m < l))) :=
  ⟨fun a w hR hM => by simp [execOp, hR.ev hx, hR.ev hy, eqGuard_int, binOp, Op.intCmp]⟩
theorem r_leq (hx : R.ev x = some (.int k m)) (hy : R.ev y = some (.int k l)) : Res P n (.binOp .leq T x y T') ty R M (.bool (decide (m ≤ l))) :=
  ⟨fun a w hR hM => by simp [execOp, hR.ev hx, hR.ev hy, eqGuard_int, binOp, Op.intCmp]⟩
theorem r_gtr (hx : R.ev x = some (.int k m)) (hy : R.ev y = some (.int k l)) : Res P n (.binOp .gtr T x y T') ty R M (.bool (decide (l < m))) :=
  ⟨fun a w hR hM => by simp [execOp, hR.ev hx, hR.ev hy, eqGuard_int, binOp, Op.intCmp]⟩
theorem r_geq (hx : R.ev x = some (.int k m)) (hy : R.ev y = some (.int k l)) : Res P n (.binOp .geq T x y T') ty R M (.bool (decide (l ≤ m))) :=
  ⟨fun a w hR hM => by simp [execOp, hR.ev hx, hR.ev hy, eqGuard_int, binOp, Op.intCmp]⟩
theorem r_eql (hx : R.ev x = some (.int k m)) (hy : R.ev y = some (.int k l)) : Res P n (.binOp .eql T x y T') ty R M (.bool (decide (m = l))) :=
  ⟨fun a w hR hM => by simp [execOp, hR.ev hx, hR.ev hy, eqGuard_int, binOp, Op.intCmp, beq_dec]⟩
theorem r_neq (hx : R.ev x = some (.int k m)) (hy : R.ev y = some (.int k l)) : Res P n (.binOp .neq T x y T') ty R M (.bool (decide (m ≠ l))) :=
  ⟨fun a w hR hM => by simp [execOp, hR.ev hx, hR.ev hy, eqGuard_int, binOp, Op.intCmp, bne, beq_dec]⟩
theorem r_notB {p : Bool} (hx : R.ev x = some (.bool p)) : Res P n (.unOp .not T x) ty R M (.bool (!p)) :=
  ⟨fun a w hR hM => by simp [execOp, hR.ev hx, Op.unary]⟩
theorem r_neg (hx : R.ev x = some (.int k m)) : Res P n (.unOp .neg T x) ty R M (.int k (k.wrap (0 - m))) :=
  ⟨fun a w hR hM => by simp [execOp, hR.ev hx, Op.unary, Op.intArith]⟩
theorem r_neg64 (hx : R.ev x = some (.int .i64 m)) (h : -9223372036854775808 < m ∧ m ≤ 9223372036854775807) : Res P n (.unOp .neg T x) ty R M (.int .i64 (-m)) := by
  have := @r_neg P n R M ty T x .i64 m hx; rwa [i64_id (q := 0 - m) (by omega) (by omega), Int.zero_sub] at this
theorem r_pickT (hc : R.ev x = some (.bool true)) (hy : R.ev y = some v) : Res P n (.pick x y z) ty R M v := ⟨fun a w hR hM => by simp [execOp, hR.ev hc, hR.ev hy, asBool]⟩
theorem r_pickF (hc : R.ev x = some (.bool false)) (hz : R.ev z = some v) : Res P n (.pick x y z) ty R M v := ⟨fun a w hR hM => by simp [execOp, hR.ev hc, hR.ev hz, asBool]⟩
/-! #### conversions -/
theorem r_conv [h1 : HasU P T (.int k)] [h2 : HasU P T' (.int k')] (hx : R.ev x = some (.int k m)) : Res P n (.convert T T' x) ty R M (.int k' (k'.wrap m)) :=
  ⟨fun a w hR hM => by simp [execOp, hR.ev hx, convert, run_underlying h1.eq, run_underlying h2.eq, Conv.intToInt]⟩
theorem r_conv_id [h1 : HasU P T (.int k)] [h2 : HasU P T' (.int k')] (hx : R.ev x = some (.int k m)) (h : k'.wrap m = m) : Res P n (.convert T T' x) ty R M (.int k' m) := by
  have := @r_conv P n R M ty T T' x k k' m h1 h2 hx; rwa [h] at this
/-! #### addresses -/
theorem r_field {s f off : Nat} [h : HasF P s f off] {A : Addr} (hx : R.ev x = some (.pointer (some A))) : Res P n (.fieldAddr s x f) ty R M (.pointer (some (A.add off))) :=
  ⟨fun a w hR hM => by simp [execOp, hR.ev hx, h.eq]⟩
theorem add_mk (b o i : Nat) : (⟨b, o, none⟩ : Addr).add i = ⟨b, o + i, none⟩ := by unfold Addr.add; split <;> simp_all
theorem r_field' {s f off o : Nat} [h : HasF P s f off] (hx : R.ev x = some (.pointer (some ⟨b, o, none⟩))) : Res P n (.fieldAddr s x f) ty R M (.pointer (some ⟨b, o + off, none⟩)) := by
  rw [← add_mk]; exact r_field hx
theorem r_nilCheck {A : Addr} (hx : R.ev x = some (.pointer (some A))) : Res P n (.nilCheck x) ty R M (.pointer (some A)) := ⟨fun a w hR hM => by simp [execOp, hR.ev hx]⟩
end
end Go.Proofs.Ytfkhdhdbfejbpaa.MX
