/- Two library functions without bodies, as plain functions. -/
namespace Go.Gw
def Jnz (x y c:Int):Option (Int×Int):=
 if 0≤x∧0≤y∧0≤c∧c≤1 then some ((x+y+c)%18446744073709551616,(x+y+c)/18446744073709551616) else none
def Jnx (x y b:Int):Option (Int×Int):=
 if 0≤x∧(0≤y∧y<18446744073709551616)∧0≤b∧b≤1 then some ((x-y-b)%18446744073709551616,if x<y+b then 1 else 0) else none
end Go.Gw
